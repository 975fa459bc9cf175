/- Part of a proof that a law of the given program answers true. -/
import Derived.Test.YtjdjdbkoplmjeaaGreatDoorQKA
import Derived.Test.YtjdjdbkoplmjeaaGreatDoorQCA
set_option linter.unusedSimpArgs false
set_option linter.unusedVariables false
set_option maxHeartbeats 4000000
namespace Go.Proofs
open Go.E
inductive Nd where
 |mk (sym prod at_:Int) (kids:List Nd)
def Fst (R:Int→Nat→Nat→Nd→Prop):List Int→Nat→Nat→List Nd→Prop
 |[],i,b,ks=>b=i∧ks=[]
 |s::l,i,b,ks=> ∃a k r,ks=k::r∧R s i a k∧Fst R l a b r
def yZ (g:Grammar) (L:Nat→Int→Prop):Nat→Int→Nat→Nat→Nd→Prop
 |0,_,_,_,_=>False
 |d+1,s,i,j,t=>(s<1000∧j=i+1∧L i s∧t=.mk s (-1) i [])∨ ∃(m:Nat) (p:GPr) (ks:List Nd),g.prods[m]?=some p∧s=1000+p.left∧t=.mk s m (-1) ks∧Fst (yZ g L d) p.right i j ks
theorem Fst.mono {R R':Int→Nat→Nat→Nd→Prop} (h: ∀s i j t,R s i j t→R' s i j t): ∀{l:List Int} {i b:Nat} {ks:List Nd},Fst R l i b ks→Fst R' l i b ks
 |[],_,_,_,hf=>hf
 | _::_,_,_,_,⟨a,k,r,e,h1,h2⟩=>⟨a,k,r,e,h _ _ _ _ h1,Fst.mono h h2⟩
theorem yZ.up {g:Grammar} {L:Nat→Int→Prop}: ∀{d:Nat} {s:Int} {i j:Nat} {t:Nd},yZ g L d s i j t→yZ g L (d+1) s i j t
 |0,_,_,_,_,h=>h.elim
 | d+1,s,i,j,t,h=>by
   rcases h with h|⟨m,p,ks,h1,h2,h3,h4⟩
   · exact Or.inl h
   · exact Or.inr ⟨m,p,ks,h1,h2,h3,h4.mono fun _ _ _ _ h=>yZ.up h⟩
theorem yZ.mono {g:Grammar} {L:Nat→Int→Prop} {d d':Nat} {s:Int} {i j:Nat} {t:Nd} (h:yZ g L d s i j t) (hd:d≤d'):yZ g L d' s i j t:=by
 induction hd with
 |refl=>exact h
 |step _ ih=>exact ih.up
abbrev Nd.sym:Nd→Int|.mk s _ _ _=>s
abbrev Nd.prod:Nd→Int|.mk _ p _ _=>p
abbrev Nd.at_:Nd→Int|.mk _ _ a _=>a
abbrev Nd.kids:Nd→List Nd|.mk _ _ _ ks=>ks
mutual
def Nd.V:Nd→V
 |.mk s p a ks=>.agg [vi s,vi p,vi a,.sl 4 false (Nd.Vs ks)]
def Nd.Vs:List Nd→List V
 |[]=>[]
 |k::r=>k.V::Nd.Vs r
end
theorem Nd.Vs_map: ∀l:List Nd,Nd.Vs l=l.map Nd.V
 |[]=>rfl
 |k::r=>by rw[Nd.Vs,Nd.Vs_map r];rfl
theorem Nd.V_mk (s p a:Int) (ks:List Nd):(Nd.mk s p a ks).V=.agg [vi s,vi p,vi a,.sl 4 false (ks.map Nd.V)]:=by rw[Nd.V,Nd.Vs_map]
mutual
def Nd.size:Nd→Nat
 |.mk _ _ _ ks=>Nd.sizes ks+1
def Nd.sizes:List Nd→Nat
 |[]=>0
 |k::r=>k.size+Nd.sizes r
end
theorem Nd.size_pos: ∀t:Nd,1≤t.size
 |.mk _ _ _ ks=>by rw[Nd.size];omega
theorem Nd.sizes_get: ∀{l:List Nd} {i:Nat} {k:Nd},l[i]?=some k→k.size≤Nd.sizes l
 |[],i,k,h=>by simp at h
 | a::r,0,k,h=>by
   have e:a=k:=by simpa using h
   subst e;rw[Nd.sizes];omega
 | a::r,i+1,k,h=>by
   have:=Nd.sizes_get (l:=r) (i:=i) (k:=k) (by simpa using h)
   rw[Nd.sizes];omega
theorem Nd.sizes_len: ∀l:List Nd,l.length≤Nd.sizes l
 |[]=>Nat.zero_le _
 |a::r=>by have:=Nd.sizes_len r;have:=a.size_pos;rw[Nd.sizes,List.length_cons];omega
theorem Nd.sizes_snoc: ∀(l:List Nd) (k:Nd),Nd.sizes (l++[k])=Nd.sizes l+k.size
 |[],k=>by simp[Nd.sizes]
 |a::r,k=>by rw[List.cons_append,Nd.sizes,Nd.sizes_snoc r k,Nd.sizes];omega
mutual
def Nd.sizeR:Nd→Nat
 |.mk _ _ _ ks=>Nd.sizeRs 1 ks
def Nd.sizeRs (n:Nat):List Nd→Nat
 |[]=>n
 |k::r=>if n≤3000 then Nd.sizeRs (n+k.sizeR) r else n
end
theorem Nd.sizeRs_app: ∀(l m:List Nd) (n:Nat),Nd.sizeRs n (l++m)=Nd.sizeRs (Nd.sizeRs n l) m
 |[],m,n=>by rw[List.nil_append,Nd.sizeRs]
 | k ::r,m,n=>by
   rw[List.cons_append,Nd.sizeRs,Nd.sizeRs]
   split
   · exact Nd.sizeRs_app r m _
   · rename_i h
     cases m with
     |nil=>rw[Nd.sizeRs]
     |cons a b=>rw[Nd.sizeRs,if_neg h]
mutual
theorem Nd.sizeR_le: ∀t:Nd,t.sizeR≤t.size
 |.mk _ _ _ ks=>by have:=Nd.sizeRs_le ks 1;rw[Nd.sizeR,Nd.size];omega
theorem Nd.sizeRs_le: ∀(l:List Nd) (n:Nat),Nd.sizeRs n l≤n+Nd.sizes l
 |[],n=>by rw[Nd.sizeRs,Nd.sizes];omega
 | k::r,n=>by
   have:=Nd.sizeR_le k
   have:=Nd.sizeRs_le r (n+k.sizeR)
   rw[Nd.sizeRs,Nd.sizes];split<;>omega
end
mutual
theorem Nd.sizeR_eq: ∀t:Nd,t.sizeR≤3000→t.sizeR=t.size
 |.mk _ _ _ ks=>fun h=>by rw[Nd.sizeR]at h;have:=Nd.sizeRs_eq ks 1 h;rw[Nd.sizeR,Nd.size];omega
theorem Nd.sizeRs_eq: ∀(l:List Nd) (n:Nat),Nd.sizeRs n l≤3000→Nd.sizeRs n l=n+Nd.sizes l
 |[],n=>fun _=>by rw[Nd.sizeRs,Nd.sizes];rfl
 | k ::r,n=>fun h=>by
   rw[Nd.sizeRs]at h ⊢
   rw[Nd.sizes]
   by_cases h1:n≤3000
   · rw[if_pos h1]at h ⊢
     have h2:=Nd.sizeRs_eq r _ h
     have:=Nd.sizeR_eq k o_
     omega
   · rw[if_neg h1]at h;omega
end
mutual
def Nd.yld:Nd→List Int
 |.mk s p _ ks=>if p= -1 then[s]else Nd.ylds ks
def Nd.ylds:List Nd→List Int
 |[]=>[]
 |k::r=>k.yld++Nd.ylds r
end
mutual
theorem Nd.yld_len: ∀t:Nd,t.yld.length≤t.size
 | .mk s p _ ks=>by
   have:=Nd.ylds_len ks
   rw[Nd.yld,Nd.size];split
   · simp
   · omega
theorem Nd.ylds_len: ∀l:List Nd,(Nd.ylds l).length≤Nd.sizes l
 |[]=>by rw[Nd.ylds,Nd.sizes];exact Nat.le_refl _
 |k::r=>by have:=Nd.yld_len k;have:=Nd.ylds_len r;rw[Nd.ylds,Nd.sizes,List.length_append];omega
end
def qfp:Nat→Int→Prop:=fun _ _=>True
theorem qc9 {g:Grammar} {L:Nat→Int→Prop} {d:Nat} {s:Int} {i j:Nat} {t:Nd} (h:yZ g L d s i j t):t.sym=s:=by
 cases d with
 |zero=>exact h.elim
 | succ d=>
   rcases h with ⟨_,_,_,rfl⟩|⟨m,p,ks,_,_,rfl,_⟩<;>rfl

mutual
def Nd.whole (g:Grammar):Nd→Bool
 | .mk s p a ks=>if p= -1 then decide (0≤s∧s<g.toks.length∧0≤a∧ks.length=0)
   else decide (0≤p∧a= -1) && (match g.prods[p.toNat]? with|none=>false|some x=>decide (s=1000+x.left) && Nd.wholes g x.right ks)
def Nd.wholes (g:Grammar):List Int→List Nd→Bool
 |[],[]=>true
 |s::l,k::r=>decide (k.sym=s) && (k.whole g && Nd.wholes g l r)
 |[],_::_=>false
 | _::_,[]=>false
end
mutual
def Nd.prs:Nd→List Int
 |.mk _ p _ ks=>if p= -1 then[]else Nd.prss ks++[p]
def Nd.prss:List Nd→List Int
 |[]=>[]
 |k::r=>k.prs++Nd.prss r
end
mutual
theorem Nd.prs_len: ∀t:Nd,t.prs.length≤t.size
 | .mk s p _ ks=>by
   have:=Nd.prss_len ks
   rw[Nd.prs,Nd.size];split
   · simp
   · rw[List.length_append,List.length_singleton];omega
theorem Nd.prss_len: ∀l:List Nd,(Nd.prss l).length≤Nd.sizes l
 |[]=>by rw[Nd.prss,Nd.sizes];exact Nat.le_refl _
 |k::r=>by have:=Nd.prs_len k;have:=Nd.prss_len r;rw[Nd.prss,Nd.sizes,List.length_append];omega
end
abbrev qsJ:=Option (Nd×List Int×List Int×Nat)
def X6 (f:Int→List Int→List Int→Nat→qsJ):List Int→List Int→List Int→Nat→Option (List Nd×List Int×List Int×Nat)
 |[],P,T,n=>some ([],P,T,n)
 | s ::r,P,T,n=>match f s P T n with
   |none=>none
   | some (k,P',T',n')=>match X6 f r P' T' n' with
     |none=>none
     |some (ks,q)=>some (k::ks,q)
theorem Jm (f:Int→List Int→List Int→Nat→qsJ): ∀(a b P T:List Int) (n:Nat),X6 f (a++b) P T n=(match X6 f a P T n with|none=>none|some (ks,P',T',n')=>(match X6 f b P' T' n' with|none=>none|some (ks',q)=>some (ks++ks',q)))
 | [],b,P,T,n=>by
   rw[List.nil_append,X6]
   dsimp only
   cases X6 f b P T n with
   |none=>rfl
   |some q=>rfl
 | s ::a,b,P,T,n=>by
   rw[List.cons_append,X6,X6]
   cases f s P T n with
   |none=>rfl
   | some q=>
     obtain ⟨k,P',T',n'⟩:=q
     dsimp only
     rw[Jm f a b P' T' n']
     cases X6 f a P' T' n' with
     |none=>rfl
     | some q=>
       obtain ⟨ks,P2,T2,n2⟩:=q
       dsimp only
       cases X6 f b P2 T2 n2 with
       |none=>rfl
       |some q=>rfl
def bld (g:Grammar):Nat→Int→List Int→List Int→Nat→qsJ
 |0,_,_,_,_=>none
 | d + 1,s,P,T,n=>
   if n=0 then none
   else if s<1000 then
    (match T.getLast? with
     |none=>none
     |some x=>if x=s then some (.mk s (-1) ((T.length:Int) - 1) [],P,T.dropLast,n - 1)else none)
   else match P.getLast? with
    |none=>none
    | some p=>if p<0 then none else match g.prods[p.toNat]? with
      |none=>none
      | some x=>if 1000+x.left=s then
       (match X6 (bld g d) x.right.reverse P.dropLast T (n - 1)with
        |none=>none
        |some (ks,P',T',n')=>some (.mk s p (-1) ks.reverse,P',T',n'))
        else none

set_option maxRecDepth 20000
theorem Nd.sizes_take (l:List Nd) (i:Nat):Nd.sizes (l.take i)≤Nd.sizes l:=by
 have h1: ∀(l m:List Nd),Nd.sizes l≤Nd.sizes (l++m):=fun l m=>by
  induction l with
  |nil=>rw[Nd.sizes];exact Nat.zero_le _
  |cons a r ih=>rw[List.cons_append,Nd.sizes,Nd.sizes];omega
 have h2:=h1 (l.take i) (l.drop i)
 rwa [List.take_append_drop]at h2
mutual
theorem qrE {b:Bool} {H:Nat→Option MObj}: ∀t:Nd,Er b H t.V t.V
 | .mk s p a ks=>by
   rw[Nd.V]
   exact ErL.agg (.cons (.int _ _) (.cons (.int _ _) (.cons (.int _ _) (.cons (ErL.sl (qh2 ks)) .nil))))
theorem qh2 {b:Bool} {H:Nat→Option MObj}: ∀l:List Nd,ErL b H (Nd.Vs l) (Nd.Vs l)
 |[]=>.nil
 |k::r=>by rw[Nd.Vs];exact .cons (qrE k) (qh2 r)
end
instance nd_cl (t:Nd):Cl t.V:=⟨fun b H=>qrE t⟩
theorem Nd.size_kid {s p a:Int} {ks:List Nd} {k:Nd} (h:k∈ks):k.size<(Nd.mk s p a ks).size:=by
 obtain ⟨i,hi⟩:=List.getElem?_of_mem h
 have:=Nd.sizes_get hi
 rw[Nd.size];omega
theorem YK {y p a:Int} {ks:List Nd} (ih: ∀k∈ks,Pure Tryz.prog 25 [k.V] (vi k.size)) (hb:(Nd.mk y p a ks).size≤1000000000000):Pure Tryz.prog 25 [(Nd.mk y p a ks).V] (vi (Nd.mk y p a ks).size):=by
 refine pure_intro Tryz.func25 nm_ qqG (by show 1≤19;decide) ?_
 show ewp _ qhn _ _
 have hsz:Nd.sizes ks≤1000000000000:=by rw[Nd.size]at hb;omega
 have hkl:=Nd.sizes_len ks
 rw[Nd.V_mk,Nd.size]
 repeat' with_reducible first
  |refine s_ ?_
  |simp -implicitDefEqProofs only[wZZ,seval]
  |refine t_ ?_
 refine qb ?nx1 (fun(i:Nat) s=>s.f 7=?v1_7∧s.f 8=?v1_8∧s.f 3=vi (Nd.sizes (ks.take i)+1:Nat)∧s.f 9=vi i∧(i≤ks.length)) (fun i=>ks.length - i) (0) wj_ (by refine⟨?_,?_,?_,?_,wo_⟩<;>first|(simp -implicitDefEqProofs only[wL,wM,wN,wX,seval,Option.some.injEq]<;>exact wt_)|rfl|exact⟨_,rfl⟩) ?_
 intro i s hnx ⟨g7,g8,g3,g9,k1_0⟩
 have hz:=w1_ i
 by_cases hi:i<ks.length
 · have hgi:ks[i]?=some ks[i]:=ge_ hi
   have htk:ks.take (i+1)=ks.take i++[ks[i]]:=by rw[List.take_add_one,hgi];rfl
   have hih:=ih _ (List.getElem_mem hi)
   have hle2:Nd.sizes (ks.take (i+1))≤Nd.sizes ks:=Nd.sizes_take ks (i+1)
   have hst:Nd.sizes (ks.take (i+1))=Nd.sizes (ks.take i)+ks[i].size:=by rw[htk,Nd.sizes_snoc]
   rw[hst]at hle2
   generalize ks[i]=k at *
   generalize Nd.sizes (ks.take i)=n at *
   have hz2:IntKind.i64.wrap (((n+1:Nat):Int)+(k.size:Int))=((n+k.size+1:Nat):Int):=by rw[wrap64 o_ o_];omega
   obtain ⟨ks',kp,ka,kk⟩:=k
   rw[Nd.V_mk]at hih
   repeat' with_reducible first
    |refine s_ ?_
    |simp -implicitDefEqProofs only[wZZ,seval,g7,g8,g3,g9,hz,hz2,Nd.V_mk]
    |apply qa<;>intro h h_<;>(try simp only[wD,reduceCtorEq]at h_)<;>(try exact wb_)<;>(try simp only[h])
    |refine t_ ?_
    |refine cq1 hih qg ?_
   refine⟨wk_,i+1,o_,?_⟩
   refine⟨?_,?_,?_,?_,?_⟩
   iterate 4 (focus(first|(simp -implicitDefEqProofs only[wL,wM,wN,wX,seval,Option.some.injEq,g7,g8,g3,g9,hst]<;>exact wt_)|rfl|exact⟨_,rfl⟩))
   all_goals try omega
 · have e:ks.take i=ks:=List.take_of_length_le o_
   rw[e]at g3
   repeat' with_reducible first
    |refine s_ ?_
    |simp -implicitDefEqProofs only[wZZ,seval,g7,g8,g3,g9]
    |apply qa<;>intro h h_<;>(try simp only[wD,reduceCtorEq]at h_)<;>(try exact wb_)<;>(try simp only[h])
   all_goals refine qD rfl (Or.inr rfl) ?_
   all_goals(try simp -implicitDefEqProofs only[wL,seval,g7,g8,g3,g9])
   all_goals refine er_ ?_
   all_goals(try(with_reducible rfl))
theorem Jz: ∀(n:Nat) (t:Nd),t.size≤n→t.size≤1000000000000→Pure Tryz.prog 25 [t.V] (vi t.size)
 |0,t,h,_=>by have:=t.size_pos;omega
 |n+1,.mk s p a ks,h,hb=>YK (fun k hk=>by have:=Nd.size_kid (s:=s) (p:=p) (a:=a) hk;exact Jz n k o_ o_) hb

theorem Nd.wholes_len {g:Grammar}: ∀{l:List Int} {ks:List Nd},Nd.wholes g l ks=true→ks.length=l.length
 |[],[],_=>rfl
 | s::l,k::r,h=>by
   rw[Nd.wholes,Bool.and_eq_true,Bool.and_eq_true]at h
   rw[List.length_cons,List.length_cons,Nd.wholes_len h.2.2]
 |[],_::_,h=>by rw[Nd.wholes]at h;cases h
 | _::_,[],h=>by rw[Nd.wholes]at h;cases h
theorem Nd.wholes_at {g:Grammar}: ∀{l:List Int} {ks:List Nd} {i:Nat} {s:Int} {k:Nd},Nd.wholes g l ks=true→l[i]?=some s→ks[i]?=some k→k.sym=s∧k.whole g=true
 |[],_,i,s,k,_,h,_=>by simp at h
 | _::_,[],i,s,k,_,_,h=>by simp at h
 | s'::l,k'::r,0,s,k,h,h1,h2=>by
   rw[Nd.wholes,Bool.and_eq_true,Bool.and_eq_true,decide_eq_true_eq]at h
   rw[List.getElem?_cons_zero,Option.some_inj]at h1 h2
   subst h1 h2;exact⟨h.1,h.2.1⟩
 | s'::l,k'::r,i+1,s,k,h,h1,h2=>by
   rw[Nd.wholes,Bool.and_eq_true,Bool.and_eq_true]at h
   rw[List.getElem?_cons_succ]at h1 h2
   exact Nd.wholes_at h.2.2 h1 h2
theorem Nd.wholes_all {g:Grammar}: ∀{l:List Int} {ks:List Nd},ks.length=l.length→(∀(i:Nat) (s:Int) (k:Nd),l[i]?=some s→ks[i]?=some k→k.sym=s∧k.whole g=true)→Nd.wholes g l ks=true
 |[],[],_,_=>by rw[Nd.wholes]
 | s::l,k::r,h,h1=>by
   obtain ⟨a,b⟩:=h1 0 s k rfl rfl
   rw[Nd.wholes,a,b,Nd.wholes_all (by simpa using h) fun i s k h2 h3=>h1 (i+1) s k h2 h3];simp
 |[],_::_,h,_=>by simp at h
 | _::_,[],h,_=>by simp at h
def Nd.xQ (g:Grammar) (c:Nat) (t:Nd):Bool:=decide (t.size≤c) && t.whole g
def qsi (g:Grammar) (H:Nat→Option MObj) (next id c:Nat) (t:Nd):V→(Nat→Option MObj)→Nat→Prop:=fun v H' n'=>next≤n'∧v=.bool (t.xQ g c)∧(∃x,H' id=some (.own 1 [x] false))∧(t.xQ g c=true→H' id=some (.own 1 [vi ((c - t.size:Nat):Int)] false))∧ ∀j,j<next→j≠id→H' j=H j
theorem JA {g:Grammar} {H H':Nat→Option MObj} {next id c n':Nat} {t:Nd} {v x:V} (hn:next≤n') (hx:H' id=some (.own 1 [x] false)) (hv:v=.bool false) (hb:t.xQ g c=false) (hj: ∀j,j<next→j≠id→H' j=H j):qsi g H next id c t v H' n':=
 ⟨hn,by rw[hb];exact hv,⟨x,hx⟩,(fun h=>by rw[hb]at h;cases h),hj⟩
theorem qeg {g:Grammar} {H H':Nat→Option MObj} {next id c n':Nat} {t:Nd} {v:V} (hn:next≤n') (hx:H' id=some (.own 1 [vi ((c - t.size:Nat):Int)] false)) (hv:v=.bool true) (hb:t.xQ g c=true) (hj: ∀j,j<next→j≠id→H' j=H j):qsi g H next id c t v H' n':=
 ⟨hn,by rw[hb];exact hv,⟨_,hx⟩,fun _=>hx,hj⟩
def qss (g:Grammar) (l:List Int) (ks:List Nd) (i:Nat):Prop:= ∀(j:Nat) (x:Int) (k:Nd),j<i→l[j]?=some x→ks[j]?=some k→k.sym=x∧k.whole g=true
theorem qf1 {H : Nat →Option MObj} {next id c:Nat} {g:Grammar} {y p a:Int} {ks:List Nd} (hg:GOk g) (ih: ∀k∈ks,∀(H:Nat→Option MObj) (next c:Nat),H id=some (.own 1 [vi c] false)→id<next→c≤1000000000000→qJ Tryz.prog 82 [g.V,k.V,.ptr id 0 0] H next (qsi g H next id c k)) (hH:H id=some (.own 1 [vi c] false)) (hid:id<next) (hc:c≤1000000000000) (hks:(Nd.mk y p a ks).size≤1000000000000):qJ Tryz.prog 82 [g.V,(Nd.mk y p a ks).V,.ptr id 0 0] H next (qsi g H next id c (.mk y p a ks)):=by
 refine qF Tryz.func82 nm_ qqC (by show 3≤108;decide) ?_
 show ewp _ qhu _ _
 have hkl:=Nd.sizes_len ks
 have hsz:(Nd.mk y p a ks).size=Nd.sizes ks+1:=by rw[Nd.size]
 have hz:IntKind.i64.wrap ((c:Int) - 1)=(c:Int) - 1:=wrap64 o_ o_
 rw[Nd.V_mk]
 by_cases hc0:c=0
 · have hb:(Nd.mk y p a ks).xQ g c=false:=by unfold Nd.xQ;rw[decide_eq_false o_];rfl
   repeat' with_reducible first
    |refine s_ ?_
    |simp -implicitDefEqProofs only[wZZ,seval,hH,hz]
    |apply qa<;>intro h h_<;>(try simp only[wD,reduceCtorEq]at h_)<;>(try exact wb_)<;>(try simp only[h])
    |apply zC;exact wu_
    |apply zD;exact wu_;exact wu_;exact wu_
    |refine t_ ?_
    |simp -implicitDefEqProofs (disch:=omega) only[w64,if_neg]
   exact yt rfl (Or.inr rfl) (JA (x:=vi ((c:Int) - 1)) wg_ hh_ (by first|((simp -implicitDefEqProofs only[wL,seval]);done)|((simp -implicitDefEqProofs only[wL,seval]);exact congrArg V.bool (decide_eq_false o_))) hb (fun j h1 h2=>hh_))
 · replace hz : IntKind.i64.wrap ((c:Int) - 1)=((c - 1:Nat):Int):=by rw[hz];omega
   by_cases hp:p= -1
   · subst hp
     by_cases hq:0≤y∧y<g.toks.length∧0≤a∧ks.length=0
     · obtain ⟨hq1,hq2,hq3,hq4⟩:=hq
       obtain rfl:=List.length_eq_zero_iff.1 hq4
       have hs1:(Nd.mk y (-1) a []).size=1:=by rw[Nd.size,Nd.sizes]
       have hb:(Nd.mk y (-1) a []).xQ g c=true:=by unfold Nd.xQ;rw[decide_eq_true o_,Nd.whole,if_pos rfl];exact decide_eq_true ⟨hq1,hq2,hq3,rfl⟩
       repeat' with_reducible first
        |refine s_ ?_
        |simp -implicitDefEqProofs only[wZZ,seval,hH,hz]
        |(first|apply qa|apply qj|apply qx)<;>intro h h_<;>(try simp only[wD,reduceCtorEq]at h_)<;>(try exact wb_)<;>(try simp only[h])
        |refine t_ ?_
        |apply zC;exact wu_
        |apply zD;exact wu_;exact wu_;exact wu_
        |simp -implicitDefEqProofs (disch:=omega) only[w64,if_neg]
       all_goals first|(exfalso;omega)|(exact yt rfl (Or.inr rfl) (qeg wg_ (by rw[hs1];((try simp only[wM]);(repeat first|rw[if_pos trivial]|rw[if_pos rfl]|rw[if_neg o_]))) (by first|((simp -implicitDefEqProofs only[wL,seval]);done)|((simp -implicitDefEqProofs only[wL,seval]);exact congrArg V.bool (decide_eq_false o_))) hb (fun j h1 h2=>hh_)))
     · have hb:(Nd.mk y (-1) a ks).xQ g c=false:=by unfold Nd.xQ;rw[Nd.whole,if_pos rfl,decide_eq_false hq,Bool.and_false]
       repeat' with_reducible first
        |refine s_ ?_
        |simp -implicitDefEqProofs only[wZZ,seval,hH,hz]
        |(first|apply qa|apply qj|apply qx)<;>intro h h_<;>(try simp only[wD,reduceCtorEq]at h_)<;>(try exact wb_)<;>(try simp only[h])
        |refine t_ ?_
        |apply zC;exact wu_
        |apply zD;exact wu_;exact wu_;exact wu_
        |simp -implicitDefEqProofs (disch:=omega) only[w64,if_neg]
       all_goals first|(exfalso;omega)|(exact yt rfl (Or.inr rfl) (JA (x:=vi ((c - 1:Nat):Int)) wg_ hh_ (by first|((simp -implicitDefEqProofs only[wL,seval]);done)|((simp -implicitDefEqProofs only[wL,seval]);exact congrArg V.bool (decide_eq_false o_))) hb (fun j h1 h2=>hh_)))
   · by_cases hpa : ¬ (0≤p∧a= -1)
     · have hb:(Nd.mk y p a ks).xQ g c=false:=by unfold Nd.xQ;rw[Nd.whole,if_neg hp,decide_eq_false hpa];simp
       repeat' with_reducible first
        |refine s_ ?_
        |simp -implicitDefEqProofs only[wZZ,seval,hH,hz]
        |(first|apply qa|apply qj|apply qx)<;>intro h h_<;>(try simp only[wD,reduceCtorEq]at h_)<;>(try exact wb_)<;>(try simp only[h])
        |refine t_ ?_
        |apply zC;exact wu_
        |apply zD;exact wu_;exact wu_;exact wu_
        |simp -implicitDefEqProofs (disch:=omega) only[w64,if_neg]
       all_goals first|(exfalso;omega)|(exact yt rfl (Or.inr rfl) (JA (x:=vi ((c - 1:Nat):Int)) wg_ hh_ (by first|((simp -implicitDefEqProofs only[wL,seval]);done)|((simp -implicitDefEqProofs only[wL,seval]);exact congrArg V.bool (decide_eq_false o_))) hb (fun j h1 h2=>hh_)))
     · obtain ⟨hp0, rfl⟩:=Classical.not_not.1 hpa
       obtain ⟨m,rfl⟩: ∃m:Nat,p=m:=⟨p.toNat,o_⟩
       cases hpr:g.prods[m]? with
       | none=>
         have hml:=List.getElem?_eq_none_iff.1 hpr
         have hb:(Nd.mk y m (-1) ks).xQ g c=false:=by unfold Nd.xQ;rw[Nd.whole,if_neg hp,Int.toNat_natCast,hpr];simp
         repeat' with_reducible first
          |refine s_ ?_
          |simp -implicitDefEqProofs only[wZZ,seval,hH,hz]
          |(first|apply qa|apply qj|apply qx)<;>intro h h_<;>(try simp only[wD,reduceCtorEq]at h_)<;>(try exact wb_)<;>(try simp only[h])
          |refine t_ ?_
          |apply zC;exact wu_
          |apply zD;exact wu_;exact wu_;exact wu_
          |simp -implicitDefEqProofs (disch:=omega) only[w64,if_neg]
         all_goals first|(exfalso;omega)|(exact yt rfl (Or.inr rfl) (JA (x:=vi ((c - 1:Nat):Int)) wg_ hh_ (by first|((simp -implicitDefEqProofs only[wL,seval]);done)|((simp -implicitDefEqProofs only[wL,seval]);exact congrArg V.bool (decide_eq_false o_))) hb (fun j h1 h2=>hh_)))
       | some pr =>
         have hml:=(List.getElem?_eq_some_iff.1 hpr).1
         have hmem:=List.mem_of_getElem? hpr
         obtain ⟨lf,hlf,hln⟩:=hg.left pr hmem
         have hrl:=hg.rlen pr hmem
         have hnl:=hg.nn2
         obtain ⟨pl,prr,pc,pco,pa,pat⟩:=pr
         dsimp only at hlf hrl
         subst hlf
         have hzl:IntKind.i64.wrap (1000+(lf:Int))=1000+(lf:Int):=wrap64 o_ o_
         have hwh:(Nd.mk y m (-1) ks).whole g=(decide (y=1000+(lf:Int)) && Nd.wholes g prr ks):=by rw[Nd.whole,if_neg hp,Int.toNat_natCast,hpr,decide_eq_true (show 0≤(m:Int)∧(-1:Int)= -1 by omega)];rfl
         by_cases hys: ¬ (y=1000+(lf:Int)∧ks.length=prr.length)
         · have hb:(Nd.mk y m (-1) ks).xQ g c=false:=by
            unfold Nd.xQ
            rw[hwh,Bool.and_eq_false_iff,Bool.and_eq_false_iff]
            right
            by_cases e:y=1000+(lf:Int)
            · right
              cases hw:Nd.wholes g prr ks with
              |false=>rfl
              |true=>exact absurd ⟨e,Nd.wholes_len hw⟩ hys
            · left;exact decide_eq_false e
           repeat' with_reducible first
            |refine s_ ?_
            |simp -implicitDefEqProofs only[wZZ,seval,hH,hz,hzl]
            |(first|apply qa|apply qj|apply qx)<;>intro h h_<;>(try simp only[wD,reduceCtorEq]at h_)<;>(try exact wb_)<;>(try simp only[h])
            |refine t_ ?_
            |apply zC;exact wu_
            |apply zD;exact wu_;exact wu_;exact wu_
            |simp -implicitDefEqProofs (disch:=omega) only[w64,if_neg]
           all_goals first|(exfalso;omega)|(exact yt rfl (Or.inr rfl) (JA (x:=vi ((c - 1:Nat):Int)) wg_ hh_ (by first|((simp -implicitDefEqProofs only[wL,seval]);done)|((simp -implicitDefEqProofs only[wL,seval]);exact congrArg V.bool (decide_eq_false o_))) hb (fun j h1 h2=>hh_)))
         · obtain ⟨rfl,hlen⟩:=Classical.not_not.1 hys
           repeat' with_reducible first
            |refine s_ ?_
            |simp -implicitDefEqProofs only[wZZ,seval,hH,hz,hzl]
            |(first|apply qa|apply qj|apply qx)<;>intro h h_<;>(try simp only[wD,reduceCtorEq]at h_)<;>(try exact wb_)<;>(try simp only[h])
            |refine t_ ?_
            |apply zC;exact wu_
            |apply zD;exact wu_;exact wu_;exact wu_
            |simp -implicitDefEqProofs (disch:=omega) only[w64,if_neg]
           refine qb ?nx1 (fun(i:Nat) s=>s.f 2=?v1_2∧s.f 3=?v1_3∧s.f 7=?v1_7∧s.f 85=?v1_85∧s.f 86=?v1_86∧s.f 87=vi i∧(i≤ks.length)∧((Nd.sizes (ks.take i)+1≤c))∧(qss g prr ks i)∧((s.H id=some (.own 1 [vi ((c - 1 - Nd.sizes (ks.take i):Nat):Int)] false)))∧((s.H next=some (.own 5 [g.V] false)))∧((s.H (next+3+6+5+4+17+6)=some (.own 6 [(GPr.V ⟨(lf:Int),prr,pc,pco,pa,pat⟩)] false)))∧((∀j,j<next→j≠id→s.H j=H j))) (fun i=>ks.length - i) (0) wj_ (by refine⟨?_,?_,?_,?_,?_,?_,wo_,(by rw[List.take_zero,Nd.sizes];omega),(by intro j x k h;omega),(by(simp only[wM];(repeat first|rw[if_pos trivial]|rw[if_pos rfl]|rw[if_neg o_]));simp only[List.take_zero,Nd.sizes,Nat.sub_zero]),wc_,wc_,(by intro j h1 h2;(simp only[wM];(repeat first|rw[if_pos trivial]|rw[if_pos rfl]|rw[if_neg o_])))⟩<;>first|(simp -implicitDefEqProofs only[wL,wM,wN,wX,seval,Option.some.injEq]<;>exact wt_)|rfl|exact⟨_,rfl⟩) ?_
           intro i s hnx ⟨g2,g3,g7,g85,g86,g87,k1_0,k1_1,k1_2,k1_3,k1_4,k1_5,k1_6⟩
           have hzi:=w1_ i
           by_cases hi:i<ks.length
           · have hgi:ks[i]?=some ks[i]:=ge_ hi
             have hri:prr[i]?=some prr[i]:=ge_ o_
             have htk:ks.take (i+1)=ks.take i++[ks[i]]:=by rw[List.take_add_one,hgi];rfl
             have hih:=ih _ (List.getElem_mem hi)
             have hle2:Nd.sizes (ks.take (i+1))≤Nd.sizes ks:=Nd.sizes_take ks (i+1)
             have hst:Nd.sizes (ks.take (i+1))=Nd.sizes (ks.take i)+ks[i].size:=by rw[htk,Nd.sizes_snoc]
             generalize ks[i]=k at *
             generalize prr[i]=x at *
             have hkV:k.V=.agg [vi k.sym,vi k.prod,vi k.at_,.sl 4 false (k.kids.map Nd.V)]:=by obtain ⟨e1,e2,e3,e4⟩:=k;rw[Nd.V_mk]
             have hwx:Nd.wholes g prr ks=true→k.sym=x∧k.whole g=true:=fun h=>Nd.wholes_at h hri hgi
             simp only[hkV]at hih
             by_cases hsx:k.sym=x
             · subst hsx
               cases hkb:k.xQ g (c - 1 - Nd.sizes (ks.take i))with
               | false=>
                 have hb:(Nd.mk (1000+(lf:Int)) m (-1) ks).xQ g c=false:=by
                  unfold Nd.xQ at hkb ⊢
                  rw[hwh,Bool.and_eq_false_iff]
                  rcases Bool.and_eq_false_iff.1 hkb with h|h
                  · left;have:=of_decide_eq_false h;exact decide_eq_false o_
                  · right
                    cases hw:Nd.wholes g prr ks with
                    |false=>simp
                    |true=>rw[(hwx hw).2]at h;cases h
                 have IHk: ∀(H:Nat→Option MObj) (next:Nat),H id=some (.own 1 [vi ((c - 1 - Nd.sizes (ks.take i):Nat):Int)] false)→id<next→qJ Tryz.prog 82 [g.V,.agg [vi k.sym,vi k.prod,vi k.at_,.sl 4 false (k.kids.map Nd.V)],.ptr id 0 0] H next (fun v H' n'=>next≤n'∧v=.bool false∧(∃x,H' id=some (.own 1 [x] false))∧ ∀j,j<next→j≠id→H' j=H j):=fun H next h1 h2=>(hih H next _ h1 h2 o_).mono fun v H' n' ⟨a1,a2,a3,_,a5⟩=>⟨a1,by rw[a2,hkb],a3,a5⟩
                 repeat' with_reducible first
                  |refine s_ ?_
                  |simp -implicitDefEqProofs only[wZZ,seval,g2,g3,g7,g85,g86,g87,hzi,hkV,k1_4,k1_5]
                  |apply qa<;>intro h h_<;>(try simp only[wD,reduceCtorEq]at h_)<;>(try exact wb_)<;>(try simp only[h])
                  |refine t_ ?_
                  |(refine qI rfl rfl rfl ((IHk _ _ (by((try simp only[wM]);(repeat first|rw[if_pos trivial]|rw[if_pos rfl]|rw[if_neg o_]));exact k1_3) wg_).mono ?_);rintro v1 H1 n1' ⟨q1,rfl,⟨xv,q2⟩,q3⟩;(try simp only[wN]at q1))
                  |simp -implicitDefEqProofs (disch:=omega) only[w64,if_neg]
                 have q3': ∀j,j<s.next→j≠id→H1 j=s.H j:=fun j h1 h2=>(q3 j wg_ h2).trans (by first|rfl|((try simp only[wM]);(repeat first|rw[if_pos trivial]|rw[if_pos rfl]|rw[if_neg o_])))
                 skip
                 all_goals exact yt rfl (Or.inr rfl) (JA (x:=xv) wg_ (by((try simp only[wM]);(repeat first|rw[if_pos trivial]|rw[if_pos rfl]|rw[if_neg o_]));exact q2) (by first|((simp -implicitDefEqProofs only[wL,seval]);done)|((simp -implicitDefEqProofs only[wL,seval]);rfl)) hb (fun j h1 h2=>by((try simp only[wM]);(repeat first|rw[if_pos trivial]|rw[if_pos rfl]|rw[if_neg o_]));rw[q3' j o_ h2];exact k1_6 j h1 h2))
               | true=>
                 have IHk: ∀(H:Nat→Option MObj) (next:Nat),H id=some (.own 1 [vi ((c - 1 - Nd.sizes (ks.take i):Nat):Int)] false)→id<next→qJ Tryz.prog 82 [g.V,.agg [vi k.sym,vi k.prod,vi k.at_,.sl 4 false (k.kids.map Nd.V)],.ptr id 0 0] H next (fun v H' n'=>next≤n'∧v=.bool true∧H' id=some (.own 1 [vi ((c - 1 - Nd.sizes (ks.take i) - k.size:Nat):Int)] false)∧ ∀j,j<next→j≠id→H' j=H j):=fun H next h1 h2=>(hih H next _ h1 h2 o_).mono fun v H' n' ⟨a1,a2,_,a4,a5⟩=>⟨a1,by rw[a2,hkb],a4 hkb,a5⟩
                 repeat' with_reducible first
                  |refine s_ ?_
                  |simp -implicitDefEqProofs only[wZZ,seval,g2,g3,g7,g85,g86,g87,hzi,hkV,k1_4,k1_5]
                  |apply qa<;>intro h h_<;>(try simp only[wD,reduceCtorEq]at h_)<;>(try exact wb_)<;>(try simp only[h])
                  |refine t_ ?_
                  |(refine qI rfl rfl rfl ((IHk _ _ (by((try simp only[wM]);(repeat first|rw[if_pos trivial]|rw[if_pos rfl]|rw[if_neg o_]));exact k1_3) wg_).mono ?_);rintro v1 H1 n1' ⟨q1,rfl,q2,q3⟩;(try simp only[wN]at q1))
                  |simp -implicitDefEqProofs (disch:=omega) only[w64,if_neg]
                 have q3': ∀j,j<s.next→j≠id→H1 j=s.H j:=fun j h1 h2=>(q3 j wg_ h2).trans (by first|rfl|((try simp only[wM]);(repeat first|rw[if_pos trivial]|rw[if_pos rfl]|rw[if_neg o_])))
                 skip
                 refine⟨wg_,i+1,o_,?_⟩;(repeat refine⟨True.intro,?_⟩)
                 have hkb':=hkb
                 unfold Nd.xQ at hkb'
                 rw[Bool.and_eq_true,decide_eq_true_eq]at hkb'
                 refine⟨rfl,o_,by rw[hst];omega,fun j x' k' h1 h2 h3=>?_,?_,(q3' next o_ o_).trans k1_4,(q3' _ o_ o_).trans k1_5,fun j h1 h2=>(q3' j o_ h2).trans (k1_6 j h1 h2)⟩
                 · by_cases e:j=i
                   · subst e
                     rw[hri]at h2
                     rw[hgi]at h3
                     cases h2
                     cases h3
                     exact⟨rfl,hkb'.2⟩
                   · exact k1_2 j x' k' o_ h2 h3
                 · rw[q2,hst,show c - 1 - (Nd.sizes (ks.take i)+k.size)=c - 1 - Nd.sizes (ks.take i) - k.size by omega]
             · have hb:(Nd.mk (1000+(lf:Int)) m (-1) ks).xQ g c=false:=by
                unfold Nd.xQ
                rw[hwh,Bool.and_eq_false_iff]
                right
                cases hw:Nd.wholes g prr ks with
                |false=>simp
                |true=>exact absurd (hwx hw).1 hsx
               repeat' with_reducible first
                |refine s_ ?_
                |simp -implicitDefEqProofs only[wZZ,seval,g2,g3,g7,g85,g86,g87,hzi,hkV,k1_4,k1_5]
                |(first|apply qa|apply qj|apply qx)<;>intro h h_<;>(try simp only[wD,reduceCtorEq]at h_)<;>(try exact wb_)<;>(try simp only[h])
                |refine t_ ?_
                |simp -implicitDefEqProofs (disch:=omega) only[w64,if_neg]
               all_goals first|(exfalso;omega)|exact yt rfl (Or.inr rfl) (JA (x:=vi ((c - 1 - Nd.sizes (ks.take i):Nat):Int)) wg_ (by((try simp only[wM]);(repeat first|rw[if_pos trivial]|rw[if_pos rfl]|rw[if_neg o_]));exact k1_3) (by first|((simp -implicitDefEqProofs only[wL,seval]);done)|((simp -implicitDefEqProofs only[wL,seval]);rfl)) hb (fun j h1 h2=>by((try simp only[wM]);(repeat first|rw[if_pos trivial]|rw[if_pos rfl]|rw[if_neg o_]));exact k1_6 j h1 h2))
           · have hb:(Nd.mk (1000+(lf:Int)) m (-1) ks).xQ g c=true:=by
              have et:ks.take i=ks:=List.take_of_length_le o_
              rw[et]at k1_1
              unfold Nd.xQ
              rw[hwh,decide_eq_true o_,Nd.wholes_all hlen fun j x k h1 h2=>k1_2 j x k (by have:=(List.getElem?_eq_some_iff.1 h2).1;omega) h1 h2];simp
             repeat' with_reducible first
              |refine s_ ?_
              |simp -implicitDefEqProofs only[wZZ,seval,g2,g3,g7,g85,g86,g87]
              |apply qa<;>intro h h_<;>(try simp only[wD,reduceCtorEq]at h_)<;>(try exact wb_)<;>(try simp only[h])
             exact yt rfl (Or.inr rfl) (qeg wg_ (by((try simp only[wM]);(repeat first|rw[if_pos trivial]|rw[if_pos rfl]|rw[if_neg o_]));rw[k1_3,show ks.take i=ks from List.take_of_length_le o_,hsz,show c - 1 - Nd.sizes ks=c - (Nd.sizes ks+1) by omega]) (by first|((simp -implicitDefEqProofs only[wL,seval]);done)|((simp -implicitDefEqProofs only[wL,seval]);rfl)) hb (fun j h1 h2=>by((try simp only[wM]);(repeat first|rw[if_pos trivial]|rw[if_pos rfl]|rw[if_neg o_]));exact k1_6 j h1 h2))
theorem qe2 {g:Grammar} (hg:GOk g) (id:Nat): ∀(n:Nat) (t:Nd) (H:Nat→Option MObj) (next c:Nat),t.size≤n→t.size≤1000000000000→H id=some (.own 1 [vi c] false)→id<next→c≤1000000000000→qJ Tryz.prog 82 [g.V,t.V,.ptr id 0 0] H next (qsi g H next id c t)
 |0,t,H,next,c,h,_,_,_,_=>by have:=t.size_pos;omega
 |n+1,.mk s p a ks,H,next,c,h,hb,h1,h2,h3=>qf1 hg (fun k hk H next c h1 h2 h3=>by have:=Nd.size_kid (s:=s) (p:=p) (a:=a) hk;exact qe2 hg id n k H next c o_ o_ h1 h2 h3) h1 h2 h3 hb
theorem qbR {g:Grammar} {t:Nd} (hg:GOk g) (hb:t.size≤1000000000000):Pure Tryz.prog 53 [g.V,t.V] (.bool (t.xQ g 3000)):=by
 refine pure_intro Tryz.func53 nm_ qAp (by show 2≤9;decide) ?_
 show ewp _ qsS _ _
 have hm:=fun id=>qe2 hg id t.size t
 have hkV:t.V=.agg [vi t.sym,vi t.prod,vi t.at_,.sl 4 false (t.kids.map Nd.V)]:=by obtain ⟨e1,e2,e3,e4⟩:=t;rw[Nd.V_mk]
 simp only[hkV,Grammar.V]at hm
 rw[hkV]
 repeat' with_reducible first
  |refine qZ ?_
  |simp -implicitDefEqProofs only[wZZ,seval]
  |refine t_ ?_
  |apply zD;exact wu_;exact wu_;exact wu_
 refine qI rfl rfl rfl ((hm _ _ _ 3000 (Nat.le_refl _) hb (by((try simp only[wM]);(repeat first|rw[if_pos trivial]|rw[if_pos rfl]|rw[if_neg o_]));with_unfolding_all rfl) wg_ o_).mono ?_)
 rintro v1 H1 n1' ⟨q1,rfl,⟨xv,q2⟩,_,q3⟩
 repeat' with_reducible first
  |refine yu ?_
 all_goals refine qD rfl (Or.inr rfl) ?_
 all_goals(try simp -implicitDefEqProofs only[wL,seval])
 all_goals refine er_ ?_
 all_goals(try(with_reducible rfl))
end Go.Proofs
