import Derived.Test.YtkcegflhobejmaaGreatDoorBJA
set_option maxRecDepth 20000
set_option linter.all false
set_option maxHeartbeats 4000000
namespace Go.Proofs
open Go.E
inductive Nd where
 |mk (sym prod at_:Int) (kids:List Nd)
def Fst(R:Int->Nat->Nat->Nd->Prop):List Int->Nat->Nat->List Nd->Prop
 |[],i,b,ks=>b=i/\ks=[]
 |s::l,i,b,ks=>∃a k r,ks=k::r/\R s i a k/\Fst R l a b r
def kK(g:Grammar)(L:Nat->Int->Prop):Nat->Int->Nat->Nat->Nd->Prop
 |0,_,_,_,_=>False
 |d+1,s,i,j,t=>(s<1000/\j=i+1/\L i s/\t=.mk s (-1) i [])\/ ∃(m:Nat) (p:GPr) (ks:List Nd),g.prods[m]?=some p/\s=1000+p.left/\t=.mk s m (-1) ks/\Fst (kK g L d) p.right i j ks
theorem Fst.mono{R R':Int->Nat->Nat->Nd->Prop}(h:∀s i j t,R s i j t->R' s i j t):∀{l:List Int} {i b:Nat} {ks:List Nd},Fst R l i b ks->Fst R' l i b ks
 |[],_,_,_,hf=>hf
 | _::_,_,_,_,⟨a,k,r,e,h1,h2⟩=>⟨a,k,r,e,h _ _ _ _ h1,Fst.mono h h2⟩
theorem kK.up{g:Grammar}{L:Nat->Int->Prop}:∀{d:Nat} {s:Int} {i j:Nat} {t:Nd},kK g L d s i j t->kK g L (d+1) s i j t
 |0,_,_,_,_,h=>h.elim
 | d+1,s,i,j,t,h=>by
   rcases h with h|⟨m,p,ks,h1,h2,h3,h4⟩
   . exact Or.inl h
   . exact Or.inr ⟨m,p,ks,h1,h2,h3,h4.mono λ_ _ _ _ h=>kK.up h⟩
theorem kK.mono{g:Grammar}{L:Nat->Int->Prop}{d d':Nat}{s:Int}{i j:Nat}{t:Nd}(h:kK g L d s i j t)(hd:d<=d'):kK g L d' s i j t:=by
 induction hd with
 |refl=>exact h
 |step _ ih=>exact ih.up
abbrev Nd.sym:Nd->Int|.mk s _ _ _=>s
abbrev Nd.prod:Nd->Int|.mk _ p _ _=>p
abbrev Nd.at_:Nd->Int|.mk _ _ a _=>a
abbrev Nd.kids:Nd->List Nd|.mk _ _ _ ks=>ks
mutual
def Nd.V:Nd->V
 |.mk s p a ks=>.agg [vi s,vi p,vi a,.sl 4 false (Nd.Vs ks)]
def Nd.Vs:List Nd->List V
 |[]=>[]
 |k::r=>k.V::Nd.Vs r
end
theorem Nd.Vs_map:∀l:List Nd,Nd.Vs l=l.map Nd.V
 |[]=>rfl
 |k::r=>by rw[Nd.Vs,Nd.Vs_map r];rfl
theorem Nd.V_mk(s p a:Int)(ks:List Nd):(Nd.mk s p a ks).V=.agg [vi s,vi p,vi a,.sl 4 false (ks.map Nd.V)]:=by rw[Nd.V,Nd.Vs_map]
mutual
def Nd.size:Nd->Nat
 |.mk _ _ _ ks=>Nd.sizes ks+1
def Nd.sizes:List Nd->Nat
 |[]=>0
 |k::r=>k.size+Nd.sizes r
end
theorem Nd.size_pos:∀t:Nd,1<=t.size
 |.mk _ _ _ ks=>by rw[Nd.size];omega
theorem Nd.sizes_get:∀{l:List Nd} {i:Nat} {k:Nd},l[i]?=some k->k.size<=Nd.sizes l
 |[],i,k,h=>by simp at h
 | a::r,0,k,h=>by have e:a=k:=(by simpa using h);subst e;rw[Nd.sizes];omega
 | a::r,i+1,k,h=>by have:=Nd.sizes_get (l:=r) (i:=i) (k:=k) (by simpa using h);rw[Nd.sizes];omega
theorem Nd.sizes_len:∀l:List Nd,l.length<=Nd.sizes l
 |[]=>Nat.zero_le _
 |a::r=>by have:=Nd.sizes_len r;have:=a.size_pos;rw[Nd.sizes,List.length_cons];omega
theorem Nd.sizes_snoc:∀(l:List Nd) (k:Nd),Nd.sizes (l++[k])=Nd.sizes l+k.size
 |[],k=>by simp[Nd.sizes]
 |a::r,k=>by rw[List.cons_append,Nd.sizes,Nd.sizes_snoc r k,Nd.sizes];omega
mutual
def Nd.sizeR:Nd->Nat
 |.mk _ _ _ ks=>Nd.sizeRs 1 ks
def Nd.sizeRs(n:Nat):List Nd->Nat
 |[]=>n
 |k::r=>if n<=3000 then Nd.sizeRs (n+k.sizeR) r else n
end
theorem Nd.sizeRs_app:∀(l m:List Nd) (n:Nat),Nd.sizeRs n (l++m)=Nd.sizeRs (Nd.sizeRs n l) m
 |[],m,n=>by rw[List.nil_append,Nd.sizeRs]
 | k ::r,m,n=>by
   rw[List.cons_append,Nd.sizeRs,Nd.sizeRs];split
   . exact Nd.sizeRs_app r m _
   . rename_i h;cases m with
     |nil=>rw[Nd.sizeRs]
     |cons a b=>rw[Nd.sizeRs,if_neg h]
mutual
theorem Nd.sizeR_le:∀t:Nd,t.sizeR<=t.size
 |.mk _ _ _ ks=>by have:=Nd.sizeRs_le ks 1;rw[Nd.sizeR,Nd.size];omega
theorem Nd.sizeRs_le:∀(l:List Nd) (n:Nat),Nd.sizeRs n l<=n+Nd.sizes l
 |[],n=>by rw[Nd.sizeRs,Nd.sizes];omega
 | k::r,n=>by have:=Nd.sizeR_le k;have:=Nd.sizeRs_le r (n+k.sizeR);rw[Nd.sizeRs,Nd.sizes];split<;>omega
end
mutual
theorem Nd.sizeR_eq:∀t:Nd,t.sizeR<=3000->t.sizeR=t.size
 |.mk _ _ _ ks=>λh=>by rw[Nd.sizeR]at h;have:=Nd.sizeRs_eq ks 1 h;rw[Nd.sizeR,Nd.size];omega
theorem Nd.sizeRs_eq:∀(l:List Nd) (n:Nat),Nd.sizeRs n l<=3000->Nd.sizeRs n l=n+Nd.sizes l
 |[],n=>λ_=>by rw[Nd.sizeRs,Nd.sizes];rfl
 | k ::r,n=>λh=>by
   rw[Nd.sizeRs]at h ⊢;rw[Nd.sizes];by_cases h1:n<=3000
   . rw[if_pos h1]at h ⊢;have h2:=Nd.sizeRs_eq r _ h;have:=Nd.sizeR_eq k o_;omega
   . rw[if_neg h1]at h;omega
end
mutual
def Nd.yld:Nd->List Int
 |.mk s p _ ks=>if p= -1 then[s]else Nd.ylds ks
def Nd.ylds:List Nd->List Int
 |[]=>[]
 |k::r=>k.yld++Nd.ylds r
end
theorem Nd.ylds_snoc:∀(l:List Nd) (k:Nd),Nd.ylds (l++[k])=Nd.ylds l++k.yld
 |[],k=>by simp[Nd.ylds]
 |a::r,k=>by rw[List.cons_append,Nd.ylds,Nd.ylds_snoc r k,Nd.ylds,List.append_assoc]
mutual
theorem Nd.yld_len:∀t:Nd,t.yld.length<=t.size
 | .mk s p _ ks=>by
   have:=Nd.ylds_len ks;rw[Nd.yld,Nd.size];split
   . simp
   . omega
theorem Nd.ylds_len:∀l:List Nd,(Nd.ylds l).length<=Nd.sizes l
 |[]=>by rw[Nd.ylds,Nd.sizes];exact Nat.le_refl _
 |k::r=>by have:=Nd.yld_len k;have:=Nd.ylds_len r;rw[Nd.ylds,Nd.sizes,List.length_append];omega
end
def qoz:Nat->Int->Prop:=λ_ _=>True
theorem qfx{g:Grammar}{L:Nat->Int->Prop}{d:Nat}{s:Int}{i j:Nat}{t:Nd}(h:kK g L d s i j t):t.sym=s:=by
 cases d with
 |zero=>exact h.elim
 | succ d=>
   rcases h with ⟨_,_,_,rfl⟩|⟨m,p,ks,_,_,rfl,_⟩<;>rfl
mutual
def Nd.prs:Nd->List Int
 |.mk _ p _ ks=>if p= -1 then[]else Nd.prss ks++[p]
def Nd.prss:List Nd->List Int
 |[]=>[]
 |k::r=>k.prs++Nd.prss r
end
theorem Nd.prss_snoc:∀(l:List Nd) (k:Nd),Nd.prss (l++[k])=Nd.prss l++k.prs
 |[],k=>by simp[Nd.prss]
 |a::r,k=>by rw[List.cons_append,Nd.prss,Nd.prss_snoc r k,Nd.prss,List.append_assoc]
mutual
theorem Nd.prs_len:∀t:Nd,t.prs.length<=t.size
 | .mk s p _ ks=>by
   have:=Nd.prss_len ks;rw[Nd.prs,Nd.size];split
   . simp
   . rw[List.length_append,List.length_singleton];omega
theorem Nd.prss_len:∀l:List Nd,(Nd.prss l).length<=Nd.sizes l
 |[]=>by rw[Nd.prss,Nd.sizes];exact Nat.le_refl _
 |k::r=>by have:=Nd.prs_len k;have:=Nd.prss_len r;rw[Nd.prss,Nd.sizes,List.length_append];omega
end

theorem Nd.sizes_take(l:List Nd)(i:Nat):Nd.sizes (l.take i)<=Nd.sizes l:=by
 have h1:∀(l m:List Nd),Nd.sizes l<=Nd.sizes (l++m):=λl m=>by
  induction l with
  |nil=>rw[Nd.sizes];exact Nat.zero_le _
  |cons a r ih=>rw[List.cons_append,Nd.sizes,Nd.sizes];omega
 have h2:=h1 (l.take i) (l.drop i);rwa [List.take_append_drop]at h2
mutual
theorem qwI{b:Bool}{H:Nat->Option MObj}:∀t:Nd,Er b H t.V t.V
 | .mk s p a ks=>by rw[Nd.V];exact ErL.agg (.cons (.int _ _) (.cons (.int _ _) (.cons (.int _ _) (.cons (ErL.sl (qlS ks)) .nil))))
theorem qlS{b:Bool}{H:Nat->Option MObj}:∀l:List Nd,ErL b H (Nd.Vs l) (Nd.Vs l)
 |[]=>.nil
 |k::r=>by rw[Nd.Vs];exact .cons (qwI k) (qlS r)
end
instance nd_cl(t:Nd):Cl t.V:=⟨λb H=>qwI t⟩
variable {ks:List Nd}
theorem Nd.size_kid{s p a:Int}{k:Nd}(h:k∈ks):k.size<(Nd.mk s p a ks).size:=by obtain ⟨i,hi⟩:=List.getElem?_of_mem h;have:=Nd.sizes_get hi;rw[Nd.size];omega
theorem Nd.sizeRs_stop{l:List Nd}{n:Nat}(h:3000<n):Nd.sizeRs n l=n:=by
 cases l with
 |nil=>rw[Nd.sizeRs]
 |cons a r=>rw[Nd.sizeRs,if_neg o_]
theorem qig{y p a:Int}(ih:∀k∈ks,Pure Tryz.prog 42 [k.V] (vi k.sizeR))(hb:(Nd.mk y p a ks).size<=1000000000000):Pure Tryz.prog 42 [(Nd.mk y p a ks).V] (vi (Nd.mk y p a ks).sizeR):=by
 refine pure_intro Tryz.func42 nm_ qq5 (by show 1<=25;decide) ?_
 show ewp _ qsI _ _;have hsz:Nd.sizes ks<=1000000000000:=by rw[Nd.size]at hb;omega
 have hkl:=Nd.sizes_len ks;rw[Nd.V_mk,Nd.sizeR];repeat' with_reducible first|refine s_ ?_|simp -implicitDefEqProofs only[wZZ,seval]|refine t_ ?_
 refine qb ?nx1 (λ(i:Nat) s=>s.f 1=?v1_1/\s.H 0=some (.own 4 [.agg [vi y,vi p,vi a,.sl 4 false (ks.map Nd.V)]] false)/\s.f 3=vi (Nd.sizeRs 1 (ks.take i))/\s.f 4=vi i/\(i<=ks.length)) (λi=>ks.length - i) (0) wj_ (by refine⟨?_,?_,?_,?_,wo_⟩<;>first|(simp -implicitDefEqProofs only[wL,wM,wN,wX,seval,Option.some.injEq]<;>exact wt_)|rfl|exact⟨_,rfl⟩) ?_;intro i s hnx ⟨g1,o0,g3,g4,k1_0⟩;have hz:=w1_ i;by_cases hi:i<ks.length
 . have hgi:ks[i]?=some ks[i]:=ge_ hi;have htk:ks.take (i+1)=ks.take i++[ks[i]]:=(by rw[List.take_add_one,hgi];rfl);have hih:=ih _ (List.getElem_mem hi);have hle:=Nd.sizeRs_le (ks.take (i+1)) 1;have hle2:Nd.sizes (ks.take (i+1))<=Nd.sizes ks:=by
    have h1:∀(l m:List Nd),Nd.sizes l<=Nd.sizes (l++m):=λl m=>by
     induction l with
     |nil=>rw[Nd.sizes];exact Nat.zero_le _
     |cons a r ih=>rw[List.cons_append,Nd.sizes,Nd.sizes];omega
    have h2:=h1 (ks.take (i+1)) (ks.drop (i+1));rwa [List.take_append_drop]at h2
   rw[htk,Nd.sizeRs_app]at hle;by_cases hn:Nd.sizeRs 1 (ks.take i)<=3000
   . have hst:Nd.sizeRs 1 (ks.take (i+1))=Nd.sizeRs 1 (ks.take i)+ks[i].sizeR:=(by rw[htk,Nd.sizeRs_app,Nd.sizeRs,if_pos hn,Nd.sizeRs]);rw[Nd.sizeRs,if_pos hn,Nd.sizeRs]at hle;rw[htk]at hle2;generalize ks[i]=k at *;generalize Nd.sizeRs 1 (ks.take i)=n at *;have hz2:IntKind.i64.wrap ((n:Int)+(k.sizeR:Int))=((n+k.sizeR:Nat):Int):=(by rw[wrap64 o_ o_];omega);obtain ⟨ks',kp,ka,kk⟩:=k;rw[Nd.V_mk]at hih;repeat' with_reducible first|refine s_ ?_|simp -implicitDefEqProofs only[wZZ,seval,g1,g3,g4,o0,hz,hz2,Nd.V_mk]|(first|apply qa|apply qA|apply qB)<;>intro h h_<;>(try simp only[wD,reduceCtorEq]at h_)<;>(try exact wb_)<;>(try simp only[h])|refine t_ ?_|refine cq1 hih qd ?_
     refine⟨wk_,i+1,o_,?_⟩;refine⟨?_,?_,?_,?_,?_⟩;iterate 4 (focus(first|(simp -implicitDefEqProofs only[wL,wM,wN,wX,seval,Option.some.injEq,g1,g3,g4,o0,hst]<;>exact wt_)|rfl|exact⟨_,rfl⟩))
     all_goals try omega
   . have e:Nd.sizeRs 1 ks=Nd.sizeRs 1 (ks.take i):=by
      have:=Nd.sizeRs_app (ks.take i) (ks.drop i) 1;rw[List.take_append_drop]at this;rw[this,Nd.sizeRs_stop o_]
     rw[e];generalize Nd.sizeRs 1 (ks.take i)=n at *;repeat' with_reducible first|refine s_ ?_|simp -implicitDefEqProofs only[wZZ,seval,g1,g3,g4,o0]|(first|apply qa|apply qA|apply qB)<;>intro h h_<;>(try simp only[wD,reduceCtorEq]at h_)<;>(try exact wb_)<;>(try simp only[h])|refine t_ ?_
     all_goals refine qz rfl (Or.inr rfl) ?_
     all_goals(try simp -implicitDefEqProofs only[wL,seval,g1,g3,g4])
     all_goals refine er_ ?_
     all_goals(try(with_reducible rfl))
 . have e:ks.take i=ks:=List.take_of_length_le o_;rw[e]at g3;repeat' with_reducible first|refine s_ ?_|simp -implicitDefEqProofs only[wZZ,seval,g1,g3,g4,o0]|(first|apply qA|apply qB)<;>intro h h_<;>(try simp only[wD,reduceCtorEq]at h_)<;>(try exact wb_)<;>(try simp only[h])|refine t_ ?_
   all_goals refine qz rfl (Or.inr rfl) ?_
   all_goals(try simp -implicitDefEqProofs only[wL,seval,g1,g3,g4])
   all_goals refine er_ ?_
   all_goals(try(with_reducible rfl))
theorem qet:∀(n:Nat) (t:Nd),t.size<=n->t.size<=1000000000000->Pure Tryz.prog 42 [t.V] (vi t.sizeR)
 |0,t,h,_=>by have:=t.size_pos;omega
 |n+1,.mk s p a ks,h,hb=>qig (λk hk=>by have:=Nd.size_kid (s:=s) (p:=p) (a:=a) hk;exact qet n k o_ o_) hb

mutual
def Nd.ats:Nd->List Int
 |.mk _ p a ks=>if p= -1 then[a]else Nd.atss ks
def Nd.atss:List Nd->List Int
 |[]=>[]
 |k::r=>k.ats++Nd.atss r
end
theorem Nd.atss_snoc:∀(l:List Nd) (k:Nd),Nd.atss (l++[k])=Nd.atss l++k.ats
 |[],k=>by simp[Nd.atss]
 |a::r,k=>by rw[List.cons_append,Nd.atss,Nd.atss_snoc r k,Nd.atss,List.append_assoc]
mutual
theorem Nd.ats_len:∀t:Nd,t.ats.length<=t.size
 | .mk s p _ ks=>by
   have:=Nd.atss_len ks;rw[Nd.ats,Nd.size];split
   . simp
   . omega
theorem Nd.atss_len:∀l:List Nd,(Nd.atss l).length<=Nd.sizes l
 |[]=>by rw[Nd.atss,Nd.sizes];exact Nat.le_refl _
 |k::r=>by have:=Nd.ats_len k;have:=Nd.atss_len r;rw[Nd.atss,Nd.sizes,List.length_append];omega
end
abbrev qgP(t:Nd):V:= .tup [zS t.yld,zS t.ats,zS t.prs]
theorem ql6{ef:EF}{t u w:Nat}{res:V}{e:Exit}{s:St}(he:ef.res=[.inl t,.inl u,.inl w])(hx:e=.normal\/e=.ret)(h:Er true s.H (.tup [s.f t,s.f u,s.f w]) res):z8 ef res e s:=
 ⟨hx,_,by rw[he];simp[qcM,qb4,one],h⟩
theorem qgh{y p a:Int}{ks:List Nd}(ih:∀k∈ks,Pure Tryz.prog 81 [k.V] (qgP k))(hb:(Nd.mk y p a ks).size<=1000000000):Pure Tryz.prog 81 [(Nd.mk y p a ks).V] (qgP (.mk y p a ks)):=by
 refine pure_intro Tryz.func81 nm_ qtB (by show 1<=54;decide) ?_
 show ewp _ qsS _ _;have hsz:Nd.sizes ks<=1000000000:=by rw[Nd.size]at hb;omega
 have hkl:=Nd.sizes_len ks;unfold qgP;rw[Nd.V_mk,Nd.yld,Nd.ats,Nd.prs];by_cases hp:p= -1
 . subst hp;rw[if_pos rfl,if_pos rfl,if_pos rfl];repeat' with_reducible first|refine s_ ?_|simp -implicitDefEqProofs only[wZZ,seval]|refine t_ ?_
   exact ql6 rfl (Or.inr rfl) (ErL.tup (.cons (ErL.sl (.cons (.int _ _) .nil)) (.cons (ErL.sl (.cons (.int _ _) .nil)) (.cons (ErL.sl .nil) .nil))))
 . rw [if_neg hp,if_neg hp,if_neg hp];repeat' with_reducible first|refine s_ ?_|simp -implicitDefEqProofs only[wZZ,seval]|apply qa<;>intro h h_<;>(try simp only[wD,reduceCtorEq]at h_)<;>(try exact wb_)<;>(try simp only[h])|refine t_ ?_
   refine qb ?nx1 (λ(i:Nat) s=>s.f 1=?v1_1/\s.H 0=some (.own 4 [.agg [vi y,vi p,vi a,.sl 4 false (ks.map Nd.V)]] false)/\(∃v,s.f 5=v/\Gr s.H s.next 1 ((Nd.ylds (ks.take i)).map (V.int .i64)) v)/\(∃v,s.f 6=v/\Gr s.H s.next 1 ((Nd.atss (ks.take i)).map (V.int .i64)) v)/\(∃v,s.f 7=v/\Gr s.H s.next 1 ((Nd.prss (ks.take i)).map (V.int .i64)) v)/\s.f 8=vi i/\(i<=ks.length)/\(Sep (s.f 5) (s.f 6))/\(Sep (s.f 5) (s.f 7))/\(Sep (s.f 6) (s.f 7))) (λi=>ks.length - i) (0) wj_ (by refine⟨?_,?_,?_,?_,?_,?_,wo_,(by(try simp -implicitDefEqProofs only[wL,wM,wN,seval]);first|exact Sep.slL|exact Sep.slR|exact Sep.ids o_),(by(try simp -implicitDefEqProofs only[wL,wM,wN,seval]);first|exact Sep.slL|exact Sep.slR|exact Sep.ids o_),(by(try simp -implicitDefEqProofs only[wL,wM,wN,seval]);first|exact Sep.slL|exact Sep.slR|exact Sep.ids o_)⟩<;>first|(simp -implicitDefEqProofs only[wL,wM,wN,wX,seval,Option.some.injEq]<;>exact wt_)|rfl|exact⟨_,rfl⟩) ?_;intro i s hnx ⟨g1,o0,⟨v5,g5,G5⟩,⟨v6,g6,G6⟩,⟨v7,g7,G7⟩,g8,k1_0,S5_6,S5_7,S6_7⟩;rw[g5,g6]at S5_6;rw[g5,g7]at S5_7;rw[g6,g7]at S6_7;have hz:=w1_ i;have d56:∀i,gid v5=some i->gid v6=some i->False:=λi a b=>S5_6 i a b;have d57:∀i,gid v5=some i->gid v7=some i->False:=λi a b=>S5_7 i a b;have d67:∀i,gid v6=some i->gid v7=some i->False:=λi a b=>S6_7 i a b;have hle1:=Nd.sizes_take ks i;have l1:=Nd.ylds_len (ks.take i);have l2:=Nd.atss_len (ks.take i);have l3:=Nd.prss_len (ks.take i);by_cases hi:i<ks.length
   . have hgi:ks[i]?=some ks[i]:=ge_ hi;have htk:ks.take (i+1)=ks.take i++[ks[i]]:=(by rw[List.take_add_one,hgi];rfl);have hih:=ih _ (List.getElem_mem hi);have hle2:Nd.sizes (ks.take (i+1))<=Nd.sizes ks:=Nd.sizes_take ks (i+1);have hst:Nd.sizes (ks.take (i+1))=Nd.sizes (ks.take i)+ks[i].size:=(by rw[htk,Nd.sizes_snoc]);have y1:Nd.ylds (ks.take (i+1))=Nd.ylds (ks.take i)++ks[i].yld:=(by rw[htk,Nd.ylds_snoc]);have y2:Nd.atss (ks.take (i+1))=Nd.atss (ks.take i)++ks[i].ats:=(by rw[htk,Nd.atss_snoc]);have y3:Nd.prss (ks.take (i+1))=Nd.prss (ks.take i)++ks[i].prs:=(by rw[htk,Nd.prss_snoc]);have l4:=Nd.yld_len ks[i];have l5:=Nd.ats_len ks[i];have l6:=Nd.prs_len ks[i];generalize ks[i]=k at *;have hkV:k.V=.agg [vi k.sym,vi k.prod,vi k.at_,.sl 4 false (k.kids.map Nd.V)]:=(by obtain ⟨e1,e2,e3,e4⟩:=k;rw[Nd.V_mk]);simp only[hkV]at hih;repeat' with_reducible first|refine s_ ?_|simp -implicitDefEqProofs only[wZZ,seval,g1,g5,g6,g7,g8,o0,Gr.dropO G5 o0,Gr.dropO G6 o0,Gr.dropO G7 o0,hz,hkV,G5.len,G6.len,G7.len]|apply qa<;>intro h h_<;>(try simp only[wD,reduceCtorEq]at h_)<;>(try exact wb_)<;>(try simp only[h])|refine t_ ?_|refine cq1 hih qd ?_|(apply zq rfl (G6.mono (Nat.le_refl _) (λid h1 h2=>by(try simp only[wM,jo]);(repeat first|rw[if_neg o_]|rw[if_neg (λe=>d56 id e h1)])));(focus(first|exact qY.sl|exact qY.asl));(focus(simp only[wZ]<;>omega));(focus(unfold maxLen;simp only[wZ]<;>omega)))|(apply zq rfl (G7.mono (Nat.le_refl _) (λid h1 h2=>by(try simp only[wM,jo]);(repeat first|rw[if_neg o_]|rw[if_neg (λe=>d57 id e h1)]|rw[if_neg (λe=>d67 id e h1)])));(focus(first|exact qY.sl|exact qY.asl));(focus(simp only[wZ]<;>omega));(focus(unfold maxLen;simp only[wZ]<;>omega)))|apply zq (hg:=G5);(focus(first|rfl|(simp -implicitDefEqProofs only[wM];done)));(focus(first|exact qY.sl|exact qY.asl|exact qY.gr G5|exact qY.gr G6|exact qY.gr G7|exact qY.str));exact wf_;(focus(unfold maxLen;first|omega|(simp only[wZ]<;>omega)))
     have e5:∀j,(j=0\/s.next<=j)->gid v5≠some j:=λj hj e=>by
      rcases G5 with rfl|⟨id,fin,rfl,h1,h2⟩
      . cases e
      . cases e;rcases hj with rfl|hj
        . rw[o0]at h1;cases h1
        . omega
     have e6:∀j,(j=0\/s.next<=j)->gid v6≠some j:=λj hj e=>by
      rcases G6 with rfl|⟨id,fin,rfl,h1,h2⟩
      . cases e
      . cases e;rcases hj with rfl|hj
        . rw[o0]at h1;cases h1
        . omega
     have e7:∀j,(j=0\/s.next<=j)->gid v7≠some j:=λj hj e=>by
      rcases G7 with rfl|⟨id,fin,rfl,h1,h2⟩
      . cases e
      . cases e;rcases hj with rfl|hj
        . rw[o0]at h1;cases h1
        . omega
     exact⟨wg_,i+1,o_,trivial,(by(try simp only[wM,jo]);(repeat first|rw[if_pos trivial]|rw[if_pos rfl]|rw[if_neg o_]|rw[if_neg (e7 _ o_)]|rw[if_neg (e6 _ o_)]|rw[if_neg (e5 _ o_)]);exact o0),⟨_,rfl,(by rw[y1];exact Gr.tok (id:=s.next+5+13+2) (fin:=(Nd.ylds (ks.take i)).length+k.yld.length) (by(try simp only[wM,jo]);(repeat first|rw[if_pos trivial]|rw[if_pos rfl]|rw[if_neg o_]|rw[if_neg (e7 _ o_)]|rw[if_neg (e6 _ o_)]|rw[if_neg (e5 _ o_)])) wg_)⟩,⟨_,rfl,(by rw[y2];exact Gr.tok (id:=s.next+5+13+5) (fin:=(Nd.atss (ks.take i)).length+k.ats.length) (by(try simp only[wM,jo]);(repeat first|rw[if_pos trivial]|rw[if_pos rfl]|rw[if_neg o_]|rw[if_neg (e7 _ o_)]|rw[if_neg (e6 _ o_)]|rw[if_neg (e5 _ o_)])) wg_)⟩,⟨_,rfl,(by rw[y3];exact Gr.tok (id:=s.next+5+13+8) (fin:=(Nd.prss (ks.take i)).length+k.prs.length) (by(try simp only[wM,jo]);(repeat first|rw[if_pos trivial]|rw[if_pos rfl]|rw[if_neg o_]|rw[if_neg (e7 _ o_)]|rw[if_neg (e6 _ o_)]|rw[if_neg (e5 _ o_)])) wg_)⟩,rfl,o_,Sep.ids o_,Sep.ids o_,Sep.ids o_⟩
   . have e:ks.take i=ks:=List.take_of_length_le o_;rw[e]at G5 G6 G7 l3;repeat' with_reducible first|refine s_ ?_|simp -implicitDefEqProofs only[wZZ,seval,g1,g5,g6,g7,g8,o0,Gr.dropO G5 o0,Gr.dropO G6 o0,Gr.dropO G7 o0,G5.len,G6.len,G7.len]|apply qa<;>intro h h_<;>(try simp only[wD,reduceCtorEq]at h_)<;>(try exact wb_)<;>(try simp only[h])|apply zq (hg:=G7);(focus(first|rfl|(simp -implicitDefEqProofs only[wM];done)));(focus(first|exact qY.sl|exact qY.asl|exact qY.gr G5|exact qY.gr G6|exact qY.gr G7|exact qY.str));exact wf_;(focus(unfold maxLen;first|omega|(simp only[wZ]<;>omega)))|refine t_ ?_
     exact ql6 rfl (Or.inr rfl) (ErL.tup (.cons (Gr.er G5 rfl) (.cons (Gr.er G6 rfl) (.cons Zy .nil))))
theorem qbA:∀(n:Nat) (t:Nd),t.size<=n->t.size<=1000000000->Pure Tryz.prog 81 [t.V] (qgP t)
 |0,t,h,_=>by have:=t.size_pos;omega
 |n+1,.mk s p a ks,h,hb=>qgh (λk hk=>by have:=Nd.size_kid (s:=s) (p:=p) (a:=a) hk;exact qbA n k o_ o_) hb
end Go.Proofs
