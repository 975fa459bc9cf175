/- Part of a proof that a law of the given program answers true. -/
import Derived.Test.YthgkeppkcjcmjaaTZG
import Derived.Test.YthgkeppkcjcmjaaTNA
import Derived.Test.YthgkeppkcjcmjaaTDB
set_option linter.unusedSimpArgs false
set_option linter.unusedVariables false
set_option maxHeartbeats 4000000
namespace Go.Proofs
open Go.E
inductive Nd where
 |mk (sym prod at_:Int) (kids:List Nd)
def Fst (R:Int→Nat→Nat→Nd→Prop):List Int→Nat→Nat→List Nd→Prop
 |[],i,b,ks=>b=i∧ks=[]
 |s::l,i,b,ks=> ∃a k r,ks=k::r∧R s i a k∧Fst R l a b r
def xE (g:Grammar) (L:Nat→Int→Prop):Nat→Int→Nat→Nat→Nd→Prop
 |0,_,_,_,_=>False
 |d+1,s,i,j,t=>(s<1000∧j=i+1∧L i s∧t=.mk s (-1) i [])∨ ∃(m:Nat) (p:GPr) (ks:List Nd),g.prods[m]?=some p∧s=1000+p.left∧t=.mk s m (-1) ks∧Fst (xE g L d) p.right i j ks
theorem Fst.mono {R R':Int→Nat→Nat→Nd→Prop} (h: ∀s i j t,R s i j t→R' s i j t): ∀{l:List Int} {i b:Nat} {ks:List Nd},Fst R l i b ks→Fst R' l i b ks
 |[],_,_,_,hf=>hf
 | _::_,_,_,_,⟨a,k,r,e,h1,h2⟩=>⟨a,k,r,e,h _ _ _ _ h1,Fst.mono h h2⟩
theorem xE.up {g:Grammar} {L:Nat→Int→Prop}: ∀{d:Nat} {s:Int} {i j:Nat} {t:Nd},xE g L d s i j t→xE g L (d+1) s i j t
 |0,_,_,_,_,h=>h.elim
 | d+1,s,i,j,t,h=>by
   rcases h with h|⟨m,p,ks,h1,h2,h3,h4⟩
   · exact Or.inl h
   · exact Or.inr ⟨m,p,ks,h1,h2,h3,h4.mono fun _ _ _ _ h=>xE.up h⟩
theorem xE.mono {g:Grammar} {L:Nat→Int→Prop} {d d':Nat} {s:Int} {i j:Nat} {t:Nd} (h:xE g L d s i j t) (hd:d≤d'):xE g L d' s i j t:=by
 induction hd with
 |refl=>exact h
 |step _ ih=>exact ih.up
abbrev Nd.sym:Nd→Int|.mk s _ _ _=>s
abbrev Nd.prod:Nd→Int|.mk _ p _ _=>p
abbrev Nd.at_:Nd→Int|.mk _ _ a _=>a
abbrev Nd.kids:Nd→List Nd|.mk _ _ _ ks=>ks
mutual
def Nd.V:Nd→V
 |.mk s p a ks=>.agg [vi s,vi p,vi a,.sl 4 false (Nd.Vs ks)]
def Nd.Vs:List Nd→List V
 |[]=>[]
 |k::r=>k.V::Nd.Vs r
end
theorem Nd.Vs_map: ∀l:List Nd,Nd.Vs l=l.map Nd.V
 |[]=>rfl
 |k::r=>by rw[Nd.Vs,Nd.Vs_map r];rfl
theorem Nd.V_mk (s p a:Int) (ks:List Nd):(Nd.mk s p a ks).V=.agg [vi s,vi p,vi a,.sl 4 false (ks.map Nd.V)]:=by rw[Nd.V,Nd.Vs_map]
mutual
def Nd.size:Nd→Nat
 |.mk _ _ _ ks=>Nd.sizes ks+1
def Nd.sizes:List Nd→Nat
 |[]=>0
 |k::r=>k.size+Nd.sizes r
end
theorem Nd.size_pos: ∀t:Nd,1≤t.size
 |.mk _ _ _ ks=>by rw[Nd.size];omega
theorem Nd.sizes_get: ∀{l:List Nd} {i:Nat} {k:Nd},l[i]?=some k→k.size≤Nd.sizes l
 |[],i,k,h=>by simp at h
 | a::r,0,k,h=>by
   have e:a=k:=by simpa using h
   subst e;rw[Nd.sizes];omega
 | a::r,i+1,k,h=>by
   have:=Nd.sizes_get (l:=r) (i:=i) (k:=k) (by simpa using h)
   rw[Nd.sizes];omega
theorem Nd.sizes_len: ∀l:List Nd,l.length≤Nd.sizes l
 |[]=>Nat.zero_le _
 |a::r=>by have:=Nd.sizes_len r;have:=a.size_pos;rw[Nd.sizes,List.length_cons];omega
theorem Nd.sizes_snoc: ∀(l:List Nd) (k:Nd),Nd.sizes (l++[k])=Nd.sizes l+k.size
 |[],k=>by simp[Nd.sizes]
 |a::r,k=>by rw[List.cons_append,Nd.sizes,Nd.sizes_snoc r k,Nd.sizes];omega
mutual
def Nd.sizeR:Nd→Nat
 |.mk _ _ _ ks=>Nd.sizeRs 1 ks
def Nd.sizeRs (n:Nat):List Nd→Nat
 |[]=>n
 |k::r=>if n≤3000 then Nd.sizeRs (n+k.sizeR) r else n
end
mutual
theorem Nd.sizeR_le: ∀t:Nd,t.sizeR≤t.size
 |.mk _ _ _ ks=>by have:=Nd.sizeRs_le ks 1;rw[Nd.sizeR,Nd.size];omega
theorem Nd.sizeRs_le: ∀(l:List Nd) (n:Nat),Nd.sizeRs n l≤n+Nd.sizes l
 |[],n=>by rw[Nd.sizeRs,Nd.sizes];omega
 | k::r,n=>by
   have:=Nd.sizeR_le k
   have:=Nd.sizeRs_le r (n+k.sizeR)
   rw[Nd.sizeRs,Nd.sizes];split<;>omega
end
mutual
theorem Nd.sizeR_eq: ∀t:Nd,t.sizeR≤3000→t.sizeR=t.size
 |.mk _ _ _ ks=>fun h=>by rw[Nd.sizeR]at h;have:=Nd.sizeRs_eq ks 1 h;rw[Nd.sizeR,Nd.size];omega
theorem Nd.sizeRs_eq: ∀(l:List Nd) (n:Nat),Nd.sizeRs n l≤3000→Nd.sizeRs n l=n+Nd.sizes l
 |[],n=>fun _=>by rw[Nd.sizeRs,Nd.sizes];rfl
 | k ::r,n=>fun h=>by
   rw[Nd.sizeRs]at h ⊢
   rw[Nd.sizes]
   by_cases h1:n≤3000
   · rw[if_pos h1]at h ⊢
     have h2:=Nd.sizeRs_eq r _ h
     have:=Nd.sizeR_eq k o_
     omega
   · rw[if_neg h1]at h;omega
end
mutual
def Nd.yld:Nd→List Int
 |.mk s p _ ks=>if p= -1 then[s]else Nd.ylds ks
def Nd.ylds:List Nd→List Int
 |[]=>[]
 |k::r=>k.yld++Nd.ylds r
end
theorem Nd.ylds_snoc: ∀(l:List Nd) (k:Nd),Nd.ylds (l++[k])=Nd.ylds l++k.yld
 |[],k=>by simp[Nd.ylds]
 |a::r,k=>by rw[List.cons_append,Nd.ylds,Nd.ylds_snoc r k,Nd.ylds,List.append_assoc]
mutual
theorem Nd.yld_len: ∀t:Nd,t.yld.length≤t.size
 | .mk s p _ ks=>by
   have:=Nd.ylds_len ks
   rw[Nd.yld,Nd.size];split
   · simp
   · omega
theorem Nd.ylds_len: ∀l:List Nd,(Nd.ylds l).length≤Nd.sizes l
 |[]=>by rw[Nd.ylds,Nd.sizes];exact Nat.le_refl _
 |k::r=>by have:=Nd.yld_len k;have:=Nd.ylds_len r;rw[Nd.ylds,Nd.sizes,List.length_append];omega
end
def qs0:Nat→Int→Prop:=fun _ _=>True

mutual
def Nd.whole (g:Grammar):Nd→Bool
 | .mk s p a ks=>if p= -1 then decide (0≤s∧s<g.toks.length∧0≤a∧ks.length=0)
   else decide (0≤p∧a= -1) && (match g.prods[p.toNat]? with|none=>false|some x=>decide (s=1000+x.left) && Nd.wholes g x.right ks)
def Nd.wholes (g:Grammar):List Int→List Nd→Bool
 |[],[]=>true
 |s::l,k::r=>decide (k.sym=s) && (k.whole g && Nd.wholes g l r)
 |[],_::_=>false
 | _::_,[]=>false
end
mutual
def Nd.prs:Nd→List Int
 |.mk _ p _ ks=>if p= -1 then[]else Nd.prss ks++[p]
def Nd.prss:List Nd→List Int
 |[]=>[]
 |k::r=>k.prs++Nd.prss r
end
theorem Nd.prss_snoc: ∀(l:List Nd) (k:Nd),Nd.prss (l++[k])=Nd.prss l++k.prs
 |[],k=>by simp[Nd.prss]
 |a::r,k=>by rw[List.cons_append,Nd.prss,Nd.prss_snoc r k,Nd.prss,List.append_assoc]
theorem Nd.ylds_app: ∀(l m:List Nd),Nd.ylds (l++m)=Nd.ylds l++Nd.ylds m
 |[],m=>by simp[Nd.ylds]
 |a::r,m=>by rw[List.cons_append,Nd.ylds,Nd.ylds_app r m,Nd.ylds,List.append_assoc]
theorem Nd.prss_app: ∀(l m:List Nd),Nd.prss (l++m)=Nd.prss l++Nd.prss m
 |[],m=>by simp[Nd.prss]
 |a::r,m=>by rw[List.cons_append,Nd.prss,Nd.prss_app r m,Nd.prss,List.append_assoc]
mutual
theorem Nd.prs_len: ∀t:Nd,t.prs.length≤t.size
 | .mk s p _ ks=>by
   have:=Nd.prss_len ks
   rw[Nd.prs,Nd.size];split
   · simp
   · rw[List.length_append,List.length_singleton];omega
theorem Nd.prss_len: ∀l:List Nd,(Nd.prss l).length≤Nd.sizes l
 |[]=>by rw[Nd.prss,Nd.sizes];exact Nat.le_refl _
 |k::r=>by have:=Nd.prs_len k;have:=Nd.prss_len r;rw[Nd.prss,Nd.sizes,List.length_append];omega
end
theorem qaD {g:Grammar} {R:Int→Nat→Nat→Nd→Prop} (hR: ∀s i j t,R s i j t→t.whole g=true∧t.sym=s): ∀{l:List Int} {i b:Nat} {ks:List Nd},Fst R l i b ks→Nd.wholes g l ks=true
 |[],i,b,ks,⟨_,e⟩=>by subst e;rw[Nd.wholes]
 | s::l,i,b,ks,⟨a,k,r,e,h1,h2⟩=>by
   subst e
   obtain ⟨w,e⟩:=hR _ _ _ _ h1
   rw[Nd.wholes,w,qaD hR h2,decide_eq_true e];rfl
theorem X7 {g:Grammar} {L:Nat→Int→Prop} (hL: ∀i s,L i s→0≤s∧s<g.toks.length): ∀(d:Nat) {s:Int} {i j:Nat} {t:Nd},xE g L d s i j t→t.whole g=true∧t.sym=s
 |0,_,_,_,_,h=>h.elim
 | d +1,s,i,j,t,h=>by
   rcases h with ⟨_,_,h3,rfl⟩|⟨m,p,ks,h1,h2,rfl,h4⟩
   · obtain ⟨a,b⟩:=hL _ _ h3
     exact⟨by rw[Nd.whole,if_pos rfl];exact decide_eq_true ⟨a,b,o_,rfl⟩,rfl⟩
   · refine⟨?_,rfl⟩
     have:=qaD (fun s i j t h=>X7 hL d h) h4
     rw[Nd.whole,if_neg o_,Int.toNat_natCast,h1]
     dsimp only
     rw[this,decide_eq_true (show 0≤(m:Int)∧(-1:Int)= -1 by omega),decide_eq_true h2];rfl
theorem XV {g:Grammar} {L:Nat→Int→Prop}: ∀(d:Nat) {s:Int} {i j:Nat} {t:Nd},xE g L d s i j t→j=i+t.yld.length∧t.size=t.yld.length+t.prs.length
 |0,_,_,_,_,h=>h.elim
 | d +1,s,i,j,t,h=>by
   have key: ∀(l:List Int) (i b:Nat) (ks:List Nd),Fst (xE g L d) l i b ks→b=i+(Nd.ylds ks).length∧Nd.sizes ks=(Nd.ylds ks).length+(Nd.prss ks).length:=by
    intro l
    induction l with
    | nil=>
      rintro i b ks ⟨rfl,rfl⟩
      exact⟨by rw[Nd.ylds];rfl,by rw[Nd.ylds,Nd.prss,Nd.sizes];rfl⟩
    | cons x l ih=>
      rintro i b ks ⟨a,k,r,rfl,h1,h2⟩
      obtain ⟨e1,f1⟩:=XV d h1
      obtain ⟨e2,f2⟩:=ih _ _ _ h2
      rw[Nd.ylds,Nd.prss,Nd.sizes,List.length_append,List.length_append]
      exact⟨o_,o_⟩
   rcases h with ⟨h1,h2,_,rfl⟩|⟨m,p,ks,h1,h2,rfl,h4⟩
   · rw[Nd.yld,Nd.prs,Nd.size,Nd.sizes,if_pos rfl,if_pos rfl]
     exact⟨h2,rfl⟩
   · obtain ⟨e1,e2⟩:=key _ _ _ _ h4
     rw[Nd.yld,Nd.prs,Nd.size,if_neg o_,if_neg o_,List.length_append,List.length_singleton]
     exact⟨e1,o_⟩
abbrev qGN:=Option (Nd×List Int×List Int×Nat)
def Xi (f:Int→List Int→List Int→Nat→qGN):List Int→List Int→List Int→Nat→Option (List Nd×List Int×List Int×Nat)
 |[],P,T,n=>some ([],P,T,n)
 | s ::r,P,T,n=>match f s P T n with
   |none=>none
   | some (k,P',T',n')=>match Xi f r P' T' n' with
     |none=>none
     |some (ks,q)=>some (k::ks,q)
theorem Za (f:Int→List Int→List Int→Nat→qGN): ∀(a b P T:List Int) (n:Nat),Xi f (a++b) P T n=(match Xi f a P T n with |none=>none | some (ks,P',T',n')=>(match Xi f b P' T' n' with |none=>none |some (ks',q)=>some (ks++ks',q)))
 | [],b,P,T,n=>by
   rw[List.nil_append,Xi]
   dsimp only
   cases Xi f b P T n with
   |none=>rfl
   |some q=>rfl
 | s ::a,b,P,T,n=>by
   rw[List.cons_append,Xi,Xi]
   cases f s P T n with
   |none=>rfl
   | some q=>
     obtain ⟨k,P',T',n'⟩:=q
     dsimp only
     rw[Za f a b P' T' n']
     cases Xi f a P' T' n' with
     |none=>rfl
     | some q=>
       obtain ⟨ks,P2,T2,n2⟩:=q
       dsimp only
       cases Xi f b P2 T2 n2 with
       |none=>rfl
       |some q=>rfl
def bld (g:Grammar):Nat→Int→List Int→List Int→Nat→qGN
 |0,_,_,_,_=>none
 | d + 1,s,P,T,n=>
   if n=0 then none
   else if s<1000 then
    (match T.getLast? with
     |none=>none
     |some x=>if x=s then some (.mk s (-1) ((T.length:Int) - 1) [],P,T.dropLast,n - 1)else none)
   else match P.getLast? with
    |none=>none
    | some p=>if p<0 then none else match g.prods[p.toNat]? with
      |none=>none
      | some x=>if 1000+x.left=s then
       (match Xi (bld g d) x.right.reverse P.dropLast T (n - 1)with
        |none=>none
        |some (ks,P',T',n')=>some (.mk s p (-1) ks.reverse,P',T',n'))
        else none
theorem qci {g:Grammar} {L:Nat→Int→Prop} (hg:GOk g): ∀(dd:Nat) {s:Int} {i j:Nat} {t:Nd},xE g L dd s i j t→ ∀(d n:Nat) (P T:List Int),n≤d→T.length=i→
 bld g d s (P++t.prs) (T++t.yld) n=if t.size≤n then some (t,P,T,n - t.size)else none
 |0,_,_,_,_,h=>h.elim
 | dd + 1, s, i,j,t,h=>by
   intro d n P T hn hT
   have hsp:=t.size_pos
   cases d with
   |zero=>rw[if_neg o_];rfl
   | succ d =>
     by_cases h0:n=0
     · rw[if_neg o_,bld,if_pos h0]
     · have key: ∀(l:List Int) (i b:Nat) (ks:List Nd),Fst (xE g L dd) l i b ks→ ∀(P T:List Int) (n:Nat),n≤d→T.length=i→
        Xi (bld g d) l.reverse (P++Nd.prss ks) (T++Nd.ylds ks) n=if Nd.sizes ks≤n then some (ks.reverse,P,T,n - Nd.sizes ks)else none:=by
        intro l
        induction l with
        | nil=>
          rintro i b ks ⟨rfl,rfl⟩ P T n hn hT
          rw[Nd.prss,Nd.ylds,Nd.sizes,if_pos o_,List.reverse_nil,Xi,List.append_nil,List.append_nil];rfl
        | cons x l ih=>
          rintro i b ks ⟨a,k,r,rfl,h1,h2⟩ P T n hn hT
          obtain ⟨e1,_⟩:=XV dd h1
          rw[List.reverse_cons,Za,Nd.prss,Nd.ylds,Nd.sizes,← List.append_assoc,← List.append_assoc,ih _ _ _ h2 (P++k.prs) (T++k.yld) n hn (by rw[List.length_append];omega)]
          by_cases hr:Nd.sizes r≤n
          · rw[if_pos hr]
            dsimp only
            rw[Xi,qci hg dd h1 d _ P T o_ hT]
            by_cases hk:k.size≤n - Nd.sizes r
            · rw[if_pos hk,if_pos o_]
              dsimp only
              rw[Xi]
              dsimp only
              rw[List.reverse_cons,show n - Nd.sizes r - k.size=n - (k.size+Nd.sizes r) by omega]
            · rw[if_neg hk,if_neg o_]
          · rw[if_neg hr,if_neg o_]
       rcases h with ⟨h1,h2,_,rfl⟩|⟨m,p,ks,h1,h2,rfl,h4⟩
       · rw[bld,if_neg h0,if_pos h1,Nd.prs,Nd.yld,if_pos rfl,if_pos rfl,Nd.size,Nd.sizes,List.getLast?_concat]
         dsimp only
         rw[if_pos rfl,if_pos o_,List.append_nil,List.dropLast_concat,List.length_append,List.length_singleton,hT,show (((i+1:Nat):Int) - 1)=i by omega,Nat.zero_add]
       · rw[bld,if_neg h0,if_neg (by obtain ⟨l,hl,_⟩:=hg.left p (List.mem_of_getElem? h1);omega),Nd.prs,Nd.yld,if_neg o_,if_neg o_,Nd.size,← List.append_assoc,List.getLast?_concat]
         dsimp only
         rw[if_neg o_,Int.toNat_natCast,h1]
         dsimp only
         rw[if_pos h2.symm,List.dropLast_concat,key _ _ _ _ h4 P T (n - 1) o_ hT]
         by_cases hk:Nd.sizes ks≤n - 1
         · rw[if_pos hk,if_pos o_]
           dsimp only
           rw[List.reverse_reverse,show n - 1 - Nd.sizes ks=n - (Nd.sizes ks+1) by omega]
         · rw[if_neg hk,if_neg o_]

inductive PathT (g:Grammar) (m:List Sta):List Nat→List Nd→Prop
 |base:PathT g m [0] []
 |push {q t:Nat} {st:List Nat} {ts:List Nd} {x:Nd} (h:PathT g m (q::st) ts) (ht:t<m.length) (hk:qF m t=kL g (qF m q) x.sym):PathT g m (t::q::st) (x::ts)
theorem PathT.path {g:Grammar} {m:List Sta}: ∀{st:List Nat} {ts:List Nd},PathT g m st ts→Path g m st
 | _,_,.base=>.base
 | _,_,.push h ht hk=>h.path.push ht hk
theorem qNx {g:Grammar} {p d:Nat} (hd:d<16) {pr:GPr} (hp:g.prods[p]?=some pr) (h0:0≤nxt g (16 *(p:Int)+d)):pr.right[d]?=some (nxt g (16 *(p:Int)+d)):=by
 unfold nxt at h0 ⊢
 rw[show ((16 *(p:Int)+d) / 16).toNat=p by omega,show ((16 *(p:Int)+d) % 16).toNat=d by omega,hp]at *
 rw[Option.bind_some]at *
 cases hr:pr.right[d]? with
 |none=>rw[hr]at h0;simp at h0
 |some s=>rfl
theorem PathT.down {g:Grammar} {m:List Sta} (hg:GOk g) (hM:MOk g m) (hG:MGo g m) {p:Nat} {pr:GPr} (hp:g.prods[p]?=some pr): ∀(d:Nat) (st:List Nat) (q:Nat) (ts:List Nd),d≤8→PathT g m (q::st) ts→(16 *(p:Int)+d)∈zy g (qF m q)→
 ∃q0 st0,(q::st).drop d=q0::st0∧PathT g m (q0::st0) (ts.drop d)∧16 *(p:Int)∈zy g (qF m q0)∧((ts.take d).map Nd.sym).reverse=pr.right.take d∧d≤ts.length
 |0,st,q,ts,_,hP,hx=>⟨q,st,rfl,hP,by simpa using hx,by simp,Nat.zero_le _⟩
 | d + 1,st,q,ts,hd,hP,hx=>by
   have hk:=hM.qF q
   have hcl:=zf hg hk.2 hk.1
   rcases hcl.1.cases _ hx with hx|⟨y,_,m',p',e,_⟩
   · cases hP with
     |base=>rw[qNR hG]at hx;simp at hx;omega
     | push hP ht hk'=>
       rename_i q' st' ts' x
       rw[hk']at hx
       obtain ⟨y,hy,hn0,hn,e⟩:=X4.1 hx
       have ey:y=16 *(p:Int)+d:=o_
       subst ey
       obtain ⟨q0,st0,h1,h2,h3,h4,h5⟩:=PathT.down hg hM hG hp d st' q' ts' o_ hP hy
       have hr:=qNx o_ hp hn0
       refine⟨q0,st0,by rw[List.drop_succ_cons];exact h1,by rw[List.drop_succ_cons];exact h2,h3,?_,by rw[List.length_cons];omega⟩
       rw[List.take_succ_cons,List.map_cons,List.reverse_cons,h4,List.take_add_one,hr,hn];rfl
   · omega
def qrr (g:Grammar) (L:Nat→Int→Prop):List Nd→Nat→Prop
 |[],j=>j=0
 |t::ts,j=> ∃i d,xE g L d t.sym i j t∧qrr g L ts i
theorem Fst.cat {R:Int→Nat→Nat→Nd→Prop} {s:Int} {b c:Nat} {k:Nd} (h2:R s b c k): ∀{l:List Int} {i:Nat} {ks:List Nd},Fst R l i b ks→Fst R (l++[s]) i c (ks++[k])
 |[],i,ks,⟨e1,e2⟩=>by subst e1 e2;exact⟨c,k,[],rfl,h2,rfl,rfl⟩
 |x::l,i,ks,⟨a,k',r,e,h1,h3⟩=>by subst e;exact⟨a,k',r++[k],rfl,h1,Fst.cat h2 h3⟩
theorem qrr.split {g:Grammar} {L:Nat→Int→Prop}: ∀(d:Nat) (ts:List Nd) (j:Nat),qrr g L ts j→d≤ts.length→ ∃i D,qrr g L (ts.drop d) i∧Fst (xE g L D) ((ts.take d).map Nd.sym).reverse i j (ts.take d).reverse
 |0,ts,j,h,_=>⟨j,0,h,rfl,rfl⟩
 |d+1,[],j,h,hl=>by simp at hl
 | d+1,x::ts,j,⟨i,d0,h1,h2⟩,hl=>by
   obtain ⟨i0,D,h3,h4⟩:=qrr.split d ts i h2 (by simpa using hl)
   refine⟨i0,D+d0,by rw[List.drop_succ_cons];exact h3,?_⟩
   rw[List.take_succ_cons,List.map_cons,List.reverse_cons,List.reverse_cons]
   exact Fst.cat (h1.mono o_) (h4.mono fun _ _ _ _ h=>h.mono o_)
def qim (ts:List Nd):List Int:=Nd.ylds ts.reverse
def qjp (ts:List Nd):List Int:=Nd.prss ts.reverse
theorem qdm (ts:List Nd) (d:Nat):qim ts=qim (ts.drop d)++Nd.ylds (ts.take d).reverse:=by
 unfold qim
 rw[← Nd.ylds_app,← List.reverse_append,List.take_append_drop]
theorem qdy (ts:List Nd) (d:Nat):qjp ts=qjp (ts.drop d)++Nd.prss (ts.take d).reverse:=by
 unfold qjp
 rw[← Nd.prss_app,← List.reverse_append,List.take_append_drop]
theorem Yu (t:Nd) (ts:List Nd):qim (t::ts)=qim ts++t.yld:=by unfold qim;rw[List.reverse_cons,Nd.ylds_snoc]
theorem Yh (t:Nd) (ts:List Nd):qjp (t::ts)=qjp ts++t.prs:=by unfold qjp;rw[List.reverse_cons,Nd.prss_snoc]
def qNV (nt:Nat) (l:List Int):Nat→Int→Prop:=fun i s=>l[i]?=some s∧0≤s∧s<nt
structure RunI (g:Grammar) (m:List Sta) (l:List Int) (st:List Nat) (ts:List Nd) (r:RunR):Prop where
 path:PathT g m st ts
 frst:qrr g (qNV g.toks.length l) ts r.at_
 prs:qjp ts=r.prods
 yld:qim ts=l.take r.at_
 le:r.at_≤l.length
 stp:r.steps=r.at_+r.prods.length
 dp:r.deep≤r.steps
 ln:st.length≤r.deep+1
structure RunE (g:Grammar) (l:List Int) (r:RunR):Prop where
 le:r.at_≤l.length
 stp:r.steps=r.at_+r.prods.length
 dp:r.deep≤r.steps
 tree:r.kind=1→(r.at_<l.length→l[r.at_]?=some 0)∧ ∃(k:Nat) (p0:GPr) (t:Nd) (d:Nat),g.prods[0]?=some p0∧p0.right=[1000+(k:Int)]∧xE g (qNV g.toks.length l) d (1000+(k:Int)) 0 r.at_ t∧t.prs=r.prods∧t.yld=l.take r.at_∧t.size=r.steps
theorem RunI.out {g:Grammar} {m:List Sta} {l:List Int} {st:List Nat} {ts:List Nd} {r:RunR} (h:RunI g m l st ts r) {k:Int} (hk:k≠1):RunE g l {r with kind:=k}:=
 ⟨h.le,h.stp,h.dp,fun e=>absurd e hk⟩
theorem qes (nt:Nat) (l:List Int) (a:Nat):(j6 nt l a=0∧(a<l.length→l[a]?=some 0))∨j6 nt l a=2∨(l[a]?=some (j6 nt l a)∧0≤j6 nt l a∧j6 nt l a<nt):=by
 unfold j6
 cases h:l[a]? with
 |none=>exact Or.inl ⟨rfl,fun hl=>by rw[ge_ hl]at h;cases h⟩
 | some x=>
   dsimp only
   split
   · rename_i h1;exact Or.inr (Or.inr ⟨rfl,h1.1,h1.2.1⟩)
   · exact Or.inr (Or.inl rfl)
theorem X0 {g :Grammar} {m:List Sta} {A:List (List (Int×Int))} {G:List (List Int)} {l:List Int} (hg:GOk g) (hM:MOk g m) (hG:MGo g m) (hT:TabOk g m A G) (hR:RPr g.prods)
 (hN: ∀(q:Nat) r,A[q]?=some r→ ∀(t:Nat) a,r[t]?=some a→((t=0∨t=2)→a.1≠1)∧(a.1=3→t=0∧(1:Int)∈qF m q)) {dp sp:Nat}:
 ∀(n:Nat) (st:List Nat) (ts:List Nd) (r:RunR),r.steps≤sp→sp<r.steps+n→RunI g m l st ts r→RunE g l (qeM g A G l dp sp n st r)
 |0,st,ts,r,h1,h2,hI=>by omega
 | n + 1, st, ts,r,h1,h2,hI=>by
   obtain ⟨q,st',rfl,hq⟩:=hI.path.path.lt hG
   obtain ⟨t,ht,htl⟩:=qjL (nt:=g.toks.length) l r.at_ hg.tk
   obtain ⟨row,a,hrow,hcol,hact⟩:=Kg hT hq htl
   obtain ⟨hn1,hn3⟩:=hN q row hrow t a hcol
   have hc:=qes g.toks.length l r.at_
   rw[K9,ht,hact]
   rw[ht]at hc
   by_cases ha3:a.1=3
   · rw [if_pos ha3]
     obtain ⟨ht0,hk1⟩:=hn3 ha3
     subst ht0
     obtain ⟨p0,rest,hpr,hl0,k,hpk,hkn⟩:=hg.head
     have hp0:g.prods[0]?=some p0:=by rw[hpr];rfl
     have hk:=hM.qF q
     have hcl:=zf hg hk.2 hk.1
     obtain ⟨q0,st0,e1,e2,e3,e4,e5⟩:=PathT.down hg hM hG hp0 1 st' q ts o_ hI.path (by
      have:(16 *((0:Nat):Int)+(1:Nat))=1:=o_
      rw[this];exact hcl.1.clo.1 _ hk1)
     have hb:ts.drop 1=[]:=by
      have hk0:=hM.qF q0
      have hcl0:=zf hg hk0.2 hk0.1
      rcases hcl0.1.cases _ e3 with h|⟨y,hy,m',p',e,hp',hn,hleft⟩
      · generalize ts.drop 1=us at e2
        cases e2 with
        |base=>rfl
        | push hP ht hk'=>
          rename_i q' st'' ts' x
          rw[hk']at h
          obtain ⟨y,hy,h0,_,e⟩:=X4.1 h
          have hk1:=hM.qF q'
          have:=((zf hg hk1.2 hk1.1).2.1 y hy).1
          omega
      · exfalso
        have:m'=0:=o_
        subst this
        rw[hp0]at hp'
        cases hp'
        obtain ⟨pz,hz,hz2⟩:=qaE (g:=g) (x:=y) o_
        exact(hR pz hz _ hz2).2.2 o_
     obtain ⟨x,rfl⟩: ∃x,ts=[x]:=by
      cases ts with
      |nil=>simp at e5
      | cons x ts=>
        have:ts=[]:=by simpa using hb
        exact⟨x,by rw[this]⟩
     have hsym:x.sym=1000+(k:Int):=by rw[hpk]at e4;simpa using e4
     obtain ⟨i,d,f1,f2⟩:=hI.frst
     have hi0:i=0:=f2
     subst hi0
     rw[hsym]at f1
     have hs:=XV d f1
     have hy:=hI.yld
     have hp:=hI.prs
     rw[Yu,show qim []=[] from rfl,List.nil_append]at hy
     rw[Yh,show qjp []=[] from rfl,List.nil_append]at hp
     refine⟨hI.le,hI.stp,hI.dp,fun _=>⟨fun hlt=>?_,k,p0,x,d,hp0,hpk,f1,hp,hy,?_⟩⟩
     · rcases hc with ⟨_,h⟩|h|⟨h,_⟩
       · exact h hlt
       · omega
       · exact h
     · have:=hI.stp
       have hle:=hI.le
       rw[hs.2,hp,hy,List.length_take];dsimp only;omega
   · rw [if_neg ha3]
     by_cases ha1:a.1=1
     · rw [if_pos ha1]
       by_cases hlim:sp≤r.steps∨dp<(q::st').length
       · rw[if_pos hlim];exact hI.out (by decide)
       · rw[if_neg hlim]
         obtain ⟨nq,en,hnl,hker⟩:=hT.sh q row hrow t a hcol ha1
         have hne: ¬ (t=0∨t=2):=fun h=>hn1 h ha1
         have hin:l[r.at_]?=some (t:Int):=by
          rcases hc with ⟨h,_⟩|h|⟨h,_⟩
          · omega
          · omega
          · exact h
         have hlt:r.at_<l.length:=(List.getElem?_eq_some_iff.1 hin).1
         refine X0 hg hM hG hT hR hN n _ (.mk (t:Int) (-1) r.at_ []::ts) _ (by dsimp only;omega) (by dsimp only;omega) ⟨?_,⟨r.at_,1,Or.inl ⟨?_,rfl,show qNV g.toks.length l r.at_ (t:Int) from ⟨hin,o_,o_⟩,rfl⟩,hI.frst⟩,?_,?_,hlt,?_,?_,?_⟩
         · rw[en,Int.toNat_natCast]
           exact hI.path.push hnl hker
         · have:=hg.tk2;show (t:Int)<1000;omega
         · rw[Yh,hI.prs,Nd.prs,if_pos rfl,List.append_nil]
         · rw[Yu,hI.yld,Nd.yld,if_pos rfl];dsimp only;rw[List.take_add_one,hin];rfl
         · have:=hI.stp;dsimp only;omega
         · have:=hI.dp;have:=hI.ln;dsimp only;rw[List.length_cons]at *;omega
         · have:=hI.ln;dsimp only;rw[List.length_cons,List.length_cons]at *;omega
     · rw [if_neg ha1]
       by_cases ha2:a.1=2
       · rw [if_pos ha2]
         have hr:=hT.re q row hrow t a hcol ha2
         obtain ⟨p,x,lf,q0,st0,nq,e1,e2,e3,e4,e5,e6,e7,e8,e9,e10⟩:=hI.path.path.reduce hg hM hG hr
         have hrh:qdK g p=x.right.length:=by unfold qdK;rw[e2];rfl
         have hlh:qs2 g p=lf:=by unfold qs2;rw[e2,Option.map_some,Option.getD_some,e3];rfl
         have hgo:Vl G q0 lf=nq:=by
          have hqG:q0<G.length:=by rw[hT.gl];exact e8
          have g1:G[q0]?=some G[q0]:=ge_ hqG
          have g2:=hT.gr q0 _ g1
          have g3:G[q0][lf]?=some (nq:Int):=by rw[g2,List.getElem?_map,List.getElem?_range e4,Option.map_some,e9]
          unfold Vl;simp only[List.getD_eq_getElem?_getD,g1,Option.getD_some,g3]
         rw[e1,Int.toNat_natCast,hrh,hlh,e7,List.headD_cons,hgo,Int.toNat_natCast]
         by_cases hlim:sp≤r.steps∨dp<(q::st').length - x.right.length
         · rw[if_pos hlim];exact hI.out (by decide)
         · rw [if_neg hlim]
           have hk:=hM.qF q
           have hcl:=zf hg hk.2 hk.1
           have hitem:(16 *(p:Int)+(x.right.length:Nat))∈zy g (qF m q)∧p≠0:=by
            unfold xW at hr
            rw[List.mem_filterMap]at hr
            obtain ⟨z,hz,hr⟩:=hr
            have hxo:=hcl.2.1 z hz
            obtain ⟨pr,hpr,hd⟩: ∃p,g.prods[(z / 16).toNat]?=some p∧(z % 16).toNat=p.right.length:=VN hxo (by split at hr<;>simp_all) hg.rn
            split at hr
            · rename_i hc'
              have hr:=Option.some.inj hr
              have h0:=hxo.1
              have hpz:(z / 16).toNat=p:=o_
              rw[hpz,e2]at hpr
              cases hpr
              have:(16 *(p:Int)+(x.right.length:Nat))=z:=o_
              rw[this];exact⟨hz,o_⟩
            · cases hr
           obtain ⟨hitem,hpne⟩:=hitem
           obtain ⟨q1,st1,f1,f2,f3,f4,f5⟩:=PathT.down hg hM hG e2 x.right.length st' q ts e5 hI.path hitem
           rw[e7]at f1
           cases f1
           obtain ⟨i,D,f6,f7⟩:=qrr.split x.right.length ts r.at_ hI.frst f5
           rw[f4,List.take_length]at f7
           have hker:qF m nq=kL g (qF m q0) (1000+(lf:Int)):=by
            have hk0:=hM.qF q0
            have hcl0:=zf hg hk0.2 hk0.1
            have hgo2: ∃y∈zy g (qF m q0),nxt g y=1000+(lf:Int):=by
             rcases hcl0.1.cases _ f3 with h|⟨y,hy,m',p',e,hp',hn,hleft⟩
             · exfalso
               generalize ts.drop x.right.length=us at f2
               cases f2 with
               | base=>
                 rw[qNR hG]at h
                 simp at h;omega
               | push hP ht hk'=>
                 rename_i q' st'' ts' y
                 rw[hk']at h
                 obtain ⟨y,hy,_,_,e⟩:=X4.1 h
                 have hk1:=hM.qF q'
                 have:=VL hg.rlen ((zf hg hk1.2 hk1.1).2.1 y hy)
                 omega
             · have:m'=p:=o_
               subst this
               rw[e2]at hp'
               cases hp'
               exact⟨y,hy,o_⟩
            obtain ⟨y,hy,hyn⟩:=hgo2
            obtain ⟨t2,ht2,htl2,hkt⟩:=hG.go hg hM e8 hy o_
            rw[hyn]at ht2 hkt
            rw[e9]at ht2
            have:nq=t2:=o_
            subst this
            exact hkt
           obtain ⟨_,_,ee,hnl⟩:=e10.lt hG
           cases ee
           have hlen:(q::st').length - x.right.length=st0.length+1:=by
            have:=congrArg List.length e7
            rw[List.length_drop,List.length_cons]at this
            exact this
           have hys:=qdm ts x.right.length
           have hps:=qdy ts x.right.length
           refine X0 hg hM hG hT hR hN n _ (.mk (1000+(lf:Int)) p (-1) (ts.take x.right.length).reverse::ts.drop x.right.length) _ (by dsimp only;omega) (by dsimp only;omega) ⟨?_,⟨i,D+1,Or.inr ⟨p,x,_,e2,by rw[e3],rfl,f7⟩,f6⟩,?_,?_,hI.le,?_,?_,?_⟩
           · exact f2.push hnl hker
           · rw[Yh,Nd.prs,if_neg o_,← List.append_assoc,← hps,hI.prs]
           · rw[Yu,Nd.yld,if_neg o_,← hys,hI.yld]
           · have:=hI.stp;dsimp only;rw[List.length_append,List.length_singleton];omega
           · have:=hI.dp;have:=hI.ln;dsimp only;rw[List.length_cons]at *;omega
           · dsimp only;rw[hlen,List.length_cons,List.length_cons];omega
       · rw[if_neg ha2]
         exact hI.out (by decide)
theorem qcT {src:Source} {E:Nat→Bool} (hb:jB src=true) (l:List Int) (dp sp:Nat):RunE (qL src) l (qgm (qL src) (Vx src E) (qaS src) l dp sp):=by
 obtain ⟨hgb,hg,hM,hG⟩:=xY hb
 exact X0 hg hM hG (qfC hb) (Vf hgb) (qLm hb) (sp+1) [0] [] {} (Nat.zero_le _) (by dsimp only;omega) ⟨.base,rfl,rfl,rfl,Nat.zero_le _,rfl,Nat.le_refl _,Nat.le_refl _⟩
end Go.Proofs
