/- Part of a proof that a law of the given program answers true. -/
import Derived.Test.YtjdjdbkoplmjeaaGreatDoorQGC
import Derived.Test.YtjdjdbkoplmjeaaGreatDoorQJA
import Derived.Test.YtjdjdbkoplmjeaaGreatDoorQCA
set_option linter.unusedSimpArgs false
set_option linter.unusedVariables false
namespace Go.Proofs
open Go.E
def Zb (nt nn:Nat) (s:Int):Prop:=(∃t:Nat,s=t∧t<nt)∨ ∃k:Nat,s=1000+(k:Int)∧k<nn
structure GOk (g:Grammar):Prop where
 tk:3≤g.toks.length
 tk2:g.toks.length≤40
 nn:1≤g.nons.length
 nn2:g.nons.length≤24
 pl:1≤g.prods.length
 pl2:g.prods.length≤60
 left: ∀p∈g.prods,∃l:Nat,p.left=l∧l<g.nons.length
 rlen: ∀p∈g.prods,p.right.length≤8
 right: ∀p∈g.prods,∀s∈p.right,Zb g.toks.length g.nons.length s
 prec: ∀p∈g.prods,p.prec= -1∨ ∃t:Nat,p.prec=t∧t<g.toks.length
 head: ∃p r,g.prods=p::r∧p.left=0∧(∃k:Nat,p.right=[1000+(k:Int)]∧k<g.nons.length)
structure MInv (m:Mk):Prop where
 tk:3≤m.toks.length
 inn:0≤m.inner
 left: ∀p∈m.prods,0≤p.left∧p.left≤m.lefts.length+m.inner
 right: ∀p∈m.prods,∀s∈p.right,Zb m.toks.length (1+m.lefts.length+m.inner.toNat) s
 prec: ∀p∈m.prods,p.prec= -1∨(0≤p.prec∧p.prec<m.toks.length)
theorem Zb.mono {a b a' b':Nat} {s:Int} (h:Zb a b s) (h1:a≤a') (h2:b≤b'):Zb a' b' s:=by
 rcases h with ⟨t,e,l⟩|⟨k,e,l⟩
 · exact Or.inl ⟨t,e,o_⟩
 · exact Or.inr ⟨k,e,o_⟩
theorem MInv.up {m m':Mk} (h:MInv m) (hp:m'.prods=m.prods) (ht:m.toks.length≤m'.toks.length) (hl:m'.lefts=m.lefts) (hi:m.inner≤m'.inner):MInv m':=by
 have:=h.inn
 refine⟨by have:=h.tk;omega,o_,fun p hq=>?_,fun p hq s hs=>?_,fun p hq=>?_⟩
 · rw[hp]at hq;have:=h.left p hq;rw[hl];omega
 · rw[hp]at hq;rw[hl];exact(h.right p hq s hs).mono ht o_
 · rw[hp]at hq
   rcases h.prec p hq with h|⟨h1,h2⟩
   · exact Or.inl h
   · exact Or.inr ⟨h1,o_⟩
theorem MInv.put {m:Mk} (h:MInv m) {p:GPr} (h1:0≤p.left∧p.left≤m.lefts.length+m.inner) (h2: ∀s∈p.right,Zb m.toks.length (1+m.lefts.length+m.inner.toNat) s) (h3:p.prec= -1∨(0≤p.prec∧p.prec<m.toks.length)):MInv {m with prods:=m.prods++[p]}:=by
 refine⟨h.tk,h.inn,fun q hq=>?_,fun q hq=>?_,fun q hq=>?_⟩<;>rcases List.mem_append.1 hq with hq|hq
 · exact h.left q hq
 · rw[List.mem_singleton]at hq;subst hq;exact h1
 · exact h.right q hq
 · rw[List.mem_singleton]at hq;subst hq;exact h2
 · exact h.prec q hq
 · rw[List.mem_singleton]at hq;subst hq;exact h3
theorem qeD {m:Mk} (x:Sym) (ht:3≤m.toks.length) (hi:0≤m.inner):Zb (yI m x).1.toks.length (1+m.lefts.length+m.inner.toNat) (yI m x).2∧(x.lit=true∨qL x.name m.lefts 0<0→0≤(yI m x).2∧(yI m x).2<(yI m x).1.toks.length):=by
 have hb:=qeX m x o_
 have hl:=jU x.name m.lefts 0
 have htk:=qaO x m.toks o_
 have hf:=(zy m x.at_ x.name).1
 have tokI: ∀{n:Nat} {s:Int},0≤s→s<n→Zb n (1+m.lefts.length+m.inner.toNat) s:=fun h1 h2=>Or.inl ⟨_,(Int.toNat_of_nonneg h1).symm,o_⟩
 unfold yI
 split
 · exact⟨tokI hb.1 hb.2,fun _=>hb⟩
 · rename_i hx
   split
   · rename_i h0
     refine⟨Or.inr ⟨(1+qL x.name m.lefts 0).toNat,by dsimp only;omega,o_⟩,fun h=>?_⟩
     rcases h with h|h
     · exact absurd h hx
     · omega
   · split
     · dsimp only;rw[hf]
       exact⟨tokI o_ o_,fun _=>⟨o_,o_⟩⟩
     · dsimp only;exact⟨tokI o_ o_,fun _=>⟨o_,o_⟩⟩
theorem VA : ∀(l:List Part) (m:Mk) (p:GPr),MInv m→(∀s∈p.right,Zb m.toks.length (1+m.lefts.length+m.inner.toNat) s)→MInv (zH l (m,p)).1∧ ∀s∈(zH l (m,p)).2.right,Zb (zH l (m,p)).1.toks.length (1+(zH l (m,p)).1.lefts.length+(zH l (m,p)).1.inner.toNat) s
 |[],m,p,h,hp=>by rw[Jw];exact⟨h,hp⟩
 | w :: r, m,p,h,hp=>by
   rw[Qe]
   obtain ⟨y1,y2,y3,y4,y5,y6,y7,y8⟩:=Qp m w.sym
   have hs:=(qeD w.sym h.tk h.inn).1
   have hi:=h.inn
   split
   · refine VA r _ _ (h.up y3 y7 y2 o_) fun s hs2=>?_
     rw[y2,y6]
     rcases List.mem_append.1 hs2 with hs2|hs2
     · exact(hp s hs2).mono y7 (Nat.le_refl _)
     · rw[List.mem_singleton]at hs2;subst hs2;exact hs
   · split
     · exact⟨h,hp⟩
     · refine VA r _ _ ?_ fun s hs2=>?_
       · refine(h.up (m':={m with inner:=m.inner+1}) rfl (Nat.le_refl _) rfl (by dsimp only;omega)).put ⟨by dsimp only;omega,by dsimp only;omega⟩ (fun s hs2=>by cases hs2) (Or.inl rfl)
       · dsimp only at hs2 ⊢
         rcases List.mem_append.1 hs2 with hs2|hs2
         · exact(hp s hs2).mono (Nat.le_refl _) o_
         · rw[List.mem_singleton]at hs2
           exact Or.inr ⟨m.lefts.length+(m.inner+1).toNat,by rw[hs2];omega,o_⟩
theorem Kn (n:Nat): ∀(l:List Int) (p:Int),(∀s∈l,0≤s∧(s<1000→s<n))→(p= -1∨(0≤p∧p<n))→(xX l p= -1∨(0≤xX l p∧xX l p<n))
 |[],p,_,hp=>hp
 | x::r,p,h,hp=>by
   rw[xX]
   refine Kn n r _ (fun s hs=>h s (List.mem_cons_of_mem _ hs)) ?_
   split
   · rename_i hx;have:=h x (by simp);exact Or.inr ⟨this.1,this.2 hx⟩
   · exact hp
theorem qiP {m:Mk} (n:List UInt8) (a:Alt) (h:MInv m):MInv (XD m n a):=by
 have hl:=jU n m.lefts 0
 obtain ⟨g1,g2,g3,g4,g5,g6,g7,g8,g9,g10⟩:=JB a.parts m {left:=1+qL n m.lefts 0,prec:= -1,at_:=a.at_}
 obtain ⟨h1,h2⟩:=VA a.parts m {left:=1+qL n m.lefts 0,prec:= -1,at_:=a.at_} h (fun s hs=>by cases hs)
 have hi:=h.inn
 unfold XD
 dsimp only
 generalize zH a.parts (m,{left:=1+qL n m.lefts 0,prec:= -1,at_:=a.at_})=q at *
 have hlf:0≤q.2.left∧q.2.left≤q.1.lefts.length+q.1.inner:=by rw[g5,g1];dsimp only;omega
 obtain ⟨ff1,ff2,ff3,ff4,ff5,ff6,ff7,ff8⟩:=zy q.1 a.prec.at_ a.prec.name
 split
 · split
   · rename_i hc
     obtain ⟨y1,y2,y3,y4,y5,y6,y7,y8⟩:=Qp q.1 a.prec
     have hs:=(qeD a.prec h1.tk h1.inn).2 (by rcases hc with hc|hc<;>simp[hc])
     refine(h1.up y3 y7 y2 o_).put (by rw[y2,y6];exact hlf) (fun s hs2=>?_) (Or.inr hs)
     rw[y2,y6];exact(h2 s hs2).mono y7 (Nat.le_refl _)
   · refine(h1.up (m':=zk q.1 a.prec.at_ a.prec.name) ff5 (by rw[ff1];omega) ff3 o_).put (p:={q.2 with prec:= -1,args:=q.2.right}) (by rw[ff3,ff8];exact hlf) (fun s hs2=>by rw[ff1,ff3,ff8];exact h2 s hs2) (Or.inl rfl) |> fun hh=>?_
     rw[ff5]at hh
     exact hh
 · refine h1.put hlf h2 ?_
   refine Kn _ _ _ (fun s hs=>?_) (Or.inl rfl)
   rcases h2 s hs with ⟨t,e,l⟩|⟨k,e,l⟩
   · exact⟨o_,fun _=>by omega⟩
   · exact⟨o_,fun _=>by omega⟩
theorem Kb (n:List UInt8): ∀(l:List Alt) (m:Mk),MInv m→MInv (zJ n l m)
 |[],m,h=>h
 |a::r,m,h=>by rw[vV];exact Kb n r _ (qiP n a h)
theorem qbA: ∀(l:List Rule) (m:Mk),MInv m→MInv (vD l m)
 |[],m,h=>h
 |r::l,m,h=>by rw[Qg];exact qbA l _ (Kb r.left r.alts m h)
def HdP (P:GPr) (m:Mk):Prop:= ∃r,m.prods=P::r
theorem Vr (P:GPr): ∀(l:List Part) (m:Mk) (p:GPr),HdP P m→HdP P (zH l (m,p)).1
 |[],m,p,h=>h
 | w ::r,m,p,h=>by
   rw[Qe]
   obtain ⟨y1,y2,y3,y4,y5,y6,y7,y8⟩:=Qp m w.sym
   obtain ⟨t,ht⟩:=h
   split
   · exact Vr P r _ _ ⟨t,by rw[y3];exact ht⟩
   · split
     · exact⟨t,ht⟩
     · exact Vr P r _ _ ⟨_,by dsimp only;rw[ht];rfl⟩
theorem qkO (P:GPr) {m:Mk} (n:List UInt8) (a:Alt) (h:HdP P m):HdP P (XD m n a):=by
 have h1:=Vr P a.parts m {left:=1+qL n m.lefts 0,prec:= -1,at_:=a.at_} h
 unfold XD
 dsimp only
 generalize zH a.parts (m,{left:=1+qL n m.lefts 0,prec:= -1,at_:=a.at_})=q at *
 obtain ⟨t,ht⟩:=h1
 obtain ⟨y1,y2,y3,y4,y5,y6,y7,y8⟩:=Qp q.1 a.prec
 split
 · split
   · exact⟨_,by dsimp only;rw[y3,ht];rfl⟩
   · exact⟨_,by dsimp only;rw[ht];rfl⟩
 · exact⟨_,by dsimp only;rw[ht];rfl⟩
theorem Kv (P:GPr) (n:List UInt8): ∀(l:List Alt) (m:Mk),HdP P m→HdP P (zJ n l m)
 |[],m,h=>h
 |a::r,m,h=>by rw[vV];exact Kv P n r _ (qkO P n a h)
theorem qbI (P:GPr): ∀(l:List Rule) (m:Mk),HdP P m→HdP P (vD l m)
 |[],m,h=>h
 |r::l,m,h=>by rw[Qg];exact qbI P l _ (Kv P r.left r.alts m h)
theorem Jy (g:List Bool): ∀(f i:Nat) (l:List Tok) (n:Int),(Vv g f i (l,n)).1.length=l.length
 |0,i,l,n=>rfl
 | f+1,i,l,n=>by
   rw[Yi];split
   · exact Jy g f _ _ _
   · rw[Jy];simp
theorem qa3 (d:Decl): ∀(l:List Sym) (m:Mk) (st:List UInt8),vX m (zT d l (m,st)).1∧m.toks.length≤(zT d l (m,st)).1.toks.length
 |[],m,st=>⟨⟨rfl,rfl,rfl,rfl⟩,Nat.le_refl _⟩
 | x ::r,m,st=>by
   rw[X0]
   obtain ⟨⟨a1,a2,a3,a4⟩,_,h2,_⟩:=qe0 m d x
   obtain ⟨ff1,ff2,ff3,ff4,ff5,ff6,ff7,ff8⟩:=zy m x.at_ x.name
   split
   · obtain ⟨⟨b1,b2,b3,b4⟩,k2⟩:=qa3 d r (kF m d x) st
     exact⟨⟨b1.trans a1,b2.trans a2,b3.trans a3,b4.trans a4⟩,o_⟩
   · have key: ∀m',vX m m'→m.toks.length≤m'.toks.length→vX m (zT d r (m',x.name)).1∧m.toks.length≤(zT d r (m',x.name)).1.toks.length:=fun m' hm ht=>by
      obtain ⟨⟨b1,b2,b3,b4⟩,k2⟩:=qa3 d r m' x.name
      exact⟨⟨b1.trans hm.1,b2.trans hm.2.1,b3.trans hm.2.2.1,b4.trans hm.2.2.2⟩,o_⟩
     split
     · exact key _ ⟨ff3,ff5,ff6,ff8⟩ (by rw[ff1];omega)
     · exact key _ ⟨rfl,rfl,rfl,rfl⟩ (Nat.le_refl _)
theorem qdD: ∀(l:List Decl) (m:Mk) (st:List UInt8),vX m (j5 l (m,st)).1∧m.toks.length≤(j5 l (m,st)).1.toks.length
 |[],m,st=>⟨⟨rfl,rfl,rfl,rfl⟩,Nat.le_refl _⟩
 | d::r,m,st=>by
   rw[XH]
   have key: ∀m',vX m m'→m.toks.length≤m'.toks.length→vX m (j5 r (zT d d.syms (m',st))).1∧m.toks.length≤(j5 r (zT d d.syms (m',st))).1.toks.length:=fun m' hm ht=>by
    obtain ⟨⟨a1,a2,a3,a4⟩,k1⟩:=qa3 d d.syms m' st
    obtain ⟨⟨b1,b2,b3,b4⟩,k2⟩:=qdD r (zT d d.syms (m',st)).1 (zT d d.syms (m',st)).2
    exact⟨⟨b1.trans (a1.trans hm.1),b2.trans (a2.trans hm.2.1),b3.trans (a3.trans hm.2.2.1),b4.trans (a4.trans hm.2.2.2)⟩,by show m.toks.length≤(j5 r ((zT d d.syms (m',st)).1,(zT d d.syms (m',st)).2)).1.toks.length;omega⟩
   split
   · exact key _ ⟨rfl,rfl,rfl,rfl⟩ (Nat.le_refl _)
   · exact key _ ⟨rfl,rfl,rfl,rfl⟩ (Nat.le_refl _)
theorem qeZ: ∀(l:List Rule) (m:Mk),(yg l m).toks=m.toks∧(yg l m).inner=m.inner∧(yg l m).nons=m.nons
 |[],m=>⟨rfl,rfl,rfl⟩
 | r::l,m=>by
   rw[Yd]
   obtain ⟨d1,d2,d3,d4,d5,d6⟩:=qdv m r
   obtain ⟨h1,h2,h3⟩:=qeZ l (Xx (Qm m r) r.left)
   have e:(Xx (Qm m r) r.left).toks=m.toks∧(Xx (Qm m r) r.left).inner=m.inner∧(Xx (Qm m r) r.left).nons=m.nons:=by
    unfold Xx
    split
    · exact⟨d1,d6,d5⟩
    · exact⟨d1,d6,d5⟩
   exact⟨h1.trans e.1,h2.trans e.2.1,h3.trans e.2.2⟩
theorem qb1 (kind:Int): ∀(l:List Sym) (m:Mk),xL m (xG kind l m)
 |[],m=>xL.rfl' m
 |x::r,m=>by rw[Xj];exact(qoz m kind x).trans' (qb1 kind r _)
theorem qeF: ∀(l:List Decl) (m:Mk),xL m (Qo l m)
 |[],m=>xL.rfl' m
 |d::r,m=>by rw[XZ];exact(qb1 d.kind d.syms m).trans' (qeF r _)
def qcf (src:Source):Mk:=Qo src.decls (yg src.rules (j5 src.decls ({},[])).1)
def ZU (src:Source):List UInt8:=if (j5 src.decls ({},[])).2=[]then(src.rules.headD {}).left else(j5 src.decls ({},[])).2
def qaU (src:Source):GPr:={left:=0,right:=[1001+qL (ZU src) (qcf src).lefts 0],prec:= -1}
theorem qbD (src:Source):xV src=vD src.rules {qcf src with prods:=[qaU src]}:=rfl
theorem qoV (src:Source):3≤(qcf src).toks.length∧(qcf src).inner=0∧(qcf src).nons=[]:=by
 obtain ⟨⟨a1,a2,a3,a4⟩,k1⟩:=qdD src.decls {} []
 obtain ⟨l1,l2,l3⟩:=qeZ src.rules (j5 src.decls ({},[])).1
 obtain ⟨u1,u2,u3,u4,u5,u6,u7⟩:=qeF src.decls (yg src.rules (j5 src.decls ({},[])).1)
 refine⟨?_,?_,?_⟩
 · show 3≤(Qo _ _).toks.length;rw[u1,l1];exact k1
 · show (Qo _ _).inner=0;rw[u7,l2];exact a4
 · show (Qo _ _).nons=[];rw[u6,l3];exact a3
theorem qfB (src:Source):MInv (xV src)∧HdP (qaU src) (xV src):=by
 obtain ⟨h1,h2,h3⟩:=qoV src
 have hl:=jU (ZU src) (qcf src).lefts 0
 rw[qbD]
 refine⟨qbA _ _ ⟨h1,by dsimp only;omega,fun p hp=>?_,fun p hp s hs=>?_,fun p hp=>?_⟩,qbI _ _ _ ⟨[],rfl⟩⟩<;>(dsimp only at hp;rw[List.mem_singleton]at hp;subst hp)
 · unfold qaU;dsimp only;omega
 · unfold qaU at hs;dsimp only at hs ⊢;rw[List.mem_singleton]at hs;subst hs
   exact Or.inr ⟨(1+qL (ZU src) (qcf src).lefts 0).toNat,o_,o_⟩
 · exact Or.inl rfl
theorem Xt (n:List UInt8): ∀(l:List Alt) (m:Mk),(zJ n l m).nons=m.nons∧(zJ n l m).lefts=m.lefts
 |[],m=>⟨rfl,rfl⟩
 | a::r,m=>by
   rw[vV]
   obtain ⟨h1,_,h3,_⟩:=qht m n a
   obtain ⟨k1,k2⟩:=Xt n r (XD m n a)
   exact⟨k1.trans h3,k2.trans h1⟩
theorem XK: ∀(l:List Rule) (m:Mk),(vD l m).nons=m.nons∧(vD l m).lefts=m.lefts
 |[],m=>⟨rfl,rfl⟩
 | r::l,m=>by
   rw[Qg]
   obtain ⟨h1,h2⟩:=Xt r.left r.alts m
   obtain ⟨k1,k2⟩:=XK l (zJ r.left r.alts m)
   exact⟨k1.trans h1,k2.trans h2⟩
theorem qks (m:Mk):(xN m).toks.length=m.toks.length∧(xN m).nons.length=1+m.lefts.length+m.inner.toNat∧(xN m).prods=m.prods:=by
 unfold xN
 dsimp only
 refine⟨Jy _ _ _ _ _,?_,rfl⟩
 rw[List.length_append,List.length_append,JN,qby];rfl
theorem qgJ {src:Source} (h:qdJ src=true):xQ src=true∧(xV src).e=0∧XG (xN (xV src))=false∧xP src={toks:=(xN (xV src)).toks,nons:=(xN (xV src)).nons,prods:=(xN (xV src)).prods,pro:=src.pro,tail:=src.tail}:=by
 have h:=of_decide_eq_true h
 unfold xP
 unfold ofS at *
 by_cases h1:xQ src=true
 · rw [if_pos h1]at *
   by_cases h2:(xV src).e≠0
   · rw[if_pos h2]at h;exact absurd h h2
   · rw[if_neg h2]at *
     by_cases h3:XG (xN (xV src))=true
     · rw[if_pos h3]at h;cases h
     · rw[if_neg h3]at *
       exact⟨h1,by simpa using h2,by simpa using h3,rfl⟩
 · rw[if_neg h1]at h;cases h
theorem gok {src:Source} (h:qdJ src=true):GOk (xP src):=by
 obtain ⟨_,_,hl,he⟩:=qgJ h
 obtain ⟨hi,r,hr⟩:=qfB src
 obtain ⟨n1,n2,n3⟩:=qks (xV src)
 unfold XG at hl
 simp only[Bool.or_eq_false_iff,decide_eq_false_iff_not,List.any_eq_false,decide_eq_true_eq]at hl
 obtain ⟨⟨⟨l1,l2⟩,l3⟩,l4⟩:=hl
 have hinn:=hi.inn
 rw[he]
 refine⟨?_,?_,?_,?_,?_,?_,fun p hp=>?_,fun p hp=>?_,fun p hp s hs=>?_,fun p hp=>?_,?_⟩<;>dsimp only at *
 · rw[n1];exact hi.tk
 · omega
 · rw[n2];omega
 · omega
 · rw[n3,hr];simp
 · omega
 · rw[n3]at hp;have:=hi.left p hp
   exact⟨p.left.toNat,o_,o_⟩
 · have:=l4 p hp;omega
 · rw[n3]at hp;rw[n1,n2];exact hi.right p hp s hs
 · rw[n3]at hp
   rcases hi.prec p hp with h|⟨h1,h2⟩
   · exact Or.inl h
   · exact Or.inr ⟨p.prec.toNat,o_,o_⟩
 · refine⟨qaU src,r,by rw[n3];exact hr,rfl,(1+qL (ZU src) (qcf src).lefts 0).toNat,?_,?_⟩
   · have:=jU (ZU src) (qcf src).lefts 0
     unfold qaU;dsimp only
     rw[show (1001+qL (ZU src) (qcf src).lefts 0:Int)=1000+((1+qL (ZU src) (qcf src).lefts 0).toNat:Int) by omega]
   · have:=jU (ZU src) (qcf src).lefts 0
     have:=(XK src.rules {qcf src with prods:=[qaU src]}).2
     rw[← qbD]at this
     dsimp only at this
     rw[n2,this];omega

theorem Zr {x:Sym}: ∀{l:List Tok} {i:Nat},(∀(n:Nat) t,l[n]?=some t→ ¬ (t.name=x.name∧t.lit=x.lit∧i+n≠2))→Zc x l i= -1
 |[],i,_=>rfl
 | t::r,i,h=>by
   unfold Zc
   rw[if_neg (by have:=h 0 t rfl;simpa using this)]
   exact Zr fun n u hu=>by have:=h (n+1) u (by simpa using hu);rwa [show i+1+n=i+(n+1) by omega]
theorem X3 {x:Sym}: ∀{l:List Tok} {i n:Nat} {t:Tok},l[n]?=some t→t.name=x.name→t.lit=x.lit→i+n≠2→0≤Zc x l i
 |[],i,n,t,h,_,_,_=>by simp at h
 | u ::r,i,n,t,h,h1,h2,h3=>by
   unfold Zc
   split
   · omega
   · rename_i hne
     cases n with
     |zero=>simp at h;subst h;exact absurd ⟨h1,h2,o_⟩ hne
     |succ n=>exact X3 (l:=r) (i:=i+1) (n:=n) (t:=t) (by simpa using h) h1 h2 o_
theorem XR {n:Int}: ∀{l:List Tok} {i:Nat},(∀t∈l,t.num≠n)→KS n l i= -1
 |[],i,_=>rfl
 | t::r,i,h=>by
   unfold KS
   rw[if_neg (h t (by simp))]
   exact XR fun u hu=>h u (List.mem_cons_of_mem _ hu)
abbrev core (t:Tok):List UInt8×Bool×Int:=(t.name,t.lit,t.num)
abbrev qJZ (j:Nat):List UInt8×Bool×Int:=((qcr j).name,true,qcs (qcr j))
abbrev qcL:List (List UInt8×Bool×Int):=[([36,101,110,100],false,0),(qKh,false,-1),([36,117,110,107],false,-1)]
structure LInv (m:Mk) (js:List Nat):Prop where
 e:m.e=0
 toks:m.toks.map core=qcL++js.map qJZ
 nd:js.Nodup
 lt: ∀j∈js,j<4
theorem Zh {j:Nat} (h:j<4):(qcr j).name=[UInt8.ofNat (112+j)]∧qcs (qcr j)=112+j:=by
 rcases j with _ | _ | _ | _ |j
 · exact⟨rfl,rfl⟩
 · exact⟨rfl,rfl⟩
 · exact⟨rfl,rfl⟩
 · exact⟨rfl,rfl⟩
 · omega
theorem qlG {i j:Nat} (hi:i<4) (hj:j<4) (h:(qcr i).name=(qcr j).name):i=j:=by
 have h1:=(Zh hi).1
 have h2:=(Zh hj).1
 rw[h1,h2]at h
 simp only[List.cons.injEq,and_true]at h
 have:=congrArg UInt8.toNat h
 simp at this
 omega
theorem LInv.get {m:Mk} {js:List Nat} (h:LInv m js) {n:Nat} {t:Tok} (ht:m.toks[n]?=some t):(qcL++js.map qJZ)[n]?=some (core t):=by rw[← h.toks,List.getElem?_map,ht];rfl
theorem LInv.len {m:Mk} {js:List Nat} (h:LInv m js):m.toks.length=3+js.length:=by have:=congrArg List.length h.toks;simp at this;omega
theorem LInv.tok_in {m:Mk} {js:List Nat} (h:LInv m js) {j:Nat} (hj:j∈js):0≤VG m.toks (qcr j):=by
 obtain ⟨i,hi,he⟩:=List.getElem_of_mem hj
 have hl:=h.len
 have h3:m.toks[3+i]?=some (m.toks[3+i]' o_):=ge_ o_
 have hg:=h.get h3
 rw[List.getElem?_append_right (by simp),show 3+i - qcL.length=i by simp,List.getElem?_map,ge_ hi,he]at hg
 simp only[Option.map_some,Option.some.injEq,Prod.mk.injEq]at hg
 refine X3 (n:=2+i) (t:=m.toks[3+i]' o_) ?_ hg.1.symm ?_ o_
 · rw[List.getElem?_drop,show 1+(2+i)=3+i by omega];exact h3
 · rw[← hg.2.1]
theorem LInv.tok_out {m:Mk} {js:List Nat} (h:LInv m js) {j:Nat} (hj:j ∉ js) (hj4:j<4):VG m.toks (qcr j)= -1:=by
 refine Zr fun n t ht=>?_
 rw[List.getElem?_drop]at ht
 have hg:=h.get ht
 rintro ⟨h1,h2,h3⟩
 match n,hg with
 |0,hg=>simp at hg;rw[hg.2.1]at h2;cases h2
 |1,hg=>exact absurd rfl h3
 | n +2,hg=>
   rw[List.getElem?_append_right (by simp;omega),List.getElem?_map]at hg
   cases hq:js[1+(n+2) - qcL.length]? with
   |none=>rw[hq]at hg;cases hg
   | some q=>
     rw[hq]at hg
     simp only[Option.map_some,Option.some.injEq,Prod.mk.injEq]at hg
     have hqm:=List.mem_of_getElem? hq
     have:=qlG (h.lt q hqm) hj4 (hg.1.trans h1)
     subst this;exact hj hqm
theorem LInv.own {m:Mk} {js:List Nat} (h:LInv m js) {j:Nat} (hj:j ∉ js) (hj4:j<4):qhr m.toks (qcs (qcr j))= -1:=by
 refine XR fun t ht e=>?_
 obtain ⟨n,hn⟩:=List.getElem?_of_mem ht
 rw[List.getElem?_drop]at hn
 have hg:=h.get hn
 rw[List.getElem?_append_right (by simp),List.getElem?_map]at hg
 cases hq:js[3+n - qcL.length]? with
 |none=>rw[hq]at hg;cases hg
 | some q=>
   rw[hq]at hg
   simp only[Option.map_some,Option.some.injEq,Prod.mk.injEq]at hg
   have hqm:=List.mem_of_getElem? hq
   have h4:=h.lt q hqm
   have:=(Zh h4).2;have:=(Zh hj4).2
   have:q=j:=o_
   subst this;exact hj hqm
theorem qgo (k:Int):qcr k=qcr ((k % 4).toNat:Nat):=by
 have h1:=Int.emod_nonneg k (show (4:Int)≠0 by omega)
 unfold qcr
 rw[Int.toNat_of_nonneg h1,Int.emod_emod_of_dvd k (Int.dvd_refl 4)]
theorem LInv.put {m:Mk} {js:List Nat} (h:LInv m js) (k:Int): ∃js',LInv (ZG m (qcr k)).1 js'∧(∀j∈js,j∈js')∧ ∀j∈js',j∈js∨j=(k % 4).toNat:=by
 have h1:=Int.emod_nonneg k (show (4:Int)≠0 by omega)
 have h2:=Int.emod_lt_of_pos k (show (0:Int)<4 by omega)
 rw[qgo k]
 obtain ⟨j,hj⟩: ∃j:Nat,(k % 4).toNat=j:=⟨_,rfl⟩
 have hj4:j<4:=o_
 rw[hj]
 unfold ZG
 by_cases hm:j∈js
 · rw[if_pos (h.tok_in hm)]
   exact⟨js,h,fun _ a=>a,fun _ a=>Or.inl a⟩
 · rw[if_neg (by rw[h.tok_out hm hj4];omega)]
   dsimp only
   rw[if_neg (by rw[h.own hm hj4];rintro ⟨_,e⟩;omega)]
   refine⟨js++[j],⟨h.e,?_,?_,fun q hq=>?_⟩,fun q hq=>List.mem_append_left _ hq,fun q hq=>?_⟩
   · dsimp only;rw[List.map_append,h.toks,List.map_append,List.append_assoc];rfl
   · rw[List.nodup_append]
     exact⟨h.nd,by simp,fun a ha b hb e=>by rw[List.mem_singleton]at hb;subst hb;subst e;exact hm ha⟩
   · rcases List.mem_append.1 hq with hq|hq
     · exact h.lt q hq
     · rw[List.mem_singleton]at hq;subst hq;exact hj4
   · rcases List.mem_append.1 hq with hq|hq
     · exact Or.inl hq
     · rw[List.mem_singleton]at hq;exact Or.inr hq
theorem LInv.non {m:Mk} {js:List Nat} (h:LInv m js) {k:Nat} (hk:k<4):VG m.toks {name:=qJ7 k}= -1:=by
 refine Zr fun n t ht=>?_
 rw[List.getElem?_drop]at ht
 have hg:=h.get ht
 rintro ⟨h1,h2,h3⟩
 match n,hg with
 | 0,hg=>
   simp at hg
   rw[← hg.1]at h1
   have:=congrArg List.length h1
   simp[qKh]at this
 |1,hg=>exact absurd rfl h3
 | n +2,hg=>
   rw[List.getElem?_append_right (by simp;omega),List.getElem?_map]at hg
   cases hq:js[1+(n+2) - qcL.length]? with
   |none=>rw[hq]at hg;cases hg
   | some q=>
     rw[hq]at hg
     simp only[Option.map_some,Option.some.injEq,Prod.mk.injEq]at hg
     rw[← hg.2.1]at h2;cases h2
theorem LInv.level {m:Mk} {js:List Nat} (h:LInv m js) (n:Int):LInv {m with level:=n} js:=⟨h.e,h.toks,h.nd,h.lt⟩



set_option maxHeartbeats 4000000
def qR (token:Bool) (h:Nat→Bool) (l:List Int):Bool:=l.all fun s=>if s<1000 then token else h (s - 1000).toNat
def jy (g:Grammar) (token:Bool) (E:Nat→Bool):Prop:= ∀p∈g.prods,qR token E p.right=true→E p.left.toNat=true
structure IsGrow (g:Grammar) (token:Bool) (E:Nat→Bool):Prop where
 closed:jy g token E
 least: ∀F,jy g token F→ ∀k,E k=true→F k=true
theorem IsGrow.uniq {g:Grammar} {token:Bool} {E F:Nat→Bool} (h:IsGrow g token E) (k:IsGrow g token F):E=F:=by
 funext n
 rw[Bool.eq_iff_iff]
 exact⟨h.least F k.closed n,k.least E h.closed n⟩
theorem ZH {token:Bool} {h F:Nat→Bool} (hh: ∀k,h k=true→F k=true) {l:List Int} (hl:qR token h l=true):qR token F l=true:=by
 unfold qR at *
 rw[List.all_eq_true]at *
 intro s hs
 have:=hl s hs
 split
 · rename_i h1;rwa [if_pos h1]at this
 · rename_i h1;rw[if_neg h1]at this;exact hh _ this
theorem Yk {token:Bool} {h:Nat→Bool} {l:List Int} {i:Nat} (hi:i<l.length) (ht: ∀s∈l.take i,(if s<1000 then token else h (s - 1000).toNat)=true):(if l[i]<1000 then token else h (l[i] - 1000).toNat)=false→qR token h l=false:=fun hf=>
 List.all_eq_false.2 ⟨l[i],List.getElem_mem hi,by rw[hf];exact Bool.false_ne_true⟩
def cf (h:Nat→Bool):Nat→Nat
 |0=>0
 |n+1=>cf h n+if h n=true then 0 else 1
theorem qbp {h:Nat→Bool} {k:Nat} (hk:h k=false): ∀n,(n≤k→cf (qM h k true) n=cf h n)∧(k<n→cf (qM h k true) n+1=cf h n)
 |0=>⟨fun _=>rfl,fun h=>by omega⟩
 | n +1=>by
   obtain ⟨h1,h2⟩:=qbp hk n
   unfold cf
   by_cases e:n=k
   · subst e
     have e2:qM h n true n=true:=by unfold qM;rw[if_pos rfl]
     rw[e2,h1 (Nat.le_refl _),hk]
     exact⟨fun h=>by omega,fun _=>by simp⟩
   · have e2:qM h k true n=h n:=by unfold qM;rw[if_neg e]
     rw[e2]
     exact⟨fun h=>by rw[h1 o_],fun h=>by have:=h2 o_;omega⟩
theorem KM (n:Nat) (h:Nat→Bool):Cls' (yB n h):=inferInstanceAs (Cls' (List.map _ _))
theorem qp7 {P:Program} [Glob P] {cls:Cls} {id:Nat} {s:St} {K:V→St→Prop} {f a:Opd} {fid:FuncId} {caps as':List V} {x res:V} (hf:ev s f=.fn fid caps) (ha:ev s a=x) (hc:(cls == .r)=false) (hE:Ers true s.H (x::caps) as') (hp:Pure P fid as' res) (hfl:Flat res) (hk:K res s):qc P cls id s K (.call f [a]):=by
 show (match ev s f with
  | .fn fid caps=>
    (∃bor as' res,(cls=.r→bor=false)∧Ers bor s.H ([a].map (ev s)++caps) as'∧Pure P fid as' res∧(bor=true→Flat res)∧K res s)∨
    (qEU cls=true∧qJ P fid ([a].map (ev s)++caps) s.H s.next fun v H' next'=>qan cls s.next s.H H' next'∧K v {s with H:=H',next:=next'})
  | _=>False)
 rw[hf]
 subst ha
 exact Or.inl ⟨true,as',res,fun e=>(by subst e;cases hc),hE,hp,fun _=>hfl,hk⟩
theorem qas {p:GPr} {token:Bool} {h:Nat→Bool} {n:Nat} (hr: ∀s∈p.right,s<1000∨ ∃k:Nat,s=1000+(k:Int)∧k<n) (hl:p.right.length≤1000000) (hn:n≤1000000):Pure Tryz.prog 70 [p.V,.iptr 1 (.bool token) 0,.iptr 1 (.sl 1 false (yB n h)) 0] (.bool (qR token h p.right)):=by
 refine pure_intro Tryz.func70 nm_ qoL (by show 3≤33;decide) ?_
 show ewp _ qin _ _
 repeat' with_reducible first
  |refine s_ ?_
  |simp -implicitDefEqProofs only[wZZ,seval]
  |refine t_ ?_
 refine qb ?nx1 (fun(i:Nat) s=>s.f 1=?v1_1∧s.f 2=?v1_2∧s.f 8=?v1_8∧s.f 9=?v1_9∧s.f 10=vi i∧(i≤p.right.length)∧(∀s∈p.right.take i,(if s<1000 then token else h (s - 1000).toNat)=true)) (fun i=>p.right.length - i) (0) wj_ (by refine⟨?_,?_,?_,?_,?_,wo_,wo_⟩<;>first|(simp -implicitDefEqProofs only[wL,wM,wN,wX,seval,Option.some.injEq]<;>exact wt_)|rfl|exact⟨_,rfl⟩) ?_
 intro i s hnx ⟨g1,g2,g8,g9,g10,k1_0,k1_1⟩
 have hz:=w1_ i
 by_cases hi:i<p.right.length
 · have hst:=Yk hi k1_1
   have hnx:(if p.right[i]<1000 then token else h (p.right[i] - 1000).toNat)=true→ ∀s∈p.right.take (i+1),(if s<1000 then token else h (s - 1000).toNat)=true:=fun hh s hs=>by
    rw[List.take_add_one,ge_ hi]at hs
    rcases List.mem_append.1 hs with hs|hs
    · exact k1_1 s hs
    · simp at hs;subst hs;exact hh
   rcases hr _ (List.getElem_mem hi)with hs|⟨k,hk,hkn⟩
   · rw [if_pos hs]at hst hnx
     cases token with
     | true=>
       repeat' with_reducible first
        |refine s_ ?_
        |simp -implicitDefEqProofs only[wZZ,seval,g1,g2,g8,g9,g10,hz]
        |(first|apply qa|apply qj|apply qx)<;>intro h h_<;>(try simp only[wD,reduceCtorEq]at h_)<;>(try exact wb_)<;>(try simp only[h])
        |refine t_ ?_
       refine⟨wk_,i+1,o_,?_⟩
       refine⟨?_,?_,?_,?_,?_,?_,?_⟩
       iterate 5 (focus(first|(simp -implicitDefEqProofs only[wL,wM,wN,wX,seval,Option.some.injEq,g1,g2,g8,g9,g10]<;>exact wt_)|rfl|exact⟨_,rfl⟩))
       all_goals try omega
       exact hnx rfl
     | false=>
       rw[hst rfl]
       repeat' with_reducible first
        |refine s_ ?_
        |simp -implicitDefEqProofs only[wZZ,seval,g1,g2,g8,g9,g10,hz]
        |(first|apply qa|apply qj|apply qx)<;>intro h h_<;>(try simp only[wD,reduceCtorEq]at h_)<;>(try exact wb_)<;>(try simp only[h])
        |refine t_ ?_
       refine qD rfl (Or.inr rfl) ?_
       simp -implicitDefEqProofs only[wL,seval,g1,g2,g8,g9,g10]
       refine er_ ?_
       try(with_reducible rfl)
   · have hz2:IntKind.i64.wrap (1000+(k:Int) - 1000)=(k:Int):=by rw[wrap64 o_ o_];omega
     rw[if_neg o_,hk,show ((1000+(k:Int)) - 1000).toNat=k by omega]at hst hnx
     have hbg:=jR (h:=h) hkn
     cases hb:h k with
     | true=>
       repeat' with_reducible first
        |refine s_ ?_
        |simp -implicitDefEqProofs only[wZZ,seval,g1,g2,g8,g9,g10,hz,hk,hz2,hb]
        |(first|apply qa|apply qj|apply qx)<;>intro h h_<;>(try simp only[wD,reduceCtorEq]at h_)<;>(try exact wb_)<;>(try simp only[h])
        |(apply ji (kQ o_ (by with_unfolding_all exact hbg)))
        |refine t_ ?_
       refine⟨wk_,i+1,o_,?_⟩
       refine⟨?_,?_,?_,?_,?_,?_,?_⟩
       iterate 5 (focus(first|(simp -implicitDefEqProofs only[wL,wM,wN,wX,seval,Option.some.injEq,g1,g2,g8,g9,g10]<;>exact wt_)|rfl|exact⟨_,rfl⟩))
       all_goals try omega
       exact hnx hb
     | false=>
       rw[hst hb]
       repeat' with_reducible first
        |refine s_ ?_
        |simp -implicitDefEqProofs only[wZZ,seval,g1,g2,g8,g9,g10,hz,hk,hz2,hb]
        |(first|apply qa|apply qj|apply qx)<;>intro h h_<;>(try simp only[wD,reduceCtorEq]at h_)<;>(try exact wb_)<;>(try simp only[h])
        |(apply ji (kQ o_ (by with_unfolding_all exact hbg)))
        |refine t_ ?_
       refine qD rfl (Or.inr rfl) ?_
       simp -implicitDefEqProofs only[wL,seval,g1,g2,g8,g9,g10]
       refine er_ ?_
       try(with_reducible rfl)
 · rw[List.take_of_length_le o_]at k1_1
   have e:qR token h p.right=true:=List.all_eq_true.2 k1_1
   rw[e]
   repeat' with_reducible first
    |refine s_ ?_
    |simp -implicitDefEqProofs only[wZZ,seval,g1,g2,g8,g9,g10]
    |apply qa<;>intro h h_<;>(try simp only[wD,reduceCtorEq]at h_)<;>(try exact wb_)<;>(try simp only[h])
   refine qD rfl (Or.inr rfl) ?_
   simp -implicitDefEqProofs only[wL,seval,g1,g2,g8,g9,g10]
   refine er_ ?_
   try(with_reducible rfl)

theorem qa7 {H:Nat→Option MObj} {id sz:Nat} {ro:Bool} {e e':V} (hH:H id=some (.own sz [e] ro)) (h:Er true H e e'):Er true H (.ptr id 0 0) (.iptr sz e' 0):= .ptr id 0 0 sz _ ro _ _ rfl hH rfl h
theorem qaX {H:Nat→Option MObj} {id n:Nat} {ro:Bool} {h:Nat→Bool} (hH:H id=some (.own 1 (yB n h) ro)):Er true H (.msl id 1 0 n) (.sl 1 false (yB n h)):=by
 have:=KM n h
 exact zX hH (by rw[vE];omega) (by rw[List.drop_zero];exact List.take_of_length_le (by rw[vE];omega))
instance gpr_cl (p:GPr):Cl p.V:=⟨fun b H=>ErL.agg (.cons (.int _ _) (.cons qg (.cons (.int _ _) (.cons (.str _) (.cons qg (.cons (.int _ _) .nil))))))⟩
theorem GOk.rt {g:Grammar} (h:GOk g) {p:GPr} (hp:p∈g.prods): ∀s∈p.right,s<1000∨ ∃k:Nat,s=1000+(k:Int)∧k<g.nons.length:=fun s hs=>by
 rcases h.right p hp s hs with ⟨t,e,l⟩|⟨k,e,l⟩
 · have:=h.tk2;exact Or.inl o_
 · exact Or.inr ⟨k,e,l⟩
theorem qdj {g:Grammar} {token:Bool} (hg:GOk g): ∃E,IsGrow g token E∧Pure Tryz.prog 37 [g.V,.bool token] (.sl 1 false (yB g.nons.length E)):=by
 have hh:=YT (G:=fun v=> ∃E,v=.sl 1 false (yB g.nons.length E)∧IsGrow g token E) (args:=[g.V,.bool token]) Tryz.func37 nm_ qli (by show 2≤40;decide) ?_
 · obtain ⟨v,⟨E,rfl,h⟩,h2⟩:=hh
   exact⟨E,h,h2⟩
 show ewp _ qeb _ _
 have hnl:=hg.nn2;have hpl:=hg.pl2
 have hb0:=qex g.nons.length
 repeat' with_reducible first
  |refine s_ ?_
  |simp -implicitDefEqProofs only[wZZ,seval]
  |refine t_ ?_
  |apply zD;exact wu_;exact wu_;exact wu_
  |apply qat;exact wf_;exact wf_;(focus(unfold maxLen;first|omega|(simp only[wZ]<;>omega)))
 rw[hb0]
 refine qb ?nx1 (fun(q:(Nat→Bool)×Bool) s=>s.f 2=?v1_2∧s.f 5=?v1_5∧s.f 6=?v1_6∧s.H 0=some (MObj.own 5 [g.V] false)∧s.H 1=some (MObj.own 1 [.bool token] false)∧s.H 7=some (MObj.own 1 [.msl 6 1 0 g.nons.length] false)∧s.f 7=.bool q.2∧((s.H 6=some (MObj.own 1 (yB g.nons.length q.1) false)))∧((∀F,jy g token F→ ∀k,q.1 k=true→F k=true))∧((q.2=false→jy g token q.1))) (fun q=>2 *cf q.1 g.nons.length+(if q.2=true then 1 else 0)) ((fun _=>false,true)) wj_ (by refine⟨?_,?_,?_,?_,?_,?_,?_,wc_,(by intro F _ k h;cases h),(by intro h;cases h)⟩<;>first|(simp -implicitDefEqProofs only[wL,wM,wN,wX,seval,Option.some.injEq]<;>exact wt_)|rfl|exact⟨_,rfl⟩) ?_
 intro q s hnx ⟨g2,g5,g6,o0,o1,o2,g7,k1_0,k1_1,k1_2⟩
 obtain ⟨h,b⟩:=q
 dsimp only at *
 cases b with
 | false=>
   have hcl:=k1_2 rfl
   repeat' with_reducible first
    |refine s_ ?_
    |simp -implicitDefEqProofs only[wZZ,seval,g2,g5,g6,g7,o0,o1,o2,k1_0]
    |apply zC;exact wu_
   refine⟨_,⟨h,rfl,hcl,k1_1⟩,Or.inr rfl,.msl 6 1 0 g.nons.length,?_,qaX (ro:=false) ?_⟩
   · show qai _ [.inl 4]=_
     simp[qai,Ko,one,wL]
   · (simp only[wM];(repeat first|rw[if_pos trivial]|rw[if_pos rfl]|rw[if_neg o_]));exact k1_0
 | true =>
   repeat' with_reducible first
    |refine s_ ?_
    |simp -implicitDefEqProofs only[wZZ,seval,g2,g5,g6,g7,o0,o1,o2,k1_0]
    |refine t_ ?_
   refine qb ?nx2 (fun(r:Nat×(Nat→Bool)×Bool) s=>s.f 2=?v2_2∧s.f 5=?v2_5∧s.f 6=?v2_6∧s.f 17=?v2_17∧s.f 18=?v2_18∧s.H 0=some (MObj.own 5 [g.V] false)∧s.H 1=some (MObj.own 1 [.bool token] false)∧s.H 7=some (MObj.own 1 [.msl 6 1 0 g.nons.length] false)∧s.f 7=.bool r.2.2∧s.f 19=vi r.1∧(r.1≤g.prods.length)∧((s.H 6=some (MObj.own 1 (yB g.nons.length r.2.1) false)))∧((∀F,jy g token F→ ∀k,r.2.1 k=true→F k=true))∧((r.2.2=false→r.2.1=h∧ ∀p∈g.prods.take r.1,qR token h p.right=true→h p.left.toNat=true))∧((r.2.2=true→cf r.2.1 g.nons.length<cf h g.nons.length))) (fun r=>g.prods.length - r.1) ((0,h,false)) wj_ (by refine⟨?_,?_,?_,?_,?_,?_,?_,?_,?_,?_,wo_,(by(simp only[wM];(repeat first|rw[if_pos trivial]|rw[if_pos rfl]|rw[if_neg o_]));exact k1_0),(by exact k1_1),(by exact fun _=>⟨rfl,fun p hp=>by simp at hp⟩),(by intro h;cases h)⟩<;>first|(simp -implicitDefEqProofs only[wL,wM,wN,wX,seval,Option.some.injEq,g2,g5,g6,g7,o0,o1,o2]<;>exact wt_)|rfl|exact⟨_,rfl⟩) ?_
   intro r s hnx ⟨g2,g5,g6,g17,g18,o0,o1,o2,g7,g19,k2_0,k2_1,k2_2,k2_3,k2_4⟩
   obtain ⟨i,h',b'⟩:=r
   dsimp only at *
   have hz:=w1_ i
   by_cases hi:i<g.prods.length
   · have hmem:=List.getElem_mem hi
     obtain ⟨lf,hl1,hl2⟩:=hg.left _ hmem
     have hrt:=hg.rt hmem
     have hrl:=hg.rlen _ hmem
     have htk:g.prods.take (i+1)=g.prods.take i++[g.prods[i]]:=by rw[List.take_add_one,ge_ hi];rfl
     generalize hp:g.prods[i]=p at *
     have hcl:=qas (p:=p) (token:=token) (h:=h') (n:=g.nons.length) hrt o_ o_
     have hgp:g.prods[i]?=some p:=by rw[ge_ hi,hp]
     have hpm:p∈g.prods:=hp ▸ List.getElem_mem hi
     clear hp
     obtain ⟨pl,pr,pc,pco,pa,pat⟩:=p
     dsimp only at hl1 hrt hrl hcl
     subst hl1
     have hnew:(b'=false→h'=h∧ ∀p∈g.prods.take i,qR token h p.right=true→h p.left.toNat=true)→(qR token h' pr=true→h' lf=true)→(b'=false→h'=h∧ ∀p∈g.prods.take (i+1),qR token h p.right=true→h p.left.toNat=true):=fun q1 q2 hb=>by
      obtain ⟨e1,e2⟩:=q1 hb
      refine⟨e1,fun p hp hf=>?_⟩
      rw[htk]at hp
      rcases List.mem_append.1 hp with hp|hp
      · exact e2 p hp hf
      · rw[List.mem_singleton]at hp;subst hp
        subst e1
        exact q2 hf
     repeat' with_reducible first
      |refine s_ ?_
      |simp -implicitDefEqProofs only[wZZ,seval,g2,g5,g6,g17,g18,g7,g19,o0,o1,o2,k2_1,hz]
      |(first|apply qa|apply qj|apply qx)<;>intro h h_<;>(try simp only[wD,reduceCtorEq]at h_)<;>(try exact wb_)<;>(try simp only[h])
      |(refine ldB hl2 ?_)
      |refine t_ ?_
      |apply zC;exact wu_
      |simp -implicitDefEqProofs (disch:=omega) only[w64,if_neg]
     · refine qp7 (fid:=70) (caps:=[.ptr 1 0 0,.ptr 7 0 0]) (as':=[GPr.V {left:=lf,right:=pr,prec:=pc,code:=pco,args:=pa,at_:=pat},.iptr 1 (.bool token) 0,.iptr 1 (.sl 1 false (yB g.nons.length h')) 0]) (x:=GPr.V {left:=lf,right:=pr,prec:=pc,code:=pco,args:=pa,at_:=pat}) (by rfl) (by rfl) rfl ?_ hcl (Flat.bool _) ?_
       · refine jf qg (jf (qa7 (ro:=false) (by(simp only[wM];(repeat first|rw[if_pos trivial]|rw[if_pos rfl]|rw[if_neg o_]));exact o1) (.bool _)) (jf (qa7 (ro:=false) (by(simp only[wM];(repeat first|rw[if_pos trivial]|rw[if_pos rfl]|rw[if_neg o_]));exact o2) (qaX (ro:=false) (by(simp only[wM];(repeat first|rw[if_pos trivial]|rw[if_pos rfl]|rw[if_neg o_]));exact k2_1))) Qc))
       cases hfit:qR token h' pr with
       | true=>
         repeat' with_reducible first
          |refine s_ ?_
          |simp -implicitDefEqProofs only[wZZ,seval,g2,g5,g6,g17,g18,g7,g19,o0,o1,o2,k2_1,hz]
          |(refine stB hl2 ?_)
          |refine t_ ?_
          |apply zC;exact wu_
          |simp -implicitDefEqProofs (disch:=omega) only[w64,if_neg]
         refine⟨wg_,(i+1,qM h' lf true,true),by dsimp only;omega,trivial,trivial,trivial,trivial,trivial,trivial,trivial,trivial,rfl,rfl,by dsimp only;omega,rfl,fun F hF k hk=>?_,fun e=>(by cases e),fun _=>?_⟩
         · dsimp only at hk
           unfold qM at hk
           split at hk
           · rename_i e;subst e
             exact hF _ hpm (ZH (k2_2 F hF) hfit)
           · exact k2_2 F hF k hk
         · have:=(qbp (h:=h') (k:=lf) (by assumption) g.nons.length).2 hl2
           show cf (qM h' lf true) g.nons.length<_
           cases b' with
           |false=>have e:=(k2_3 rfl).1;subst e;omega
           |true=>have:=k2_4 rfl;omega
       | false=>
         repeat' with_reducible first
          |refine s_ ?_
          |simp -implicitDefEqProofs only[wZZ,seval,g2,g5,g6,g17,g18,g7,g19,o0,o1,o2,k2_1,hz]
          |simp -implicitDefEqProofs (disch:=omega) only[w64,if_neg]
         refine⟨wg_,(i+1,h',b'),by dsimp only;omega,trivial,trivial,trivial,trivial,trivial,trivial,trivial,trivial,rfl,rfl,by dsimp only;omega,rfl,k2_2,hnew k2_3 (fun e=>by rw[hfit]at e;cases e),k2_4⟩
     · refine⟨wg_,(i+1,h',b'),by dsimp only;omega,trivial,trivial,trivial,trivial,trivial,trivial,trivial,trivial,rfl,rfl,by dsimp only;omega,rfl,k2_2,hnew k2_3 (fun _=>by assumption),k2_4⟩
   · have e:i=g.prods.length:=o_
     subst e
     rw[List.take_length]at k2_3
     repeat' with_reducible first
      |refine s_ ?_
      |simp -implicitDefEqProofs only[wZZ,seval,g2,g5,g6,g17,g18,g7,g19,o0,o1,o2,k2_1]
     refine⟨wg_,(h',b'),?_,trivial,trivial,trivial,trivial,trivial,trivial,rfl,rfl,k2_2,fun hb=>?_⟩
     · dsimp only
       cases b' with
       |false=>have e:=(k2_3 rfl).1;subst e;simp
       |true=>have:=k2_4 rfl;simp;omega
     · obtain ⟨e1,e2⟩:=k2_3 hb
       dsimp only
       rw[e1];exact e2
end Go.Proofs
