/- Part of a proof that a law of the given program answers true. -/
import Derived.Test.YtjdjdbkoplmjeaaSGC
import Derived.Test.YtjdjdbkoplmjeaaSJA
import Derived.Test.YtjdjdbkoplmjeaaSEC
import Derived.Test.YtjdjdbkoplmjeaaSCA
set_option linter.unusedSimpArgs false
set_option linter.unusedVariables false
namespace Go.Proofs
open Go.E
def Jp (nt nn:Nat) (s:Int):Prop:=(∃t:Nat,s=t∧t<nt)∨ ∃k:Nat,s=1000+(k:Int)∧k<nn
structure GOk (g:Grammar):Prop where
 tk:3≤g.toks.length
 tk2:g.toks.length≤40
 nn:1≤g.nons.length
 nn2:g.nons.length≤24
 pl:1≤g.prods.length
 pl2:g.prods.length≤60
 left: ∀p∈g.prods,∃l:Nat,p.left=l∧l<g.nons.length
 rlen: ∀p∈g.prods,p.right.length≤8
 right: ∀p∈g.prods,∀s∈p.right,Jp g.toks.length g.nons.length s
 prec: ∀p∈g.prods,p.prec= -1∨ ∃t:Nat,p.prec=t∧t<g.toks.length
 head: ∃p r,g.prods=p::r∧p.left=0∧(∃k:Nat,p.right=[1000+(k:Int)]∧k<g.nons.length)
structure MInv (m:Mk):Prop where
 tk:3≤m.toks.length
 inn:0≤m.inner
 left: ∀p∈m.prods,0≤p.left∧p.left≤m.lefts.length+m.inner
 right: ∀p∈m.prods,∀s∈p.right,Jp m.toks.length (1+m.lefts.length+m.inner.toNat) s
 prec: ∀p∈m.prods,p.prec= -1∨(0≤p.prec∧p.prec<m.toks.length)
theorem Jp.mono {a b a' b':Nat} {s:Int} (h:Jp a b s) (h1:a≤a') (h2:b≤b'):Jp a' b' s:=by
 rcases h with ⟨t,e,l⟩|⟨k,e,l⟩
 · exact Or.inl ⟨t,e,o_⟩
 · exact Or.inr ⟨k,e,o_⟩
theorem MInv.up {m m':Mk} (h:MInv m) (hp:m'.prods=m.prods) (ht:m.toks.length≤m'.toks.length) (hl:m'.lefts=m.lefts) (hi:m.inner≤m'.inner):MInv m':=by
 have:=h.inn
 refine⟨by have:=h.tk;omega,o_,fun p hq=>?_,fun p hq s hs=>?_,fun p hq=>?_⟩
 · rw[hp]at hq;have:=h.left p hq;rw[hl];omega
 · rw[hp]at hq;rw[hl];exact(h.right p hq s hs).mono ht o_
 · rw[hp]at hq
   rcases h.prec p hq with h|⟨h1,h2⟩
   · exact Or.inl h
   · exact Or.inr ⟨h1,o_⟩
theorem MInv.put {m:Mk} (h:MInv m) {p:GPr} (h1:0≤p.left∧p.left≤m.lefts.length+m.inner) (h2: ∀s∈p.right,Jp m.toks.length (1+m.lefts.length+m.inner.toNat) s) (h3:p.prec= -1∨(0≤p.prec∧p.prec<m.toks.length)):MInv {m with prods:=m.prods++[p]}:=by
 refine⟨h.tk,h.inn,fun q hq=>?_,fun q hq=>?_,fun q hq=>?_⟩<;>rcases List.mem_append.1 hq with hq|hq
 · exact h.left q hq
 · rw[List.mem_singleton]at hq;subst hq;exact h1
 · exact h.right q hq
 · rw[List.mem_singleton]at hq;subst hq;exact h2
 · exact h.prec q hq
 · rw[List.mem_singleton]at hq;subst hq;exact h3
theorem qaT {m:Mk} (x:Sym) (ht:3≤m.toks.length) (hi:0≤m.inner):Jp (jB m x).1.toks.length (1+m.lefts.length+m.inner.toNat) (jB m x).2∧(x.lit=true∨qy x.name m.lefts 0<0→0≤(jB m x).2∧(jB m x).2<(jB m x).1.toks.length):=by
 have hb:=qao m x o_
 have hl:=jh x.name m.lefts 0
 have htk:=YT x m.toks o_
 have hf:=(za m x.at_ x.name).1
 have tokI: ∀{n:Nat} {s:Int},0≤s→s<n→Jp n (1+m.lefts.length+m.inner.toNat) s:=fun h1 h2=>Or.inl ⟨_,(Int.toNat_of_nonneg h1).symm,o_⟩
 unfold jB
 split
 · exact⟨tokI hb.1 hb.2,fun _=>hb⟩
 · rename_i hx
   split
   · rename_i h0
     refine⟨Or.inr ⟨(1+qy x.name m.lefts 0).toNat,by dsimp only;omega,o_⟩,fun h=>?_⟩
     rcases h with h|h
     · exact absurd h hx
     · omega
   · split
     · dsimp only;rw[hf]
       exact⟨tokI o_ o_,fun _=>⟨o_,o_⟩⟩
     · dsimp only;exact⟨tokI o_ o_,fun _=>⟨o_,o_⟩⟩
theorem Xq : ∀(l:List Part) (m:Mk) (p:GPr),MInv m→(∀s∈p.right,Jp m.toks.length (1+m.lefts.length+m.inner.toNat) s)→MInv (qV l (m,p)).1∧ ∀s∈(qV l (m,p)).2.right,Jp (qV l (m,p)).1.toks.length (1+(qV l (m,p)).1.lefts.length+(qV l (m,p)).1.inner.toNat) s
 |[],m,p,h,hp=>by rw[kS];exact⟨h,hp⟩
 | w :: r, m,p,h,hp=>by
   rw[xC]
   obtain ⟨y1,y2,y3,y4,y5,y6,y7,y8⟩:=yM m w.sym
   have hs:=(qaT w.sym h.tk h.inn).1
   have hi:=h.inn
   split
   · refine Xq r _ _ (h.up y3 y7 y2 o_) fun s hs2=>?_
     rw[y2,y6]
     rcases List.mem_append.1 hs2 with hs2|hs2
     · exact(hp s hs2).mono y7 (Nat.le_refl _)
     · rw[List.mem_singleton]at hs2;subst hs2;exact hs
   · split
     · exact⟨h,hp⟩
     · refine Xq r _ _ ?_ fun s hs2=>?_
       · refine(h.up (m':={m with inner:=m.inner+1}) rfl (Nat.le_refl _) rfl (by dsimp only;omega)).put ⟨by dsimp only;omega,by dsimp only;omega⟩ (fun s hs2=>by cases hs2) (Or.inl rfl)
       · dsimp only at hs2 ⊢
         rcases List.mem_append.1 hs2 with hs2|hs2
         · exact(hp s hs2).mono (Nat.le_refl _) o_
         · rw[List.mem_singleton]at hs2
           exact Or.inr ⟨m.lefts.length+(m.inner+1).toNat,by rw[hs2];omega,o_⟩
theorem Yx (n:Nat): ∀(l:List Int) (p:Int),(∀s∈l,0≤s∧(s<1000→s<n))→(p= -1∨(0≤p∧p<n))→(jV l p= -1∨(0≤jV l p∧jV l p<n))
 |[],p,_,hp=>hp
 | x::r,p,h,hp=>by
   rw[jV]
   refine Yx n r _ (fun s hs=>h s (List.mem_cons_of_mem _ hs)) ?_
   split
   · rename_i hx;have:=h x (by simp);exact Or.inr ⟨this.1,this.2 hx⟩
   · exact hp
theorem qeL {m:Mk} (n:List UInt8) (a:Alt) (h:MInv m):MInv (Qd m n a):=by
 have hl:=jh n m.lefts 0
 obtain ⟨g1,g2,g3,g4,g5,g6,g7,g8,g9,g10⟩:=QE a.parts m {left:=1+qy n m.lefts 0,prec:= -1,at_:=a.at_}
 obtain ⟨h1,h2⟩:=Xq a.parts m {left:=1+qy n m.lefts 0,prec:= -1,at_:=a.at_} h (fun s hs=>by cases hs)
 have hi:=h.inn
 unfold Qd
 dsimp only
 generalize qV a.parts (m,{left:=1+qy n m.lefts 0,prec:= -1,at_:=a.at_})=q at *
 have hlf:0≤q.2.left∧q.2.left≤q.1.lefts.length+q.1.inner:=by rw[g5,g1];dsimp only;omega
 obtain ⟨ff1,ff2,ff3,ff4,ff5,ff6,ff7,ff8⟩:=za q.1 a.prec.at_ a.prec.name
 split
 · split
   · rename_i hc
     obtain ⟨y1,y2,y3,y4,y5,y6,y7,y8⟩:=yM q.1 a.prec
     have hs:=(qaT a.prec h1.tk h1.inn).2 (by rcases hc with hc|hc<;>simp[hc])
     refine(h1.up y3 y7 y2 o_).put (by rw[y2,y6];exact hlf) (fun s hs2=>?_) (Or.inr hs)
     rw[y2,y6];exact(h2 s hs2).mono y7 (Nat.le_refl _)
   · refine(h1.up (m':=qO q.1 a.prec.at_ a.prec.name) ff5 (by rw[ff1];omega) ff3 o_).put (p:={q.2 with prec:= -1,args:=q.2.right}) (by rw[ff3,ff8];exact hlf) (fun s hs2=>by rw[ff1,ff3,ff8];exact h2 s hs2) (Or.inl rfl) |> fun hh=>?_
     rw[ff5]at hh
     exact hh
 · refine h1.put hlf h2 ?_
   refine Yx _ _ _ (fun s hs=>?_) (Or.inl rfl)
   rcases h2 s hs with ⟨t,e,l⟩|⟨k,e,l⟩
   · exact⟨o_,fun _=>by omega⟩
   · exact⟨o_,fun _=>by omega⟩
theorem X7 (n:List UInt8): ∀(l:List Alt) (m:Mk),MInv m→MInv (qW n l m)
 |[],m,h=>h
 |a::r,m,h=>by rw[jI];exact X7 n r _ (qeL n a h)
theorem VI: ∀(l:List Rule) (m:Mk),MInv m→MInv (jC l m)
 |[],m,h=>h
 |r::l,m,h=>by rw[xH];exact VI l _ (X7 r.left r.alts m h)
def HdP (P:GPr) (m:Mk):Prop:= ∃r,m.prods=P::r
theorem Xg (P:GPr): ∀(l:List Part) (m:Mk) (p:GPr),HdP P m→HdP P (qV l (m,p)).1
 |[],m,p,h=>h
 | w ::r,m,p,h=>by
   rw[xC]
   obtain ⟨y1,y2,y3,y4,y5,y6,y7,y8⟩:=yM m w.sym
   obtain ⟨t,ht⟩:=h
   split
   · exact Xg P r _ _ ⟨t,by rw[y3];exact ht⟩
   · split
     · exact⟨t,ht⟩
     · exact Xg P r _ _ ⟨_,by dsimp only;rw[ht];rfl⟩
theorem qf6 (P:GPr) {m:Mk} (n:List UInt8) (a:Alt) (h:HdP P m):HdP P (Qd m n a):=by
 have h1:=Xg P a.parts m {left:=1+qy n m.lefts 0,prec:= -1,at_:=a.at_} h
 unfold Qd
 dsimp only
 generalize qV a.parts (m,{left:=1+qy n m.lefts 0,prec:= -1,at_:=a.at_})=q at *
 obtain ⟨t,ht⟩:=h1
 obtain ⟨y1,y2,y3,y4,y5,y6,y7,y8⟩:=yM q.1 a.prec
 split
 · split
   · exact⟨_,by dsimp only;rw[y3,ht];rfl⟩
   · exact⟨_,by dsimp only;rw[ht];rfl⟩
 · exact⟨_,by dsimp only;rw[ht];rfl⟩
theorem X9 (P:GPr) (n:List UInt8): ∀(l:List Alt) (m:Mk),HdP P m→HdP P (qW n l m)
 |[],m,h=>h
 |a::r,m,h=>by rw[jI];exact X9 P n r _ (qf6 P n a h)
theorem VN (P:GPr): ∀(l:List Rule) (m:Mk),HdP P m→HdP P (jC l m)
 |[],m,h=>h
 |r::l,m,h=>by rw[xH];exact VN P l _ (X9 P r.left r.alts m h)
theorem Z5 (g:List Bool): ∀(f i:Nat) (l:List Tok) (n:Int),(Js g f i (l,n)).1.length=l.length
 |0,i,l,n=>rfl
 | f+1,i,l,n=>by
   rw[Qy];split
   · exact Z5 g f _ _ _
   · rw[Z5];simp
theorem Y0 (d:Decl): ∀(l:List Sym) (m:Mk) (st:List UInt8),xY m (zb d l (m,st)).1∧m.toks.length≤(zb d l (m,st)).1.toks.length
 |[],m,st=>⟨⟨rfl,rfl,rfl,rfl⟩,Nat.le_refl _⟩
 | x ::r,m,st=>by
   rw[QA]
   obtain ⟨⟨a1,a2,a3,a4⟩,_,h2,_⟩:=qap m d x
   obtain ⟨ff1,ff2,ff3,ff4,ff5,ff6,ff7,ff8⟩:=za m x.at_ x.name
   split
   · obtain ⟨⟨b1,b2,b3,b4⟩,k2⟩:=Y0 d r (jO m d x) st
     exact⟨⟨b1.trans a1,b2.trans a2,b3.trans a3,b4.trans a4⟩,o_⟩
   · have key: ∀m',xY m m'→m.toks.length≤m'.toks.length→xY m (zb d r (m',x.name)).1∧m.toks.length≤(zb d r (m',x.name)).1.toks.length:=fun m' hm ht=>by
      obtain ⟨⟨b1,b2,b3,b4⟩,k2⟩:=Y0 d r m' x.name
      exact⟨⟨b1.trans hm.1,b2.trans hm.2.1,b3.trans hm.2.2.1,b4.trans hm.2.2.2⟩,o_⟩
     split
     · exact key _ ⟨ff3,ff5,ff6,ff8⟩ (by rw[ff1];omega)
     · exact key _ ⟨rfl,rfl,rfl,rfl⟩ (Nat.le_refl _)
theorem Va: ∀(l:List Decl) (m:Mk) (st:List UInt8),xY m (zJ l (m,st)).1∧m.toks.length≤(zJ l (m,st)).1.toks.length
 |[],m,st=>⟨⟨rfl,rfl,rfl,rfl⟩,Nat.le_refl _⟩
 | d::r,m,st=>by
   rw[Qm]
   have key: ∀m',xY m m'→m.toks.length≤m'.toks.length→xY m (zJ r (zb d d.syms (m',st))).1∧m.toks.length≤(zJ r (zb d d.syms (m',st))).1.toks.length:=fun m' hm ht=>by
    obtain ⟨⟨a1,a2,a3,a4⟩,k1⟩:=Y0 d d.syms m' st
    obtain ⟨⟨b1,b2,b3,b4⟩,k2⟩:=Va r (zb d d.syms (m',st)).1 (zb d d.syms (m',st)).2
    exact⟨⟨b1.trans (a1.trans hm.1),b2.trans (a2.trans hm.2.1),b3.trans (a3.trans hm.2.2.1),b4.trans (a4.trans hm.2.2.2)⟩,by show m.toks.length≤(zJ r ((zb d d.syms (m',st)).1,(zb d d.syms (m',st)).2)).1.toks.length;omega⟩
   split
   · exact key _ ⟨rfl,rfl,rfl,rfl⟩ (Nat.le_refl _)
   · exact key _ ⟨rfl,rfl,rfl,rfl⟩ (Nat.le_refl _)
theorem qai: ∀(l:List Rule) (m:Mk),(zT l m).toks=m.toks∧(zT l m).inner=m.inner∧(zT l m).nons=m.nons
 |[],m=>⟨rfl,rfl,rfl⟩
 | r::l,m=>by
   rw[Qn]
   obtain ⟨d1,d2,d3,d4,d5,d6⟩:=qau m r
   obtain ⟨h1,h2,h3⟩:=qai l (Ql (yN m r) r.left)
   have e:(Ql (yN m r) r.left).toks=m.toks∧(Ql (yN m r) r.left).inner=m.inner∧(Ql (yN m r) r.left).nons=m.nons:=by
    unfold Ql
    split
    · exact⟨d1,d6,d5⟩
    · exact⟨d1,d6,d5⟩
   exact⟨h1.trans e.1,h2.trans e.2.1,h3.trans e.2.2⟩
theorem Vv (kind:Int): ∀(l:List Sym) (m:Mk),jN m (z8 kind l m)
 |[],m=>jN.rfl' m
 |x::r,m=>by rw[vV];exact(qoE m kind x).trans' (Vv kind r _)
theorem qbk: ∀(l:List Decl) (m:Mk),jN m (yc l m)
 |[],m=>jN.rfl' m
 |d::r,m=>by rw[Qx];exact(Vv d.kind d.syms m).trans' (qbk r _)
def Yu (src:Source):Mk:=yc src.decls (zT src.rules (zJ src.decls ({},[])).1)
def QV (src:Source):List UInt8:=if (zJ src.decls ({},[])).2=[]then(src.rules.headD {}).left else(zJ src.decls ({},[])).2
def ZB (src:Source):GPr:={left:=0,right:=[1001+qy (QV src) (Yu src).lefts 0],prec:= -1}
theorem Ze (src:Source):jf src=jC src.rules {Yu src with prods:=[ZB src]}:=rfl
theorem qdI (src:Source):3≤(Yu src).toks.length∧(Yu src).inner=0∧(Yu src).nons=[]:=by
 obtain ⟨⟨a1,a2,a3,a4⟩,k1⟩:=Va src.decls {} []
 obtain ⟨l1,l2,l3⟩:=qai src.rules (zJ src.decls ({},[])).1
 obtain ⟨u1,u2,u3,u4,u5,u6,u7⟩:=qbk src.decls (zT src.rules (zJ src.decls ({},[])).1)
 refine⟨?_,?_,?_⟩
 · show 3≤(yc _ _).toks.length;rw[u1,l1];exact k1
 · show (yc _ _).inner=0;rw[u7,l2];exact a4
 · show (yc _ _).nons=[];rw[u6,l3];exact a3
theorem qch (src:Source):MInv (jf src)∧HdP (ZB src) (jf src):=by
 obtain ⟨h1,h2,h3⟩:=qdI src
 have hl:=jh (QV src) (Yu src).lefts 0
 rw[Ze]
 refine⟨VI _ _ ⟨h1,by dsimp only;omega,fun p hp=>?_,fun p hp s hs=>?_,fun p hp=>?_⟩,VN _ _ _ ⟨[],rfl⟩⟩<;>(dsimp only at hp;rw[List.mem_singleton]at hp;subst hp)
 · unfold ZB;dsimp only;omega
 · unfold ZB at hs;dsimp only at hs ⊢;rw[List.mem_singleton]at hs;subst hs
   exact Or.inr ⟨(1+qy (QV src) (Yu src).lefts 0).toNat,o_,o_⟩
 · exact Or.inl rfl
theorem vX (n:List UInt8): ∀(l:List Alt) (m:Mk),(qW n l m).nons=m.nons∧(qW n l m).lefts=m.lefts
 |[],m=>⟨rfl,rfl⟩
 | a::r,m=>by
   rw[jI]
   obtain ⟨h1,_,h3,_⟩:=qae m n a
   obtain ⟨k1,k2⟩:=vX n r (Qd m n a)
   exact⟨k1.trans h3,k2.trans h1⟩
theorem QB: ∀(l:List Rule) (m:Mk),(jC l m).nons=m.nons∧(jC l m).lefts=m.lefts
 |[],m=>⟨rfl,rfl⟩
 | r::l,m=>by
   rw[xH]
   obtain ⟨h1,h2⟩:=vX r.left r.alts m
   obtain ⟨k1,k2⟩:=QB l (qW r.left r.alts m)
   exact⟨k1.trans h1,k2.trans h2⟩
theorem qbp (m:Mk):(jD m).toks.length=m.toks.length∧(jD m).nons.length=1+m.lefts.length+m.inner.toNat∧(jD m).prods=m.prods:=by
 unfold jD
 dsimp only
 refine⟨Z5 _ _ _ _ _,?_,rfl⟩
 rw[List.length_append,List.length_append,Ji,Vt];rfl
theorem qcJ {src:Source} (h:Vd src=true):zS src=true∧(jf src).e=0∧Zb (jD (jf src))=false∧yE src={toks:=(jD (jf src)).toks,nons:=(jD (jf src)).nons,prods:=(jD (jf src)).prods,pro:=src.pro,tail:=src.tail}:=by
 have h:=of_decide_eq_true h
 unfold yE
 unfold ofS at *
 by_cases h1:zS src=true
 · rw [if_pos h1]at *
   by_cases h2:(jf src).e≠0
   · rw[if_pos h2]at h;exact absurd h h2
   · rw[if_neg h2]at *
     by_cases h3:Zb (jD (jf src))=true
     · rw[if_pos h3]at h;cases h
     · rw[if_neg h3]at *
       exact⟨h1,by simpa using h2,by simpa using h3,rfl⟩
 · rw[if_neg h1]at h;cases h
theorem gok {src:Source} (h:Vd src=true):GOk (yE src):=by
 obtain ⟨_,_,hl,he⟩:=qcJ h
 obtain ⟨hi,r,hr⟩:=qch src
 obtain ⟨n1,n2,n3⟩:=qbp (jf src)
 unfold Zb at hl
 simp only[Bool.or_eq_false_iff,decide_eq_false_iff_not,List.any_eq_false,decide_eq_true_eq]at hl
 obtain ⟨⟨⟨l1,l2⟩,l3⟩,l4⟩:=hl
 have hinn:=hi.inn
 rw[he]
 refine⟨?_,?_,?_,?_,?_,?_,fun p hp=>?_,fun p hp=>?_,fun p hp s hs=>?_,fun p hp=>?_,?_⟩<;>dsimp only at *
 · rw[n1];exact hi.tk
 · omega
 · rw[n2];omega
 · omega
 · rw[n3,hr];simp
 · omega
 · rw[n3]at hp;have:=hi.left p hp
   exact⟨p.left.toNat,o_,o_⟩
 · have:=l4 p hp;omega
 · rw[n3]at hp;rw[n1,n2];exact hi.right p hp s hs
 · rw[n3]at hp
   rcases hi.prec p hp with h|⟨h1,h2⟩
   · exact Or.inl h
   · exact Or.inr ⟨p.prec.toNat,o_,o_⟩
 · refine⟨ZB src,r,by rw[n3];exact hr,rfl,(1+qy (QV src) (Yu src).lefts 0).toNat,?_,?_⟩
   · have:=jh (QV src) (Yu src).lefts 0
     unfold ZB;dsimp only
     rw[show (1001+qy (QV src) (Yu src).lefts 0:Int)=1000+((1+qy (QV src) (Yu src).lefts 0).toNat:Int) by omega]
   · have:=jh (QV src) (Yu src).lefts 0
     have:=(QB src.rules {Yu src with prods:=[ZB src]}).2
     rw[← Ze]at this
     dsimp only at this
     rw[n2,this];omega

theorem Qr {x:Sym}: ∀{l:List Tok} {i:Nat},(∀(n:Nat) t,l[n]?=some t→ ¬ (t.name=x.name∧t.lit=x.lit∧i+n≠2))→kY x l i= -1
 |[],i,_=>rfl
 | t::r,i,h=>by
   unfold kY
   rw[if_neg (by have:=h 0 t rfl;simpa using this)]
   exact Qr fun n u hu=>by have:=h (n+1) u (by simpa using hu);rwa [show i+1+n=i+(n+1) by omega]
theorem QD {x:Sym}: ∀{l:List Tok} {i n:Nat} {t:Tok},l[n]?=some t→t.name=x.name→t.lit=x.lit→i+n≠2→0≤kY x l i
 |[],i,n,t,h,_,_,_=>by simp at h
 | u ::r,i,n,t,h,h1,h2,h3=>by
   unfold kY
   split
   · omega
   · rename_i hne
     cases n with
     |zero=>simp at h;subst h;exact absurd ⟨h1,h2,o_⟩ hne
     |succ n=>exact QD (l:=r) (i:=i+1) (n:=n) (t:=t) (by simpa using h) h1 h2 o_
theorem JA {n:Int}: ∀{l:List Tok} {i:Nat},(∀t∈l,t.num≠n)→YA n l i= -1
 |[],i,_=>rfl
 | t::r,i,h=>by
   unfold YA
   rw[if_neg (h t (by simp))]
   exact JA fun u hu=>h u (List.mem_cons_of_mem _ hu)
theorem ZC {n:List UInt8}: ∀{l:List (List UInt8)} {i:Nat},n∈l→0≤qy n l i
 |[],i,h=>by simp at h
 | t ::r,i,h=>by
   unfold qy
   split
   · omega
   · rename_i hne
     rcases List.mem_cons.1 h with h|h
     · exact absurd h.symm hne
     · exact ZC h
abbrev core (t:Tok):List UInt8×Bool×Int:=(t.name,t.lit,t.num)
abbrev qyO (j:Nat):List UInt8×Bool×Int:=((zR j).name,true,YQ (zR j))
abbrev KC:List (List UInt8×Bool×Int):=[([36,101,110,100],false,0),(qgR,false,-1),([36,117,110,107],false,-1)]
structure LInv (m:Mk) (js:List Nat):Prop where
 e:m.e=0
 toks:m.toks.map core=KC++js.map qyO
 nd:js.Nodup
 lt: ∀j∈js,j<4
theorem zK {j:Nat} (h:j<4):(zR j).name=[UInt8.ofNat (112+j)]∧YQ (zR j)=112+j:=by
 rcases j with _ | _ | _ | _ |j
 · exact⟨rfl,rfl⟩
 · exact⟨rfl,rfl⟩
 · exact⟨rfl,rfl⟩
 · exact⟨rfl,rfl⟩
 · omega
theorem qfY {i j:Nat} (hi:i<4) (hj:j<4) (h:(zR i).name=(zR j).name):i=j:=by
 have h1:=(zK hi).1
 have h2:=(zK hj).1
 rw[h1,h2]at h
 simp only[List.cons.injEq,and_true]at h
 have:=congrArg UInt8.toNat h
 simp at this
 omega
theorem LInv.get {m:Mk} {js:List Nat} (h:LInv m js) {n:Nat} {t:Tok} (ht:m.toks[n]?=some t):(KC++js.map qyO)[n]?=some (core t):=by rw[← h.toks,List.getElem?_map,ht];rfl
theorem LInv.len {m:Mk} {js:List Nat} (h:LInv m js):m.toks.length=3+js.length:=by have:=congrArg List.length h.toks;simp at this;omega
theorem LInv.tok_in {m:Mk} {js:List Nat} (h:LInv m js) {j:Nat} (hj:j∈js):0≤Xp m.toks (zR j):=by
 obtain ⟨i,hi,he⟩:=List.getElem_of_mem hj
 have hl:=h.len
 have h3:m.toks[3+i]?=some (m.toks[3+i]' o_):=ge_ o_
 have hg:=h.get h3
 rw[List.getElem?_append_right (by simp),show 3+i - KC.length=i by simp,List.getElem?_map,ge_ hi,he]at hg
 simp only[Option.map_some,Option.some.injEq,Prod.mk.injEq]at hg
 refine QD (n:=2+i) (t:=m.toks[3+i]' o_) ?_ hg.1.symm ?_ o_
 · rw[List.getElem?_drop,show 1+(2+i)=3+i by omega];exact h3
 · rw[← hg.2.1]
theorem LInv.tok_out {m:Mk} {js:List Nat} (h:LInv m js) {j:Nat} (hj:j ∉ js) (hj4:j<4):Xp m.toks (zR j)= -1:=by
 refine Qr fun n t ht=>?_
 rw[List.getElem?_drop]at ht
 have hg:=h.get ht
 rintro ⟨h1,h2,h3⟩
 match n,hg with
 |0,hg=>simp at hg;rw[hg.2.1]at h2;cases h2
 |1,hg=>exact absurd rfl h3
 | n +2,hg=>
   rw[List.getElem?_append_right (by simp;omega),List.getElem?_map]at hg
   cases hq:js[1+(n+2) - KC.length]? with
   |none=>rw[hq]at hg;cases hg
   | some q=>
     rw[hq]at hg
     simp only[Option.map_some,Option.some.injEq,Prod.mk.injEq]at hg
     have hqm:=List.mem_of_getElem? hq
     have:=qfY (h.lt q hqm) hj4 (hg.1.trans h1)
     subst this;exact hj hqm
theorem LInv.own {m:Mk} {js:List Nat} (h:LInv m js) {j:Nat} (hj:j ∉ js) (hj4:j<4):qdZ m.toks (YQ (zR j))= -1:=by
 refine JA fun t ht e=>?_
 obtain ⟨n,hn⟩:=List.getElem?_of_mem ht
 rw[List.getElem?_drop]at hn
 have hg:=h.get hn
 rw[List.getElem?_append_right (by simp),List.getElem?_map]at hg
 cases hq:js[3+n - KC.length]? with
 |none=>rw[hq]at hg;cases hg
 | some q=>
   rw[hq]at hg
   simp only[Option.map_some,Option.some.injEq,Prod.mk.injEq]at hg
   have hqm:=List.mem_of_getElem? hq
   have h4:=h.lt q hqm
   have:=(zK h4).2;have:=(zK hj4).2
   have:q=j:=o_
   subst this;exact hj hqm
theorem Zh (k:Int):zR k=zR ((k % 4).toNat:Nat):=by
 have h1:=Int.emod_nonneg k (show (4:Int)≠0 by omega)
 unfold zR
 rw[Int.toNat_of_nonneg h1,Int.emod_emod_of_dvd k (Int.dvd_refl 4)]
theorem LInv.put {m:Mk} {js:List Nat} (h:LInv m js) (k:Int): ∃js',LInv (yA m (zR k)).1 js'∧(∀j∈js,j∈js')∧ ∀j∈js',j∈js∨j=(k % 4).toNat:=by
 have h1:=Int.emod_nonneg k (show (4:Int)≠0 by omega)
 have h2:=Int.emod_lt_of_pos k (show (0:Int)<4 by omega)
 rw[Zh k]
 obtain ⟨j,hj⟩: ∃j:Nat,(k % 4).toNat=j:=⟨_,rfl⟩
 have hj4:j<4:=o_
 rw[hj]
 unfold yA
 by_cases hm:j∈js
 · rw[if_pos (h.tok_in hm)]
   exact⟨js,h,fun _ a=>a,fun _ a=>Or.inl a⟩
 · rw[if_neg (by rw[h.tok_out hm hj4];omega)]
   dsimp only
   rw[if_neg (by rw[h.own hm hj4];rintro ⟨_,e⟩;omega)]
   refine⟨js++[j],⟨h.e,?_,?_,fun q hq=>?_⟩,fun q hq=>List.mem_append_left _ hq,fun q hq=>?_⟩
   · dsimp only;rw[List.map_append,h.toks,List.map_append,List.append_assoc];rfl
   · rw[List.nodup_append]
     exact⟨h.nd,by simp,fun a ha b hb e=>by rw[List.mem_singleton]at hb;subst hb;subst e;exact hm ha⟩
   · rcases List.mem_append.1 hq with hq|hq
     · exact h.lt q hq
     · rw[List.mem_singleton]at hq;subst hq;exact hj4
   · rcases List.mem_append.1 hq with hq|hq
     · exact Or.inl hq
     · rw[List.mem_singleton]at hq;exact Or.inr hq
theorem LInv.err {m:Mk} {js:List Nat} (h:LInv m js):0≤Xp m.toks {name:=qgR}:=by
 have hl:=h.len
 have h1:m.toks[1]?=some (m.toks[1]' o_):=ge_ o_
 have hg:=h.get h1
 simp at hg
 refine QD (n:=0) (t:=m.toks[1]' o_) ?_ hg.1.symm (by rw[hg.2.1]) o_
 rw[List.getElem?_drop];exact h1
theorem LInv.non {m:Mk} {js:List Nat} (h:LInv m js) {k:Nat} (hk:k<4):Xp m.toks {name:=Jk k}= -1:=by
 refine Qr fun n t ht=>?_
 rw[List.getElem?_drop]at ht
 have hg:=h.get ht
 rintro ⟨h1,h2,h3⟩
 match n,hg with
 | 0,hg=>
   simp at hg
   rw[← hg.1]at h1
   have:=congrArg List.length h1
   simp[qgR]at this
 |1,hg=>exact absurd rfl h3
 | n +2,hg=>
   rw[List.getElem?_append_right (by simp;omega),List.getElem?_map]at hg
   cases hq:js[1+(n+2) - KC.length]? with
   |none=>rw[hq]at hg;cases hg
   | some q=>
     rw[hq]at hg
     simp only[Option.map_some,Option.some.injEq,Prod.mk.injEq]at hg
     rw[← hg.2.1]at h2;cases h2
theorem qaI {m:Mk} {js:List Nat} (h:LInv m js) (t:Int) (k:Tok) (hk:core k=core (Q0 m t)) (ht:0≤t∧t<m.toks.length):LInv (yG m t k) js:=by
 refine⟨h.e,?_,h.nd,h.lt⟩
 rw[← h.toks]
 show (m.toks.set t.toNat k).map core=_
 rw[List.map_set,hk]
 refine List.ext_getElem? fun i=>?_
 rw[List.getElem?_set]
 by_cases e:t.toNat=i
 · subst e
   have hlt:t.toNat<m.toks.length:=o_
   rw[if_pos rfl,if_pos (by simpa using hlt),List.getElem?_map]
   unfold Q0
   rw[List.getD_eq_getElem?_getD,ge_ hlt];rfl
 · rw[if_neg e]
theorem qbB {m:Mk} {js:List Nat} (h:LInv m js) (d:Decl) {i:Nat} (hi:i<4) (hj:i ∉ js) (hk:2≤d.kind∧d.kind≤4) (ht:d.tag=[]):LInv (jO m d (zR i)) (js++[i]):=by
 have hl:=h.len
 have hp:yA m (zR i)=({m with toks:=m.toks++[{name:=(zR i).name,lit:=true,num:=YQ (zR i)}],given:=m.given++[true]},(m.toks.length:Int)):=by
  unfold yA
  rw[if_neg (by rw[h.tok_out hj hi];omega)]
  dsimp only
  rw[if_neg (by rw[h.own hj hi];rintro ⟨_,e⟩;omega)]
 have h1:LInv (yA m (zR i)).1 (js++[i]):=by
  rw[hp]
  refine⟨h.e,?_,?_,fun q hq=>?_⟩
  · dsimp only;rw[List.map_append,h.toks,List.map_append,List.append_assoc];rfl
  · rw[List.nodup_append]
    exact⟨h.nd,by simp,fun a ha b hb e=>by rw[List.mem_singleton]at hb;subst hb;subst e;exact hj ha⟩
  · rcases List.mem_append.1 hq with hq|hq
    · exact h.lt q hq
    · rw[List.mem_singleton]at hq;subst hq;exact hi
 unfold jO
 rw[if_neg o_]
 dsimp only
 have hlast:Q0 (yA m (zR i)).1 (yA m (zR i)).2={name:=(zR i).name,lit:=true,num:=YQ (zR i)}:=by
  rw[hp];unfold Q0;dsimp only;rw[List.getD_eq_getElem?_getD,Int.toNat_natCast,List.getElem?_append_right (Nat.le_refl _)];simp
 have hr:0≤(yA m (zR i)).2∧(yA m (zR i)).2<(yA m (zR i)).1.toks.length:=by rw[hp];simp;omega
 generalize yA m (zR i)=q at *
 have hA:LInv (zV q.1 d.kind (zR i) q.2) (js++[i]):=by
  unfold zV
  rw[if_neg o_,hlast]
  dsimp only
  rw[if_neg o_]
  exact qaI h1 _ _ (by rw[hlast]) hr
 have hB:zx (zV q.1 d.kind (zR i) q.2) (zR i) q.2=zV q.1 d.kind (zR i) q.2:=by unfold zx;rw[if_neg (by show ¬ (0:Int)<0;decide)]
 have hC: ∀M,j5 M d.tag (zR i) q.2=M:=fun M=>by unfold j5;rw[if_neg (by simp[ht])]
 rw[hB,hC]
 exact hA
theorem Yo (d:Decl) (hk:2≤d.kind∧d.kind≤4) (ht:d.tag=[]): ∀(is:List Nat) (m:Mk) (js:List Nat) (st:List UInt8),LInv m js→(js++is).Nodup→(∀i∈is,i<4)→LInv (zb d (is.map fun i:Nat=>zR i) (m,st)).1 (js++is)∧(zb d (is.map fun i:Nat=>zR i) (m,st)).2=st
 |[],m,js,st,h,_,_=>by rw[List.append_nil];exact⟨h,rfl⟩
 | i::r,m,js,st,h,hn,hl=>by
   rw[List.map_cons,QA,if_pos o_]
   have e:js++i::r=js++[i]++r:=by simp
   rw[e]at hn ⊢
   have hni:i ∉ js:=fun hm=>by
    rw[List.nodup_append]at hn
    have:=hn.1
    rw[List.nodup_append]at this
    exact this.2.2 i hm i (by simp) rfl
   exact Yo d hk ht r _ _ st (qbB h d (hl i (by simp)) hni hk ht) hn (fun q hq=>hl q (List.mem_cons_of_mem _ hq))
def Je (d:Decl) (is:List Nat):Prop:=(2≤d.kind∧d.kind≤4)∧d.tag=[]∧d.syms=(is.map fun i:Nat=>zR i)∧is≠[]
theorem LInv.level {m:Mk} {js:List Nat} (h:LInv m js) (n:Int):LInv {m with level:=n} js:=⟨h.e,h.toks,h.nd,h.lt⟩
theorem YE: ∀(ds:List Decl) (iss:List (List Nat)) (m:Mk) (js:List Nat) (st:List UInt8),LInv m js→ds.length=iss.length→(∀(k:Nat) d is,ds[k]?=some d→iss[k]?=some is→Je d is)→(js++iss.flatten).Nodup→(∀i∈iss.flatten,i<4)→LInv (zJ ds (m,st)).1 (js++iss.flatten)∧(zJ ds (m,st)).2=st
 |[],[],m,js,st,h,_,_,_,_=>by simp;exact⟨h,rfl⟩
 |[],_::_,m,js,st,h,hl,_,_,_=>by simp at hl
 | _::_,[],m,js,st,h,hl,_,_,_=>by simp at hl
 | d::r,is::t,m,js,st,h,hl,hd,hn,hlt=>by
   obtain ⟨hk,ht,hs,_⟩:=hd 0 d is rfl rfl
   rw[List.flatten_cons,← List.append_assoc]at hn ⊢
   rw[List.flatten_cons]at hlt
   rw[Qm,if_pos hk,hs]
   have hn1:(js++is).Nodup:=by rw[List.nodup_append]at hn;exact hn.1
   obtain ⟨h1,h2⟩:=Yo d hk ht is {m with level:=m.level+1} js st (h.level _) hn1 (fun i hi=>hlt i (List.mem_append_left _ hi))
   have e:zb d (is.map fun i:Nat=>zR i) ({m with level:=m.level+1},st)=((zb d (is.map fun i:Nat=>zR i) ({m with level:=m.level+1},st)).1,st):=Prod.ext rfl h2
   rw[e]
   exact YE r t _ _ st h1 (by simpa using hl) (fun k d is a b=>hd (k+1) d is (by simpa using a) (by simpa using b)) hn (fun i hi=>hlt i (List.mem_append_right _ hi))
theorem xK (l:List Int): ∀n,n≤4→ ∃iss:List (List Nat),(zC l n).length=iss.length∧(∀(k:Nat) d is,(zC l n)[k]?=some d→iss[k]?=some is→Je d is)∧iss.flatten.Nodup∧ ∀i∈iss.flatten,i<n:=by
 intro n
 induction n with
 |zero=>intro _;exact⟨[],rfl,fun k d is h=>by simp[zC]at h,by simp,fun i h=>by simp at h⟩
 | succ n ih =>
   intro hn
   obtain ⟨iss,h1,h2,h3,h4⟩:=ih o_
   have hx1:=Int.emod_nonneg (l.getD n 0) (show (8:Int)≠0 by omega)
   have hx2:=Int.emod_lt_of_pos (l.getD n 0) (show (0:Int)<8 by omega)
   have hnn:n ∉ iss.flatten:=fun h=>by have:=h4 n h;omega
   show ∃iss:List (List Nat),(jL n (l.getD n 0) (zC l n)).length=iss.length∧(∀(k:Nat) d is,(jL n (l.getD n 0) (zC l n))[k]?=some d→iss[k]?=some is→Je d is)∧iss.flatten.Nodup∧ ∀i∈iss.flatten,i<n+1
   unfold jL
   split
   · exact⟨iss,h1,h2,h3,fun i hi=>by have:=h4 i hi;omega⟩
   · rename_i hq
     split
     · rename_i hc
       obtain ⟨o,d,ho⟩: ∃o d,zC l n=o++[d]:=⟨_,_,(List.dropLast_concat_getLast hc.2).symm⟩
       have hie:iss≠[]:=fun e=>by rw[e,ho]at h1;simp at h1
       obtain ⟨t,u,ht⟩: ∃t u,iss=t++[u]:=⟨_,_,(List.dropLast_concat_getLast hie).symm⟩
       have hot:o.length=t.length:=by rw[ho,ht]at h1;simpa using h1
       refine⟨t++[u++[n]],?_,fun k e is a b=>?_,?_,fun i hi=>?_⟩
       · rw[ho,yJ];simp[hot]
       · rw [ho,yJ]at a
         by_cases hk:k<o.length
         · rw[List.getElem?_append_left hk]at a
           rw[List.getElem?_append_left o_]at b
           exact h2 k e is (by rw[ho,List.getElem?_append_left hk];exact a) (by rw[ht,List.getElem?_append_left o_];exact b)
         · by_cases hk2:k=o.length
           · subst hk2
             rw[List.getElem?_append_right (Nat.le_refl _)]at a
             rw[hot,List.getElem?_append_right (Nat.le_refl _)]at b
             simp at a b
             subst a b
             obtain ⟨q1,q2,q3,q4⟩:=h2 o.length d u (by rw[ho];simp) (by rw[ht,hot];simp)
             exact⟨q1,q2,by dsimp only;rw[q3,List.map_append];rfl,by simp⟩
           · rw[List.getElem?_eq_none (by simp;omega)]at a;cases a
       · rw[ht]at h3 hnn
         simp only[List.flatten_append,List.flatten_cons,List.flatten_nil,List.append_nil,← List.append_assoc]at h3 hnn ⊢
         rw[List.nodup_append]
         exact⟨h3,by simp,fun a ha b hb e=>by rw[List.mem_singleton]at hb;subst hb;subst e;exact hnn ha⟩
       · simp only[List.flatten_append,List.flatten_cons,List.flatten_nil,List.append_nil,← List.append_assoc]at hi
         rcases List.mem_append.1 hi with hi|hi
         · have hlt:=h4 i (by rw[ht];simpa using hi)
           omega
         · rw[List.mem_singleton]at hi;omega
     · refine⟨iss++[[n]],by simp[h1],fun k e is a b=>?_,?_,fun i hi=>?_⟩
       · by_cases hk:k<(zC l n).length
         · rw[List.getElem?_append_left hk]at a
           rw[List.getElem?_append_left o_]at b
           exact h2 k e is a b
         · by_cases hk2:k=(zC l n).length
           · subst hk2
             rw[List.getElem?_append_right (Nat.le_refl _)]at a
             rw[h1,List.getElem?_append_right (Nat.le_refl _)]at b
             simp only[Nat.sub_self,List.getElem?_cons_zero,Option.some.injEq]at a b
             subst a b
             have hb:2≤1+l.getD n 0 % 8 % 4∧1+l.getD n 0 % 8 % 4≤4:=o_
             exact⟨hb,rfl,rfl,by simp⟩
           · rw[List.getElem?_eq_none (by simp;omega)]at a;cases a
       · rw[List.flatten_append]
         simp only[List.flatten_cons,List.flatten_nil,List.append_nil]
         rw[List.nodup_append]
         exact⟨h3,by simp,fun a ha b hb e=>by rw[List.mem_singleton]at hb;subst hb;subst e;exact hnn ha⟩
       · rw[List.flatten_append]at hi
         rcases List.mem_append.1 hi with hi|hi
         · have:=h4 i hi;omega
         · simp at hi;omega

def Xh (lefts:List (List UInt8)) (x:Sym):Prop:=(∃k:Int,x=zR k)∨(x.lit=false∧x.name∈lefts)∨x={name:=qgR}
theorem qbx {m:Mk} {js:List Nat} {x:Sym} (h:LInv m js) (hx:Xh m.lefts x): ∃js',LInv (jB m x).1 js':=by
 rcases hx with ⟨k,rfl⟩|⟨h1,h2⟩|rfl
 · obtain ⟨js',h',_⟩:=h.put k
   exact⟨js',by unfold jB;rw[if_pos rfl];exact h'⟩
 · exact⟨js,by unfold jB;rw[if_neg (by simp[h1]),if_pos (ZC h2)];exact h⟩
 · refine⟨js,?_⟩
   unfold jB
   rw[if_neg (by simp)]
   split
   · exact h
   · rw[if_neg (by have:=h.err;omega)];exact h
def xE:List Part→Nat
 |[]=>0
 |w::r=>(if w.code≠[]∧r≠[]then 1 else 0)+xE r
theorem QG: ∀(l:List Part) (m:Mk) (js:List Nat) (p:GPr),LInv m js→(∀w∈l,w.code≠[]∨Xh m.lefts w.sym)→(∀q∈m.prods,q.right.length≤8)→
 (∃js',LInv (qV l (m,p)).1 js')∧(qV l (m,p)).1.inner≤m.inner+xE l∧(qV l (m,p)).1.prods.length≤m.prods.length+xE l∧ ∀q∈(qV l (m,p)).1.prods,q.right.length≤8
 |[],m,js,p,h,_,hq=>by rw[kS];exact⟨⟨js,h⟩,by simp[xE],by simp[xE],hq⟩
 | w :: r,m,js,p,h,hg,hq=>by
   rw[xC]
   obtain ⟨y1,y2,y3,y4,y5,y6,y7,y8⟩:=yM m w.sym
   unfold xE
   by_cases hc:w.code=[]
   · rw[if_pos hc,if_neg (fun e=>e.1 hc)]
     obtain ⟨js1,h1⟩:=qbx h ((hg w (by simp)).resolve_left (fun e=>e hc))
     obtain ⟨k1,k2,k3,k4⟩:=QG r (jB m w.sym).1 js1 {p with right:=p.right++[(jB m w.sym).2]} h1 (fun u hu=>by rw[y2];exact hg u (List.mem_cons_of_mem _ hu)) (by rw[y3];exact hq)
     exact⟨k1,o_,by rw[y3]at k3;omega,k4⟩
   · rw [if_neg hc]
     by_cases hr:r=[]
     · rw[if_pos hr];exact⟨⟨js,h⟩,by dsimp only;omega,by dsimp only;omega,hq⟩
     · rw[if_neg hr,if_pos ⟨hc,hr⟩]
       obtain ⟨k1,k2,k3,k4⟩:=QG r {m with inner:=m.inner+1,prods:=m.prods++[{left:=m.lefts.length+(m.inner+1),prec:= -1,code:=w.code,args:=p.right,at_:=w.at_}]} js {p with right:=p.right++[1000+m.lefts.length+(m.inner+1)]} ⟨h.e,h.toks,h.nd,h.lt⟩ (fun u hu=>hg u (List.mem_cons_of_mem _ hu)) (fun q hq2=>by
        dsimp only at hq2
        rcases List.mem_append.1 hq2 with hq2|hq2
        · exact hq q hq2
        · rw[List.mem_singleton]at hq2;subst hq2;simp)
       dsimp only at k2 k3
       rw[List.length_append]at k3
       exact⟨k1,o_,by simp at k3;omega,k4⟩
def Jc (lefts:List (List UInt8)) (a:Alt):Prop:=(∀w∈a.parts,w.code≠[]∨Xh lefts w.sym)∧a.prec={}∧xE a.parts≤1∧a.parts.length≤6
theorem qbN {m:Mk} {js:List Nat} (n:List UInt8) {a:Alt} (h:LInv m js) (ha:Jc m.lefts a) (hq: ∀q∈m.prods,q.right.length≤8):
 (∃js',LInv (Qd m n a) js')∧(Qd m n a).inner≤m.inner+1∧(Qd m n a).prods.length≤m.prods.length+2∧(∀q∈(Qd m n a).prods,q.right.length≤8):=by
 obtain ⟨h1,h2,h3,h4⟩:=ha
 obtain ⟨⟨js',k1⟩,k2,k3,k4⟩:=QG a.parts m js {left:=1+qy n m.lefts 0,prec:= -1,at_:=a.at_} h h1 hq
 obtain ⟨g1,g2,g3,g4,g5,g6,g7,g8,g9,g10⟩:=QE a.parts m {left:=1+qy n m.lefts 0,prec:= -1,at_:=a.at_}
 unfold Qd
 dsimp only
 generalize qV a.parts (m,{left:=1+qy n m.lefts 0,prec:= -1,at_:=a.at_})=q at *
 rw[h2]
 rw[if_neg (by simp)]
 refine⟨⟨js',k1.e,k1.toks,k1.nd,k1.lt⟩,by dsimp only;omega,by dsimp only;rw[List.length_append];simp;omega,fun p hp=>?_⟩
 dsimp only at hp
 rcases List.mem_append.1 hp with hp|hp
 · exact k4 p hp
 · rw[List.mem_singleton]at hp;subst hp;simp at g8 ⊢;omega
theorem Z9 (n:List UInt8): ∀(l:List Alt) (m:Mk) (js:List Nat),LInv m js→(∀a∈l,Jc m.lefts a)→(∀q∈m.prods,q.right.length≤8)→
 (∃js',LInv (qW n l m) js')∧(qW n l m).inner≤m.inner+l.length∧(qW n l m).prods.length≤m.prods.length+2 *l.length∧(∀q∈(qW n l m).prods,q.right.length≤8)
 |[],m,js,h,_,hq=>by rw[Ju];exact⟨⟨js,h⟩,by simp,by simp,hq⟩
 | a::r,m,js,h,ha,hq=>by
   rw[jI]
   obtain ⟨⟨js1,h1⟩,h2,h3,h4⟩:=qbN n h (ha a (by simp)) hq
   obtain ⟨k1,k2,k3,k4⟩:=Z9 n r (Qd m n a) js1 h1 (fun b hb=>by rw[(qae m n a).1];exact ha b (List.mem_cons_of_mem _ hb)) h4
   exact⟨k1,by rw[List.length_cons];omega,by rw[List.length_cons];omega,k4⟩
def Jt (l:List Rule):Nat:=(l.map fun r=>r.alts.length).sum
theorem Jy: ∀(l:List Rule) (m:Mk) (js:List Nat),LInv m js→(∀r∈l,∀a∈r.alts,Jc m.lefts a)→(∀q∈m.prods,q.right.length≤8)→
 (∃js',LInv (jC l m) js')∧(jC l m).inner≤m.inner+Jt l∧(jC l m).prods.length≤m.prods.length+2 *Jt l∧(∀q∈(jC l m).prods,q.right.length≤8)
 |[],m,js,h,_,hq=>by rw[Yr];exact⟨⟨js,h⟩,by simp[Jt],by simp[Jt],hq⟩
 | r::l,m,js,h,ha,hq=>by
   rw[xH]
   obtain ⟨⟨js1,h1⟩,h2,h3,h4⟩:=Z9 r.left r.alts m js h (ha r (by simp)) hq
   obtain ⟨k1,k2,k3,k4⟩:=Jy l (qW r.left r.alts m) js1 h1 (fun q hq2 a hb=>by rw[(vX r.left r.alts m).2];exact ha q (List.mem_cons_of_mem _ hq2) a hb) h4
   have e:Jt (r::l)=r.alts.length+Jt l:=by simp[Jt]
   exact⟨k1,by rw[e];omega,by rw[e];omega,k4⟩
theorem JY: ∀(l:List Rule) (m:Mk) (js:List Nat),LInv m js→(∀r∈l,∃k:Nat,k<4∧r.left=Jk k)→LInv (zT l m) js∧(zT l m).lefts.length≤m.lefts.length+l.length∧(∀n∈m.lefts,n∈(zT l m).lefts)∧ ∀r∈l,r.left∈(zT l m).lefts
 |[],m,js,h,_=>by rw[Yk];exact⟨h,by simp,fun n hn=>hn,fun r hr=>by cases hr⟩
 | r ::l,m,js,h,hl=>by
   rw[Qn]
   obtain ⟨k,hk,hr⟩:=hl r (by simp)
   have hd:yN m r=m:=by unfold yN;rw[if_neg (by rw[hr,h.non hk];omega)]
   rw[hd]
   have ha:LInv (Ql m r.left) js∧(Ql m r.left).lefts.length≤m.lefts.length+1∧(∀n∈m.lefts,n∈(Ql m r.left).lefts)∧r.left∈(Ql m r.left).lefts:=by
    unfold Ql
    split
    · exact⟨⟨h.e,h.toks,h.nd,h.lt⟩,by simp,fun n hn=>List.mem_append_left _ hn,by simp⟩
    · rename_i hc
      refine⟨h,o_,fun n hn=>hn,Classical.byContradiction fun hn=>hc ?_⟩
      have: ∀(l:List (List UInt8)) (i:Nat),r.left ∉ l→qy r.left l i= -1:=by
       intro l
       induction l with
       |nil=>intro i _;rfl
       |cons t u ih=>intro i hni;unfold qy;rw[if_neg (fun e=>hni (by simp[e]))];exact ih _ (fun hm=>hni (List.mem_cons_of_mem _ hm))
      rw[this _ _ hn];omega
   obtain ⟨a1,a2,a3,a4⟩:=ha
   obtain ⟨k1,k2,k3,k4⟩:=JY l (Ql m r.left) js a1 (fun q hq=>hl q (List.mem_cons_of_mem _ hq))
   refine⟨k1,by rw[List.length_cons];omega,fun n hn=>k3 n (a3 n hn),fun q hq=>?_⟩
   rcases List.mem_cons.1 hq with rfl|hq
   · exact k3 _ a4
   · exact k4 q hq
theorem JC: ∀(ds:List Decl) (m:Mk),(∀d∈ds,d.kind<5)→yc ds m=m
 |[],m,_=>rfl
 | d::r,m,h=>by
   rw[Qx]
   have hk:=h d (by simp)
   have: ∀(l:List Sym),z8 d.kind l m=m:=by
    intro l
    induction l with
    |nil=>rfl
    |cons x t ih=>rw[vV];unfold qgQ;rw[if_neg o_];exact ih
   rw[this]
   exact JC r m (fun e he=>h e (List.mem_cons_of_mem _ he))
theorem yg: ∀(n:Nat) (l:List Nat),l.Nodup→(∀x∈l,x<n)→l.length≤n
 | 0,l,_,h=>by
   cases l with
   |nil=>simp
   |cons a r=>have:=h a (by simp);omega
 | n +1,l,hn,h=>by
   by_cases hm:n∈l
   · have h1:=yg n (l.erase n) (hn.erase n) (fun x hx=>by
      have:=h x (List.mem_of_mem_erase hx)
      have hne:x≠n:=fun e=>by subst e;exact(List.Nodup.mem_erase_iff hn).1 hx |>.1 rfl
      omega)
     rw[List.length_erase_of_mem hm]at h1
     omega
   · have h1:=yg n l hn (fun x hx=>by
      have:=h x hx
      have hne:x≠n:=fun e=>by subst e;exact hm hx
      omega)
     omega
theorem qaP {src:Source} {iss:List (List Nat)} (hmay:zS src=true) (hd1:src.decls.length=iss.length) (hd2: ∀(k:Nat) d is,src.decls[k]?=some d→iss[k]?=some is→Je d is) (hd3:iss.flatten.Nodup) (hd4: ∀i∈iss.flatten,i<4)
 (hr1:src.rules.length≤4) (hr2: ∀r∈src.rules,∃k:Nat,k<4∧r.left=Jk k) (hr3: ∀lefts,(∀r∈src.rules,r.left∈lefts)→ ∀r∈src.rules,∀a∈r.alts,Jc lefts a) (hr4:Jt src.rules≤15):Vd src=true:=by
 have h0:LInv {} []:=⟨rfl,rfl,by simp,fun j h=>by cases h⟩
 obtain ⟨d1,d2⟩:=YE src.decls iss {} [] [] h0 hd1 hd2 (by simpa using hd3) hd4
 rw[List.nil_append]at d1
 obtain ⟨l1,l2,l3,l4⟩:=JY src.rules (zJ src.decls ({},[])).1 _ d1 hr2
 have hu:Yu src=zT src.rules (zJ src.decls ({},[])).1:=JC _ _ (fun d hd=>by
  obtain ⟨k,hk⟩:=List.getElem?_of_mem hd
  obtain ⟨is,hi⟩: ∃is,iss[k]?=some is:=⟨_,ge_ (by have:=(List.getElem?_eq_some_iff.1 hk).1;omega)⟩
  have:=(hd2 k d is hk hi).1
  omega)
 have hl0:(zJ src.decls ({},[])).1.lefts=[]:=(Va src.decls {} []).1.1
 rw[hl0]at l2
 obtain ⟨p1,p2,p3⟩:=qdI src
 have hP:LInv {Yu src with prods:=[ZB src]} iss.flatten:=by
  rw[hu];exact⟨l1.e,l1.toks,l1.nd,l1.lt⟩
 obtain ⟨⟨js,k1⟩,k2,k3,k4⟩:=Jy src.rules {Yu src with prods:=[ZB src]} _ hP (hr3 _ (by dsimp only;rw[hu];exact l4)) (fun q hq=>by
  dsimp only at hq;rw[List.mem_singleton]at hq;subst hq;simp[ZB])
 rw[← Ze]at k1 k2 k3 k4
 have hn:=yg 4 js k1.nd k1.lt
 have hl:=k1.len
 obtain ⟨n1,n2,n3⟩:=qbp (jf src)
 have hll:=(QB src.rules {Yu src with prods:=[ZB src]}).2
 rw[← Ze]at hll
 dsimp only at hll k2 k3
 rw[hu]at hll
 have hlong:Zb (jD (jf src))=false:=by
  unfold Zb
  simp only[Bool.or_eq_false_iff,decide_eq_false_iff_not,List.any_eq_false,decide_eq_true_eq]
  refine⟨⟨⟨o_,?_⟩,?_⟩,fun p hp=>?_⟩
  · rw[n2,hll];simp at l2;omega
  · rw[n3];simp at k3;omega
  · rw[n3]at hp;have:=k4 p hp;omega
 unfold Vd ofS
 rw[if_pos hmay,if_neg (by simp[k1.e]),if_neg (by simp[hlong])]
 rfl

theorem kQ (x:GrI):1≤jo x∧jo x≤4:=by unfold jo;omega
def ja (l:List Part):Nat:=(l.filter fun w=> !decide (w.code=[])).length
theorem JW (l m:List Part):ja (l++m)=ja l+ja m:=by simp[ja]
theorem X4: ∀(l:List Part),xE l≤ja l
 |[]=>Nat.le_refl _
 | w::r=>by
   have:=X4 r
   have e:ja (w::r)=(if w.code=[]then 0 else 1)+ja r:=by
    unfold ja;rw[List.filter_cons];by_cases h:w.code=[]<;>simp[h];omega
   unfold xE;rw[e]
   by_cases h:w.code=[]
   · simp[h];exact this
   · rw[if_neg h];split<;>omega
theorem Z4: ∀(l:List Part) (w:Part),xE (l++[w])≤ja l
 |[],w=>by simp[xE]
 | v::r,w=>by
   have:=Z4 r w
   have e:ja (v::r)=(if v.code=[]then 0 else 1)+ja r:=by
    unfold ja;rw[List.filter_cons];by_cases h:v.code=[]<;>simp[h];omega
   show (if v.code≠[]∧(r++[w])≠[]then 1 else 0)+xE (r++[w])≤_
   rw[e]
   by_cases h:v.code=[]
   · simp[h];exact this
   · rw[if_neg h];split<;>omega
theorem Yn (l:List Int) (n:Nat) (mid:Bool) (j:Nat):ja (ji l n mid j)≤1∧(ji l n mid j).length≤j+1∧(j=0→ji l n mid j=[]):=by
 induction j with
 |zero=>exact⟨by simp[ji,ja],by simp[ji],fun _=>rfl⟩
 | succ j ih=>
   obtain ⟨h1,h2,h3⟩:=ih
   unfold ji
   refine⟨?_,?_,fun h=>by omega⟩
   · rw[JW,JW]
     have e1:ja [({sym:=qcj l n (j+1)}:Part)]=0:=by simp[ja]
     rw[e1]
     by_cases hj:j=0
     · rw[h3 hj]
       split<;>simp[ja,kI]
     · rw[if_neg (fun e=>hj e.1)]
       simp[ja]at h1 ⊢;exact h1
   · rw[List.length_append,List.length_append]
     by_cases hj:j=0
     · rw[h3 hj];split<;>simp[hj]
     · rw[if_neg (fun e=>hj e.1)];simp;exact h2
theorem JM {l:List Int} {n:Nat} {mid:Bool} {w:Part}: ∀{j:Nat},w∈ji l n mid j→(∃y:Int,w={sym:=Jl y n})∨w={code:=kI}
 |0,h=>by cases h
 | j +1,h=>by
   unfold ji at h
   rcases List.mem_append.1 h with h|h
   · rcases List.mem_append.1 h with h|h
     · exact JM h
     · rw[List.mem_singleton]at h;exact Or.inl ⟨_,h⟩
   · split at h
     · rw[List.mem_singleton]at h;exact Or.inr h
     · cases h
theorem Qi {l inner:List Int} {n i:Nat} {w:Part} (h:w∈(YN l n inner i).parts):(∃y:Int,w={sym:=Jl y n})∨w={code:=kI}∨w={code:=ZI}:=by
 unfold YN at h
 dsimp only at h
 rcases List.mem_append.1 h with h|h
 · rcases JM h with h|h
   · exact Or.inl h
   · exact Or.inr (Or.inl h)
 · split at h
   · rw[List.mem_singleton]at h;exact Or.inr (Or.inr h)
   · cases h
theorem qaB {lefts:List (List UInt8)} {n:Nat} (hn:0<n) (hl: ∀k:Nat,k<n→Jk k∈lefts) (y:Int):Xh lefts (Jl y n):=by
 have e1:=Int.emod_nonneg y (show (14:Int)≠0 by omega)
 have e3:=Int.emod_lt_of_pos (y % 14) (show (0:Int)<n by omega)
 have e4:=Int.emod_nonneg (y % 14) (show (n:Int)≠0 by omega)
 unfold Jl
 split
 · have:=hl (y % 14 % n).toNat o_
   rw[Int.toNat_of_nonneg e4]at this
   exact Or.inr (Or.inl ⟨rfl,this⟩)
 · split
   · exact Or.inr (Or.inr rfl)
   · exact Or.inl ⟨_,rfl⟩
theorem ZQ {lefts:List (List UInt8)} {n:Nat} (hn:0<n) (hl: ∀k:Nat,k<n→Jk k∈lefts) (l inner:List Int) (i:Nat):Jc lefts (YN l n inner i):=by
 obtain ⟨h1,h2,_⟩:=Yn l n (K9 inner i) (min 4 (l.length - 1))
 refine⟨fun w hw=>?_,rfl,?_,?_⟩
 · rcases Qi hw with ⟨y,rfl⟩|rfl|rfl
   · exact Or.inr (qaB hn hl y)
   · exact Or.inl (by simp[kI])
   · exact Or.inl (by simp[ZI])
 · unfold YN;dsimp only
   split
   · exact Nat.le_trans (Z4 _ _) h1
   · rw[List.append_nil];exact Nat.le_trans (X4 _) h1
 · unfold YN;dsimp only
   rw[List.length_append]
   split<;>simp<;>omega
theorem xM {x:GrI} {n:Nat}: ∀{i k:Nat} {a:Alt},a∈(qQ x n i).1 k→ ∃l j,a=YN l n x.inner j
 |0,k,a,h=>by cases h
 | i + 1,k,a,h=>by
   unfold qQ xG at h
   dsimp only at h
   split at h
   · exact xM h
   · unfold qH at h
     dsimp only at h
     split at h
     · rcases List.mem_append.1 h with h|h
       · exact xM h
       · rw[List.mem_singleton]at h;exact⟨_,_,h⟩
     · exact xM h
theorem vz {x:GrI} {n i k:Nat} {a:Alt} (h:a∈kM x.bare (qQ x n i) k):(∃l j,a=YN l n x.inner j)∨a={parts:=[{sym:=zR k}]}:=by
 unfold kM at h
 split at h
 · rcases List.mem_append.1 h with h|h
   · exact Or.inl (xM h)
   · rw[List.mem_singleton]at h;exact Or.inr h
 · exact Or.inl (xM h)
theorem qeM (b:Bool) (q:(Nat→List Alt)×(Nat→Bool)) (k:Nat):kM b q k≠[]:=by
 unfold kM
 split
 · simp
 · rename_i h;exact fun e=>h (Or.inl e)
theorem qci {f:Nat→List Alt} {k:Nat} {v:List Alt} (hv:v.length≤(f k).length+1) (n:Nat):((List.range n).map fun q=>(qH f k v q).length).sum≤((List.range n).map fun q=>(f q).length).sum+1∧(n≤k→((List.range n).map fun q=>(qH f k v q).length).sum=((List.range n).map fun q=>(f q).length).sum):=by
 induction n with
 |zero=>simp
 | succ n ih=>
   obtain ⟨h1,h2⟩:=ih
   rw[List.range_succ,List.map_append,List.map_append,List.sum_append,List.sum_append]
   simp only[List.map_cons,List.map_nil,List.sum_cons,List.sum_nil,Nat.add_zero]
   by_cases e:n=k
   · subst e
     have:=h2 (Nat.le_refl _)
     have e3:qH f n v n=v:=by unfold qH;rw[if_pos rfl]
     rw[e3]
     exact⟨o_,fun h=>by omega⟩
   · have e3:qH f k v n=f n:=by unfold qH;rw[if_neg e]
     rw[e3]
     exact⟨o_,fun h=>by have:=h2 o_;omega⟩
theorem KQ (x:GrI) (n i:Nat):((List.range n).map fun q=>((qQ x n i).1 q).length).sum≤i:=by
 induction i with
 | zero=>
   have: ∀m,((List.range m).map fun q=>((qQ x n 0).1 q).length).sum=0:=fun m=>by
    induction m with
    |zero=>rfl
    |succ m ih=>rw[List.range_succ,List.map_append,List.sum_append,ih];simp[qQ]
   rw[this];exact Nat.le_refl _
 | succ i ih=>
   unfold qQ xG
   dsimp only
   split
   · omega
   · have:=(qci (f:=(qQ x n i).1) (k:=((x.rules.getD i []).getD 0 0 % (n:Int)).toNat) (v:=(qQ x n i).1 ((x.rules.getD i []).getD 0 0 % (n:Int)).toNat++[YN (x.rules.getD i []) n x.inner i]) (by simp) n).1
     exact Nat.le_trans this o_
theorem qbR (b:Bool) (q:(Nat→List Alt)×(Nat→Bool)) (n:Nat):((List.range n).map fun k=>(kM b q k).length).sum≤((List.range n).map fun k=>(q.1 k).length).sum+n:=by
 induction n with
 |zero=>simp
 | succ n ih=>
   rw[List.range_succ,List.map_append,List.map_append,List.sum_append,List.sum_append]
   simp only[List.map_cons,List.map_nil,List.sum_cons,List.sum_nil,Nat.add_zero]
   have:(kM b q n).length≤(q.1 n).length+1:=by unfold kM;split<;>simp
   omega
theorem Kb {n:Nat} (hn:0<n) (hn4:n≤4) (y:Int):VK (Jl y n) false true=true:=by
 have e1:=Int.emod_nonneg y (show (14:Int)≠0 by omega)
 have e3:=Int.emod_lt_of_pos (y % 14) (show (0:Int)<n by omega)
 have e4:=Int.emod_nonneg (y % 14) (show (n:Int)≠0 by omega)
 have hN: ∀k:Nat,k<4→VK {name:=Jk k} false true=true:=by decide
 have hL: ∀k:Nat,k<4→VK (zR k) false true=true:=by decide
 unfold Jl
 split
 · have:=hN (y % 14 % n).toNat o_
   rw[Int.toNat_of_nonneg e4]at this;exact this
 · split
   · decide
   · rw[Zh];exact hL _ o_
theorem qa0 {n:Nat} (hn:0<n) (hn4:n≤4) {l inner:List Int} {i:Nat} {w:Part} (h:w∈(YN l n inner i).parts):Q5 w=true:=by
 rcases Qi h with ⟨y,rfl⟩|rfl|rfl
 · exact Kb hn hn4 y
 · decide
 · decide
theorem Vl (x:GrI):zS (qJ x)=true:=by
 obtain ⟨h1,h2⟩:=kQ x
 obtain ⟨iss,d1,d2,d3,d4⟩:=xK x.levels (min 4 x.levels.length) o_
 have hN: ∀k:Nat,k<4→XO (Jk k)=true:=by decide
 have hL1: ∀k:Nat,k<4→ ∀b,VK (zR k) b true=true:=by decide
 have hd:(jy x.levels).all Zw=true:=List.all_eq_true.2 fun d hd=>by
  obtain ⟨k,hk⟩:=List.getElem?_of_mem hd
  have hki:k<iss.length:=by have h3:=(List.getElem?_eq_some_iff.1 hk).1;unfold jy at h3;omega
  obtain ⟨q1,q2,q3,q4⟩:=d2 k d iss[k] hk (ge_ hki)
  unfold Zw qgP
  have hs:d.syms.length≠0:=by rw[q3,List.length_map];exact fun e=>q4 (List.length_eq_zero_iff.1 e)
  rw[Bool.and_eq_true]
  refine⟨?_,List.all_eq_true.2 fun y hy=>?_⟩
  · have e1:decide (d.kind<1)=false:=by rw[decide_eq_false_iff_not];omega
    have e2:decide (6<d.kind)=false:=by rw[decide_eq_false_iff_not];omega
    have e3:decide ((d.syms.length:Int)=0)=false:=by rw[decide_eq_false_iff_not];omega
    have e4:decide (d.kind=6)=false:=by rw[decide_eq_false_iff_not];omega
    have e5:decide (d.kind=5)=false:=by rw[decide_eq_false_iff_not];omega
    rw[e1,e2,e3,e4,e5,q2];rfl
  · rw[q3]at hy
    obtain ⟨i,hi,rfl⟩:=List.mem_map.1 hy
    have hi4:=d4 i (List.mem_flatten.2 ⟨_,List.getElem_mem hki,hi⟩)
    have e5:decide (d.kind<5)=true:=by rw[decide_eq_true_eq];omega
    rw[e5]
    exact hL1 i o_ _
 have hr:(qJ x).rules.all Jo=true:=List.all_eq_true.2 fun r hr=>by
  obtain ⟨k,hk,rfl⟩:=List.mem_map.1 hr
  have hkn:=List.mem_range.1 hk
  unfold Jo
  rw[Bool.and_eq_true,Bool.and_eq_true]
  refine⟨⟨hN k o_,by simp[qeM]⟩,List.all_eq_true.2 fun a ha=>?_⟩
  rcases vz ha with ⟨l,j,rfl⟩|rfl
  · unfold qak
    rw[Bool.and_eq_true]
    exact⟨List.all_eq_true.2 fun w hw=>qa0 o_ o_ hw,rfl⟩
  · unfold qak
    rw[Bool.and_eq_true]
    refine⟨?_,rfl⟩
    simp[Q5,hL1 k o_]
 have hne:(qJ x).rules≠[]:=fun e=>by
  have:=congrArg List.length e
  simp[qJ]at this;omega
 unfold zS
 rw[hr]
 have hp:(qJ x).pro=[]:=rfl
 have hdd:(qJ x).decls=jy x.levels:=rfl
 rw[hp,hdd,hd]
 simp[hne,qdK]
theorem JS (x:GrI):Vd (qJ x)=true:=by
 obtain ⟨h1,h2⟩:=kQ x
 obtain ⟨iss,d1,d2,d3,d4⟩:=xK x.levels (min 4 x.levels.length) o_
 refine qaP (iss:=iss) (Vl x) d1 d2 d3 (fun i hi=>by have:=d4 i hi;omega) (by simp[qJ];exact h2) (fun r hr=>?_) (fun lefts hl r hr a ha=>?_) ?_
 · obtain ⟨k,hk,rfl⟩:=List.mem_map.1 hr
   have:=List.mem_range.1 hk
   exact⟨k,o_,rfl⟩
 · have hll: ∀k:Nat,k<jo x→Jk k∈lefts:=fun k hk=>hl {left:=Jk k,alts:=kM x.bare (qQ x (jo x) (min 9 x.rules.length)) k} (List.mem_map.2 ⟨k,List.mem_range.2 hk,rfl⟩)
   obtain ⟨k,hk,rfl⟩:=List.mem_map.1 hr
   rcases vz ha with ⟨l,j,rfl⟩|rfl
   · exact ZQ o_ hll l x.inner j
   · exact⟨fun w hw=>by rw[List.mem_singleton]at hw;subst hw;exact Or.inr (Or.inl ⟨_,rfl⟩),rfl,by simp[xE],by simp⟩
 · have e:Jt (qJ x).rules=((List.range (jo x)).map fun k=>(kM x.bare (qQ x (jo x) (min 9 x.rules.length)) k).length).sum:=by
    unfold Jt qJ;dsimp only;rw[List.map_map];rfl
   have:=qbR x.bare (qQ x (jo x) (min 9 x.rules.length)) (jo x)
   have:=KQ x (jo x) (min 9 x.rules.length)
   omega
theorem Qw: ∀{iss:List (List Nat)},iss.flatten.Nodup→ ∀is∈iss,is.Nodup
 |[],_,is,h=>by cases h
 | a::r,hn,is,h=>by
   rw[List.flatten_cons,List.nodup_append]at hn
   rcases List.mem_cons.1 h with rfl|h
   · exact hn.1
   · exact Qw hn.2.1 is h
theorem QR (x:GrI):(qJ x).Fits:=by
 obtain ⟨h1,h2⟩:=kQ x
 obtain ⟨iss,d1,d2,d3,d4⟩:=xK x.levels (min 4 x.levels.length) o_
 have hlen:(jy x.levels).length≤4:=by
  have h5:iss.length≤iss.flatten.length:=by
   have hne: ∀is∈iss,is≠[]:=fun is hi=>by
    obtain ⟨k,hk⟩:=List.getElem?_of_mem hi
    obtain ⟨d,hd⟩: ∃d,(zC x.levels (min 4 x.levels.length))[k]?=some d:=⟨_,ge_ (by have:=(List.getElem?_eq_some_iff.1 hk).1;omega)⟩
    exact(d2 k d is hd hk).2.2.2
   clear d1 d2 d3 d4
   induction iss with
   |nil=>simp
   | cons a r ih=>
     have:=ih fun is hi=>hne is (List.mem_cons_of_mem _ hi)
     have ha:=List.length_pos_iff.2 (hne a (by simp))
     rw[List.flatten_cons,List.length_append,List.length_cons];omega
  have h6:=yg (min 4 x.levels.length) _ d3 d4
  show (zC x.levels (min 4 x.levels.length)).length≤4
  omega
 refine⟨by simp[qJ],by simp[qJ],by show (jy x.levels).length≤_;omega,fun d hd=>?_,by simp[qJ];omega,fun r hr=>?_⟩
 · obtain ⟨k,hk⟩:=List.getElem?_of_mem hd
   have hki:k<iss.length:=by have h3:=(List.getElem?_eq_some_iff.1 hk).1;unfold qJ jy at h3;dsimp only at h3;omega
   obtain ⟨q1,q2,q3,q4⟩:=d2 k d iss[k] hk (ge_ hki)
   have h6:iss[k].length≤4:=yg 4 _ (Qw d3 _ (List.getElem_mem hki)) (fun i hi=>by have:=d4 i (List.mem_flatten.2 ⟨_,List.getElem_mem hki,hi⟩);omega)
   refine⟨by simp[q2],by rw[q3,List.length_map];omega,fun y hy=>?_⟩
   rw[q3]at hy
   obtain ⟨i,hi,rfl⟩:=List.mem_map.1 hy
   have hi4:=d4 i (List.mem_flatten.2 ⟨_,List.getElem_mem hki,hi⟩)
   rw[(zK (show i<4 by omega)).1];simp
 · obtain ⟨k,hk,rfl⟩:=List.mem_map.1 hr
   have hkn:=List.mem_range.1 hk
   have hfl:(kM x.bare (qQ x (jo x) (min 9 x.rules.length)) k).length≤20:=by
    have:=ve x (jo x) (min 9 x.rules.length) k
    unfold kM;split<;>simp<;>omega
   have hsn: ∀y:Int,(Jl y (jo x)).name.length≤5:=fun y=>by
    have hg:=Kb (n:=jo x) o_ o_ y
    unfold Jl
    split
    · simp
    · split
      · simp
      · rw[Zh,(zK (show ((y % 14 - 5) % 4).toNat<4 by omega)).1];simp
   refine⟨by simp,by dsimp only;omega,fun a ha=>?_⟩
   rcases vz ha with ⟨l,j,rfl⟩|rfl
   · obtain ⟨_,_,_,g4⟩:=ZQ (lefts:=(List.range (jo x)).map fun k:Nat=>Jk k) (n:=jo x) o_ (fun k hk=>List.mem_map.2 ⟨k,List.mem_range.2 hk,rfl⟩) l x.inner j
     refine⟨o_,fun w hw=>?_,by simp[YN]⟩
     rcases Qi hw with ⟨y,rfl⟩|rfl|rfl
     · exact⟨by have:=hsn y;dsimp only;omega,by simp⟩
     · exact⟨by simp,by simp[kI]⟩
     · exact⟨by simp,by simp[ZI]⟩
   · refine⟨by simp,fun w hw=>?_,by simp⟩
     rw[List.mem_singleton]at hw;subst hw
     rw[Part.Fits,(zK (show k<4 by omega)).1];simp
theorem kU (x:GrI):Small (qJ x):=by
 obtain ⟨h1,h2⟩:=kQ x
 obtain ⟨f1,f2,f3,f4,f5,f6⟩:=QR x
 obtain ⟨iss,d1,d2,d3,d4⟩:=xK x.levels (min 4 x.levels.length) o_
 have hd: ∀d∈(qJ x).decls,∃is:List Nat,Je d is∧is.length≤4∧ ∀i∈is,i<4:=fun d hd=>by
  obtain ⟨k,hk⟩:=List.getElem?_of_mem hd
  have hki:k<iss.length:=by have h3:=(List.getElem?_eq_some_iff.1 hk).1;unfold qJ jy at h3;dsimp only at h3;omega
  have hi4: ∀i∈iss[k],i<4:=fun i hi=>by have:=d4 i (List.mem_flatten.2 ⟨_,List.getElem_mem hki,hi⟩);omega
  exact⟨iss[k],d2 k d iss[k] hk (ge_ hki),yg 4 _ (Qw d3 _ (List.getElem_mem hki)) hi4,hi4⟩
 have hlen:(qJ x).decls.length≤4:=by
  have h5:iss.length≤iss.flatten.length:=by
   have hne: ∀is∈iss,is≠[]:=fun is hi=>by
    obtain ⟨k,hk⟩:=List.getElem?_of_mem hi
    obtain ⟨d,hd⟩: ∃d,(zC x.levels (min 4 x.levels.length))[k]?=some d:=⟨_,ge_ (by have:=(List.getElem?_eq_some_iff.1 hk).1;omega)⟩
    exact(d2 k d is hd hk).2.2.2
   clear d1 d2 d3 d4
   induction iss with
   |nil=>simp
   | cons a r ih=>
     have:=ih fun is hi=>hne is (List.mem_cons_of_mem _ hi)
     have ha:=List.length_pos_iff.2 (hne a (by simp))
     rw[List.flatten_cons,List.length_append,List.length_cons];omega
  have h6:=yg (min 4 x.levels.length) _ d3 d4
  show (zC x.levels (min 4 x.levels.length)).length≤4
  omega
 have hsn: ∀y:Int,(Jl y (jo x)).lit=true→(Jl y (jo x)).name≠[]:=fun y=>by
  unfold Jl
  split
  · intro e;cases e
  · split
    · intro e;cases e
    · intro _;rw[Zh,(zK (show ((y % 14 - 5) % 4).toNat<4 by omega)).1];simp
 have ha: ∀r∈(qJ x).rules,r.alts.length≤20∧ ∀a∈r.alts,a.parts.length≤6∧a.prec={}∧ ∀w∈a.parts,w.sym.lit=true→w.sym.name≠[]:=fun r hr=>by
  obtain ⟨k,hk,rfl⟩:=List.mem_map.1 hr
  have hkn:=List.mem_range.1 hk
  refine⟨?_,fun a ha=>?_⟩
  · have:=ve x (jo x) (min 9 x.rules.length) k
    dsimp only
    unfold kM;split<;>simp<;>omega
  · rcases vz ha with ⟨l,j,rfl⟩|rfl
    · obtain ⟨_,g2,_,g4⟩:=ZQ (lefts:=(List.range (jo x)).map fun k:Nat=>Jk k) (n:=jo x) o_ (fun k hk=>List.mem_map.2 ⟨k,List.mem_range.2 hk,rfl⟩) l x.inner j
      refine⟨g4,g2,fun w hw=>?_⟩
      rcases Qi hw with ⟨y,rfl⟩|rfl|rfl
      · exact hsn y
      · intro e;cases e
      · intro e;cases e
    · refine⟨by simp,rfl,fun w hw _=>?_⟩
      rw[List.mem_singleton]at hw;subst hw
      rw[(zK (show k<4 by omega)).1];simp
 refine⟨o_,fun d h=>?_,fun d h=>?_,fun d h y hy _=>?_,?_,fun r hr=>?_,fun r hr a h=>?_,fun r hr a h w hw=>?_,fun r hr a h e=>?_⟩
 · obtain ⟨is,⟨q1,q2,q3,q4⟩,h5,h6⟩:=hd d h
   rw[q3,List.length_map];omega
 · obtain ⟨is,⟨q1,q2,q3,q4⟩,h5,h6⟩:=hd d h
   omega
 · obtain ⟨is,⟨q1,q2,q3,q4⟩,h5,h6⟩:=hd d h
   rw[q3]at hy
   obtain ⟨i,hi,rfl⟩:=List.mem_map.1 hy
   rw[(zK (h6 i hi)).1];simp
 · simp[qJ];omega
 · have:=(ha r hr).1;omega
 · have:=((ha r hr).2 a h).1;omega
 · exact((ha r hr).2 a h).2.2 w hw
 · rw[((ha r hr).2 a h).2.1]at e;cases e

set_option maxHeartbeats 1000000
def TkL (L:Nat) (t:Tok):Prop:=(t.lit=true→t.name≠[])∧t.name.length≤L
def SyL (L:Nat) (x:Sym):Prop:=(x.lit=true→x.name≠[])∧x.name.length≤L
def jQ (L:Nat) (m:Mk):Prop:=(∀t∈m.toks,TkL L t)∧ ∀n∈m.lefts,n.length≤L
structure SrcL (L:Nat) (s:Source):Prop where
 dx: ∀d∈s.decls,∀y∈d.syms,y.name.length≤L
 rl: ∀r∈s.rules,r.left.length≤L
 rx: ∀r∈s.rules,∀a∈r.alts,∀w∈a.parts,w.sym.name.length≤L
 rq: ∀r∈s.rules,∀a∈r.alts,a.prec.name.length≤L
variable {L : Nat}
theorem TkL.zero:TkL L {}:=⟨(fun h=>by cases h),by simp⟩
theorem xg {m:Mk} {a:Int} {n:List UInt8} (h:jQ L m):jQ L (qO m a n):=by unfold qO;split<;>exact h
theorem qbq {m:Mk} {t:Int} {k:Tok} (h:jQ L m) (hk:TkL L k):jQ L (yG m t k):=⟨fun x hx=>by
 rcases List.mem_or_eq_of_mem_set hx with hx|rfl
 · exact h.1 x hx
 · exact hk,h.2⟩
theorem qdk {l:List Tok} (h: ∀t∈l,TkL L t) (i:Nat):TkL L (l.getD i {}):=by
 rw[List.getD_eq_getElem?_getD]
 cases hi:l[i]? with
 |none=>exact .zero
 |some x=>exact h x (List.mem_of_getElem? hi)
theorem qaS {m:Mk} (h:jQ L m) (t:Int):TkL L (Q0 m t):=qdk h.1 _
theorem qdD {m:Mk} {x:Sym} (h:jQ L m) (hx:SyL L x):jQ L (yA m x).1:=by
 unfold yA
 split
 · exact h
 · dsimp only
   have key: ∀m1:Mk,jQ L m1→ ∀gv,jQ L {m1 with toks:=m.toks++[{name:=x.name,lit:=x.lit,num:=YQ x}],given:=gv}:=fun m1 h1 gv=>⟨fun t ht=>by
    rcases List.mem_append.1 ht with ht|ht
    · exact h.1 t ht
    · rw[List.mem_singleton]at ht;subst ht;exact hx,h1.2⟩
   split
   · exact key _ (xg h) _
   · exact key _ h _
theorem qez {m:Mk} {k:Int} {x:Sym} {t:Int} (h:jQ L m):jQ L (zV m k x t):=by
 unfold zV
 split
 · exact h
 · dsimp only
   refine qbq ?_ (qaS h t)
   split
   · exact xg h
   · exact h
theorem qbV {m:Mk} {x:Sym} {t:Int} (h:jQ L m):jQ L (zx m x t):=by
 unfold zx
 split
 · dsimp only
   have key: ∀m2,jQ L m2→jQ L {yG m2 t {Q0 m t with num:=x.num} with given:=m.given.set t.toNat true}:=fun m2 h2=>qbq h2 (qaS h t)
   split
   · exact key _ (xg h)
   · exact key _ h
 · exact h
theorem qf8 {m:Mk} {tag:List UInt8} {x:Sym} {t:Int} (h:jQ L m):jQ L (j5 m tag x t):=by
 unfold j5
 split
 · dsimp only
   refine qbq ?_ (qaS h t)
   split
   · exact xg h
   · exact h
 · exact h
theorem qff {m:Mk} {d:Decl} {x:Sym} (h:jQ L m) (hx:SyL L x):jQ L (jO m d x):=by
 unfold jO
 split
 · dsimp only
   split
   · exact h
   · split
     · exact xg h
     · exact h
 · exact qf8 (qbV (qez (qdD h hx)))
theorem qdv {m:Mk} {x:Sym} (h:jQ L m) (hx:SyL L x):jQ L (jB m x).1:=by
 unfold jB
 split
 · exact qdD h hx
 · split
   · exact h
   · split
     · exact xg h
     · exact h
theorem Vn: ∀(l:List Part) (m:Mk) (p:GPr),jQ L m→(∀w∈l,SyL L w.sym)→jQ L (qV l (m,p)).1
 |[],m,p,h,_=>h
 | w ::r,m,p,h,hl=>by
   rw[qV]
   split
   · exact Vn r _ _ (qdv h (hl w (by simp))) (fun w hw=>hl w (List.mem_cons_of_mem _ hw))
   · split
     · exact h
     · exact Vn r _ _ h (fun w hw=>hl w (List.mem_cons_of_mem _ hw))
theorem qtG {m:Mk} {n:List UInt8} {a:Alt} (h:jQ L m) (ha: ∀w∈a.parts,SyL L w.sym) (hq:SyL L a.prec):jQ L (Qd m n a):=by
 have h1:=Vn a.parts m {left:=1+qy n m.lefts 0,prec:= -1,at_:=a.at_} h ha
 unfold Qd
 dsimp only
 generalize qV a.parts (m,{left:=1+qy n m.lefts 0,prec:= -1,at_:=a.at_})=q at *
 split
 · split
   · exact qdv h1 hq
   · exact xg h1
 · exact h1
theorem VG (n:List UInt8): ∀(l:List Alt) (m:Mk),jQ L m→(∀a∈l,(∀w∈a.parts,SyL L w.sym)∧SyL L a.prec)→jQ L (qW n l m)
 |[],m,h,_=>h
 |a::r,m,h,hl=>VG n r _ (qtG h (hl a (by simp)).1 (hl a (by simp)).2) (fun a ha=>hl a (List.mem_cons_of_mem _ ha))
theorem qaQ: ∀(l:List Rule) (m:Mk),jQ L m→(∀r∈l,∀a∈r.alts,(∀w∈a.parts,SyL L w.sym)∧SyL L a.prec)→jQ L (jC l m)
 |[],m,h,_=>h
 |r::l,m,h,hl=>qaQ l _ (VG r.left r.alts m h (hl r (by simp))) (fun a ha=>hl a (List.mem_cons_of_mem _ ha))
theorem Xy (d:Decl): ∀(l:List Sym) (m:Mk) (st:List UInt8),jQ L m→(∀x∈l,SyL L x)→jQ L (zb d l (m,st)).1
 |[],m,st,h,_=>h
 | x ::r,m,st,h,hl=>by
   rw[zb]
   split
   · exact Xy d r _ _ (qff h (hl x (by simp))) (fun w hw=>hl w (List.mem_cons_of_mem _ hw))
   · split
     · exact Xy d r _ _ (xg h) (fun w hw=>hl w (List.mem_cons_of_mem _ hw))
     · exact Xy d r _ _ h (fun w hw=>hl w (List.mem_cons_of_mem _ hw))
theorem qaW: ∀(l:List Decl) (m:Mk) (st:List UInt8),jQ L m→(∀d∈l,∀x∈d.syms,SyL L x)→jQ L (zJ l (m,st)).1
 |[],m,st,h,_=>h
 | d::r,m,st,h,hl=>by
   rw[zJ]
   have key: ∀m',jQ L m'→jQ L (zJ r (zb d d.syms (m',st))).1:=fun m' h'=>by
    have:=Xy d d.syms m' st h' (hl d (by simp))
    exact qaW r (zb d d.syms (m',st)).1 (zb d d.syms (m',st)).2 this (fun w hw=>hl w (List.mem_cons_of_mem _ hw))
   split
   · exact key _ h
   · exact key _ h
theorem YU: ∀(l:List Rule) (m:Mk),jQ L m→(∀r∈l,r.left.length≤L)→jQ L (zT l m)
 |[],m,h,_=>h
 | r ::l,m,h,hl=>by
   rw[zT]
   have hr:=hl r (by simp)
   have hl': ∀r∈l,r.left.length≤L:=fun w hw=>hl w (List.mem_cons_of_mem _ hw)
   have key: ∀m1,jQ L m1→jQ L (zT l (if qy r.left m.lefts 0<0 then {m1 with lefts:=m.lefts++[r.left]} else m1)):=fun m1 h1=>by
    split
    · refine YU l _ ⟨h1.1,fun n hn=>?_⟩ hl'
      rcases List.mem_append.1 hn with hn|hn
      · exact h.2 n hn
      · rw[List.mem_singleton]at hn;subst hn;exact hr
    · exact YU l _ h1 hl'
   refine key _ ?_
   split
   · exact xg h
   · exact h
theorem Xc (k:Int): ∀(l:List Sym) (m:Mk),jQ L m→jQ L (z8 k l m)
 |[],m,h=>h
 | x::r,m,h=>by
   rw[z8]
   split
   · exact Xc k r _ (xg h)
   · exact Xc k r _ h
theorem qbt: ∀(l:List Decl) (m:Mk),jQ L m→jQ L (yc l m)
 |[],m,h=>h
 |d::r,m,h=>by rw[yc];exact qbt r _ (Xc d.kind d.syms m h)
theorem Y1 (gv:List Bool): ∀(f i:Nat) (l:List Tok) (n:Int),(∀t∈l,TkL L t)→ ∀t∈(Js gv f i (l,n)).1,TkL L t
 |0,i,l,n,h=>h
 | f +1,i,l,n,h=>by
   rw[Qy]
   split
   · exact Y1 gv f _ _ _ h
   · refine Y1 gv f _ _ _ fun x hx=>?_
     rcases List.mem_or_eq_of_mem_set hx with hx|rfl
     · exact h x hx
     · exact qdk h i
theorem qfQ {src:Source} (hL:5≤L) (hS:Small src) (h:SrcL L src):jQ L (jf src):=by
 have h0:jQ L ({}:Mk):=⟨fun t ht=>by
  simp only[List.mem_cons,List.not_mem_nil,or_false]at ht
  rcases ht with rfl|rfl|rfl<;>exact⟨(fun h=>by cases h),by simp;omega⟩,fun n hn=>by cases hn⟩
 have h1:=qaW src.decls {} [] h0 (fun d hd x hx=>⟨hS.dx d hd x hx,h.dx d hd x hx⟩)
 have h2:=qbt src.decls _ (YU src.rules _ h1 h.rl)
 unfold jf
 exact qaQ src.rules _ h2 (fun r hr a ha=>⟨fun w hw=>⟨hS.rx r hr a ha w hw,h.rx r hr a ha w hw⟩,⟨hS.rq r hr a ha,h.rq r hr a ha⟩⟩)
theorem qbw (ty:List Non): ∀l:List (List UInt8),(∀n∈l,n.length≤L)→ ∀x∈jP ty l,x.name.length≤L
 |[],_,x,hx=>by cases hx
 | n::r,h,x,hx=>by
   rw[jP]at hx
   rcases List.mem_cons.1 hx with rfl|hx
   · exact h n (by simp)
   · exact qbw ty r (fun n hn=>h n (List.mem_cons_of_mem _ hn)) x hx
structure NmsOk (L:Nat) (g:Grammar):Prop where
 tok: ∀t∈g.toks,TkL L t
 non: ∀x∈g.nons,x.name.length≤L
theorem nms {src:Source} (hL:26≤L) (hS:zS src=true→Small src) (h:SrcL L src):NmsOk L (yE src):=by
 unfold yE ofS
 split
 · rename_i hm
   have hM:=qfQ o_ (hS hm) h
   split
   · exact⟨(fun t ht=>by cases ht),(fun t ht=>by cases ht)⟩
   · split
     · exact⟨(fun t ht=>by cases ht),(fun t ht=>by cases ht)⟩
     · refine⟨Y1 _ _ _ _ _ hM.1,fun x hx=>?_⟩
       rcases List.mem_append.1 hx with hx|hx
       · rcases List.mem_append.1 hx with hx|hx
         · rw[List.mem_singleton]at hx;subst hx;simp;omega
         · exact qbw _ _ hM.2 x hx
       · obtain ⟨k,_,rfl⟩:=List.mem_map.1 hx
         have:=Zr 25 (k+1) []
         simp only[List.length_nil]at this
         show ((64:UInt8)::ZG 25 (k+1) []).length≤L
         rw[List.length_cons];omega
 · exact⟨(fun t ht=>by cases ht),(fun t ht=>by cases ht)⟩

theorem Xr (k:Int):(zR k).name.length≤100:=by
 show ((Qf.take (k % 4+1).toNat).drop (k % 4).toNat).length≤100
 rw[List.length_drop,List.length_take]
 have:Qf.length=4:=rfl
 omega
theorem qct (y:Int) (n:Int):(Jl y n).name.length≤100:=by
 unfold Jl
 split
 · simp
 · split
   · simp
   · exact Xr _
theorem YX (x:GrI):SrcL 100 (qJ x):=by
 obtain ⟨h1,h2⟩:=kQ x
 obtain ⟨iss,d1,d2,d3,d4⟩:=xK x.levels (min 4 x.levels.length) o_
 refine⟨fun d hd y hy=>?_,fun r hr=>?_,fun r hr a ha w hw=>?_,fun r hr a ha=>?_⟩
 · obtain ⟨k,hk⟩:=List.getElem?_of_mem hd
   have hki:k<iss.length:=by have h3:=(List.getElem?_eq_some_iff.1 hk).1;unfold qJ jy at h3;dsimp only at h3;omega
   obtain ⟨q1,q2,q3,q4⟩:=d2 k d iss[k] hk (ge_ hki)
   rw[q3]at hy
   obtain ⟨i,hi,rfl⟩:=List.mem_map.1 hy
   exact Xr _
 · obtain ⟨k,hk,rfl⟩:=List.mem_map.1 hr
   simp
 · obtain ⟨k,hk,rfl⟩:=List.mem_map.1 hr
   rcases vz ha with ⟨l,j,rfl⟩|rfl
   · rcases Qi hw with ⟨y,rfl⟩|rfl|rfl
     · exact qct _ _
     · simp
     · simp
   · rw[List.mem_singleton]at hw;subst hw
     exact Xr _
 · obtain ⟨k,hk,rfl⟩:=List.mem_map.1 hr
   rcases vz ha with ⟨l,j,rfl⟩|rfl
   · simp[YN]
   · simp
theorem qek (x:GrI):NmsOk 100 (yE (qJ x)):=nms o_ (fun _=>kU x) (YX x)

set_option maxRecDepth 20000
set_option maxHeartbeats 4000000
theorem qbo {α:Type} {a b:List α} {k:Nat} (hk: ∀i,i<k→a[i]?=b[i]?) (h1:a.length≤k) (h2:b.length≤k):a=b:=by
 refine List.ext_getElem? fun i=>?_
 by_cases hi:i<k
 · exact hk i hi
 · rw[List.getElem?_eq_none o_,List.getElem?_eq_none o_]
theorem qft {α:Type} {a b:List α} {k:Nat} (hk: ∀i,i<k→a[i]?=b[i]?) (h1:k<a.length) (h2:k<b.length) (e:a[k]=b[k]): ∀i,i<k+1→a[i]?=b[i]?:=by
 intro i hi
 by_cases he:i=k
 · subst he;rw[ge_ h1,ge_ h2,e]
 · exact hk i o_
theorem qz {a b:List Int} (ha:a.length≤4611686018427387903) (hb:b.length≤4611686018427387903):Pure Try.prog 22 [.sl 1 false (a.map (V.int .i64)),.sl 1 false (b.map (V.int .i64))] (.bool (decide (a=b))):=by
 refine pure_intro Try.func22 nm_ qib (by show 2≤26;decide) ?_
 show ewp _ qdR _ _
 repeat' with_reducible first
  |refine s_ ?_
  |simp -implicitDefEqProofs only[wZZ,seval]
  |apply qa<;>intro h h_<;>(try simp only[wD,reduceCtorEq]at h_)<;>(try exact wb_)<;>(try simp only[h])
 · refine qo rfl (Or.inr rfl) ?_
   simp -implicitDefEqProofs only[wL,seval]
   refine er_ ?_
   try(with_reducible rfl)
   rw[eq_comm,decide_eq_false_iff_not]
   intro e;subst e;exact h_ rfl
 refine qg ?nx1 (fun(k:Nat) s=>s.f 0=?v1_0∧s.f 1=?v1_1∧s.f 5=vi k∧(k≤a.length)∧(∀i,i<k→a[i]?=b[i]?)) (fun k=>a.length - k) (0) wj_ (by refine⟨?_,?_,?_,wo_,wo_⟩<;>first|(simp -implicitDefEqProofs only[wL,wM,wN,wX,seval,Option.some.injEq]<;>exact wt_)|rfl|exact⟨_,rfl⟩) ?_
 intro k s hnx ⟨g0,g1,g5,k1_0,k1_1⟩
 repeat' with_reducible first
  |refine s_ ?_
  |simp -implicitDefEqProofs only[wZZ,seval,g0,g1,g5]
  |apply qa<;>intro h h_<;>(try simp only[wD,reduceCtorEq]at h_)<;>(try exact wb_)<;>(try simp only[h])
  |refine t_ ?_
  |simp -implicitDefEqProofs (disch:=omega) only[w64,if_neg]
 · refine qo rfl (Or.inr rfl) ?_
   simp -implicitDefEqProofs only[wL,seval,g0,g1,g5]
   refine er_ ?_
   try(with_reducible rfl)
   rw[eq_comm,decide_eq_false_iff_not]
   intro e;subst e;exact h_ rfl
 · refine⟨wk_,k+1,o_,?_⟩
   refine⟨?_,?_,?_,?_,?_⟩
   iterate 3 (focus(first|(simp -implicitDefEqProofs only[wL,wM,wN,wX,seval,Option.some.injEq,g0,g1,g5]<;>exact wt_)|rfl|exact⟨_,rfl⟩))
   all_goals try omega
   exact qft k1_1 o_ o_ (by simpa using h_)
 · refine qo rfl (Or.inr rfl) ?_
   simp -implicitDefEqProofs only[wL,seval,g0,g1,g5]
   refine er_ ?_
   try(with_reducible rfl)
   rw[eq_comm,decide_eq_true_eq]
   exact qbo k1_1 o_ o_
def jS (nt nn:Nat) (x:Int):Bool:=decide (0≤x∧x<nt) || decide (1000≤x∧x<1000+(nn:Int))
theorem Za {g:Grammar} {x:Int} (hnl:g.nons.length≤1000000) (htl:g.toks.length≤1000000):Pure Try.prog 80 [g.V,vi x] (.bool (jS g.toks.length g.nons.length x)):=by
 refine pure_intro Try.func80 nm_ qng (by show 2≤26;decide) ?_
 show ewp _ qsm _ _
 have hz:IntKind.i64.wrap (1000+(g.nons.length:Int))=1000+(g.nons.length:Int):=wrap64 o_ o_
 by_cases h0:0≤x
 · by_cases h1:x<g.toks.length
   · have e:jS g.toks.length g.nons.length x=true:=by unfold jS;simp;omega
     rw[e]
     repeat' with_reducible first
      |refine s_ ?_
      |simp -implicitDefEqProofs only[wZZ,seval,hz]
      |(first|apply qj|apply qi)<;>intro h h_<;>(try simp only[wD,reduceCtorEq]at h_)<;>(try exact wb_)<;>(try simp only[h])
      |refine t_ ?_
     all_goals refine qo rfl (Or.inr rfl) ?_
     all_goals(try simp -implicitDefEqProofs only[wL,seval])
     all_goals refine er_ ?_
     all_goals(try(with_reducible rfl))
   · by_cases h2:1000≤x
     · by_cases h3:x<1000+(g.nons.length:Int)
       · have e:jS g.toks.length g.nons.length x=true:=by unfold jS;simp;omega
         rw[e]
         repeat' with_reducible first
          |refine s_ ?_
          |simp -implicitDefEqProofs only[wZZ,seval,hz]
          |(first|apply qj|apply qi)<;>intro h h_<;>(try simp only[wD,reduceCtorEq]at h_)<;>(try exact wb_)<;>(try simp only[h])
          |refine t_ ?_
         all_goals refine qo rfl (Or.inr rfl) ?_
         all_goals(try simp -implicitDefEqProofs only[wL,seval])
         all_goals refine er_ ?_
         all_goals(try(with_reducible rfl))
         exact decide_eq_true h3
       · have e:jS g.toks.length g.nons.length x=false:=by unfold jS;simp;omega
         rw[e]
         repeat' with_reducible first
          |refine s_ ?_
          |simp -implicitDefEqProofs only[wZZ,seval,hz]
          |(first|apply qj|apply qi)<;>intro h h_<;>(try simp only[wD,reduceCtorEq]at h_)<;>(try exact wb_)<;>(try simp only[h])
          |refine t_ ?_
         all_goals refine qo rfl (Or.inr rfl) ?_
         all_goals(try simp -implicitDefEqProofs only[wL,seval])
         all_goals refine er_ ?_
         all_goals(try(with_reducible rfl))
         exact decide_eq_false h3
     · have e:jS g.toks.length g.nons.length x=false:=by unfold jS;simp;omega
       rw[e]
       repeat' with_reducible first
        |refine s_ ?_
        |simp -implicitDefEqProofs only[wZZ,seval,hz]
        |(first|apply qj|apply qi)<;>intro h h_<;>(try simp only[wD,reduceCtorEq]at h_)<;>(try exact wb_)<;>(try simp only[h])
        |refine t_ ?_
       all_goals refine qo rfl (Or.inr rfl) ?_
       all_goals(try simp -implicitDefEqProofs only[wL,seval])
       all_goals refine er_ ?_
       all_goals(try(with_reducible rfl))
 · have e:jS g.toks.length g.nons.length x=false:=by unfold jS;simp;omega
   rw[e]
   repeat' with_reducible first
    |refine s_ ?_
    |simp -implicitDefEqProofs only[wZZ,seval,hz]
    |(first|apply qj|apply qi)<;>intro h h_<;>(try simp only[wD,reduceCtorEq]at h_)<;>(try exact wb_)<;>(try simp only[h])
    |refine t_ ?_
   all_goals refine qo rfl (Or.inr rfl) ?_
   all_goals(try simp -implicitDefEqProofs only[wL,seval])
   all_goals refine er_ ?_
   all_goals(try(with_reducible rfl))
end Go.Proofs
