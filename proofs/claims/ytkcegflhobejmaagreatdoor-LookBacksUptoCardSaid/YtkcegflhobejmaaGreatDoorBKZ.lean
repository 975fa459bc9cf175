/- Part of a proof that a law of the given program answers true. -/
import Derived.Test.YtkcegflhobejmaaGreatDoorBGD
import Derived.Test.YtkcegflhobejmaaGreatDoorBPA
set_option maxRecDepth 20000
set_option linter.unusedSimpArgs false
set_option linter.unusedVariables false
namespace Go.Proofs
open Go.E
def kX (nt nn:Nat) (s:Int):Prop:=(∃t:Nat,s=t∧t<nt)∨ ∃k:Nat,s=1000+(k:Int)∧k<nn
structure GOk (g:Grammar):Prop where
 tk:3≤g.toks.length
 tk2:g.toks.length≤40
 nn:1≤g.nons.length
 nn2:g.nons.length≤24
 pl:1≤g.prods.length
 pl2:g.prods.length≤60
 left: ∀p∈g.prods,∃l:Nat,p.left=l∧l<g.nons.length
 rlen: ∀p∈g.prods,p.right.length≤8
 right: ∀p∈g.prods,∀s∈p.right,kX g.toks.length g.nons.length s
 prec: ∀p∈g.prods,p.prec= -1∨ ∃t:Nat,p.prec=t∧t<g.toks.length
 head: ∃p r,g.prods=p::r∧p.left=0∧(∃k:Nat,p.right=[1000+(k:Int)]∧k<g.nons.length)
structure MInv (m:Mk):Prop where
 tk:3≤m.toks.length
 inn:0≤m.inner
 left: ∀p∈m.prods,0≤p.left∧p.left≤m.lefts.length+m.inner
 right: ∀p∈m.prods,∀s∈p.right,kX m.toks.length (1+m.lefts.length+m.inner.toNat) s
 prec: ∀p∈m.prods,p.prec= -1∨(0≤p.prec∧p.prec<m.toks.length)
theorem kX.mono {a b a' b':Nat} {s:Int} (h:kX a b s) (h1:a≤a') (h2:b≤b'):kX a' b' s:=by
 rcases h with ⟨t,e,l⟩|⟨k,e,l⟩
 · exact Or.inl ⟨t,e,o_⟩
 · exact Or.inr ⟨k,e,o_⟩
theorem MInv.up {m m':Mk} (h:MInv m) (hp:m'.prods=m.prods) (ht:m.toks.length≤m'.toks.length) (hl:m'.lefts=m.lefts) (hi:m.inner≤m'.inner):MInv m':=by
 have:=h.inn
 refine⟨by have:=h.tk;omega,o_,fun p hq=>?_,fun p hq s hs=>?_,fun p hq=>?_⟩
 · rw[hp]at hq;have:=h.left p hq;rw[hl];omega
 · rw[hp]at hq;rw[hl];exact(h.right p hq s hs).mono ht o_
 · rw[hp]at hq
   rcases h.prec p hq with h|⟨h1,h2⟩
   · exact Or.inl h
   · exact Or.inr ⟨h1,o_⟩
theorem MInv.put {m:Mk} (h:MInv m) {p:GPr} (h1:0≤p.left∧p.left≤m.lefts.length+m.inner) (h2: ∀s∈p.right,kX m.toks.length (1+m.lefts.length+m.inner.toNat) s) (h3:p.prec= -1∨(0≤p.prec∧p.prec<m.toks.length)):MInv {m with prods:=m.prods++[p]}:=by
 refine⟨h.tk,h.inn,fun q hq=>?_,fun q hq=>?_,fun q hq=>?_⟩<;>rcases List.mem_append.1 hq with hq|hq
 · exact h.left q hq
 · rw[List.mem_singleton]at hq;subst hq;exact h1
 · exact h.right q hq
 · rw[List.mem_singleton]at hq;subst hq;exact h2
 · exact h.prec q hq
 · rw[List.mem_singleton]at hq;subst hq;exact h3
theorem qch {m:Mk} (x:Sym) (ht:3≤m.toks.length) (hi:0≤m.inner):kX (yc m x).1.toks.length (1+m.lefts.length+m.inner.toNat) (yc m x).2∧(x.lit=true∨qN x.name m.lefts 0<0→0≤(yc m x).2∧(yc m x).2<(yc m x).1.toks.length):=by
 have hb:=qdn m x o_
 have hl:=jU x.name m.lefts 0
 have htk:=KS x m.toks o_
 have hf:=(zK m x.at_ x.name).1
 have tokI: ∀{n:Nat} {s:Int},0≤s→s<n→kX n (1+m.lefts.length+m.inner.toNat) s:=fun h1 h2=>Or.inl ⟨_,(Int.toNat_of_nonneg h1).symm,o_⟩
 unfold yc
 split
 · exact⟨tokI hb.1 hb.2,fun _=>hb⟩
 · rename_i hx
   split
   · rename_i h0
     refine⟨Or.inr ⟨(1+qN x.name m.lefts 0).toNat,by dsimp only;omega,o_⟩,fun h=>?_⟩
     rcases h with h|h
     · exact absurd h hx
     · omega
   · split
     · dsimp only;rw[hf]
       exact⟨tokI o_ o_,fun _=>⟨o_,o_⟩⟩
     · dsimp only;exact⟨tokI o_ o_,fun _=>⟨o_,o_⟩⟩
theorem YO : ∀(l:List Part) (m:Mk) (p:GPr),MInv m→(∀s∈p.right,kX m.toks.length (1+m.lefts.length+m.inner.toNat) s)→MInv (zR l (m,p)).1∧ ∀s∈(zR l (m,p)).2.right,kX (zR l (m,p)).1.toks.length (1+(zR l (m,p)).1.lefts.length+(zR l (m,p)).1.inner.toNat) s
 |[],m,p,h,hp=>by rw[Jz];exact⟨h,hp⟩
 | w :: r, m,p,h,hp=>by
   rw[kR]
   obtain ⟨y1,y2,y3,y4,y5,y6,y7,y8⟩:=Qb m w.sym
   have hs:=(qch w.sym h.tk h.inn).1
   have hi:=h.inn
   split
   · refine YO r _ _ (h.up y3 y7 y2 o_) fun s hs2=>?_
     rw[y2,y6]
     rcases List.mem_append.1 hs2 with hs2|hs2
     · exact(hp s hs2).mono y7 (Nat.le_refl _)
     · rw[List.mem_singleton]at hs2;subst hs2;exact hs
   · split
     · exact⟨h,hp⟩
     · refine YO r _ _ ?_ fun s hs2=>?_
       · refine(h.up (m':={m with inner:=m.inner+1}) rfl (Nat.le_refl _) rfl (by dsimp only;omega)).put ⟨by dsimp only;omega,by dsimp only;omega⟩ (fun s hs2=>by cases hs2) (Or.inl rfl)
       · dsimp only at hs2 ⊢
         rcases List.mem_append.1 hs2 with hs2|hs2
         · exact(hp s hs2).mono (Nat.le_refl _) o_
         · rw[List.mem_singleton]at hs2
           exact Or.inr ⟨m.lefts.length+(m.inner+1).toNat,by rw[hs2];omega,o_⟩
theorem VO (n:Nat): ∀(l:List Int) (p:Int),(∀s∈l,0≤s∧(s<1000→s<n))→(p= -1∨(0≤p∧p<n))→(xM l p= -1∨(0≤xM l p∧xM l p<n))
 |[],p,_,hp=>hp
 | x::r,p,h,hp=>by
   rw[xM]
   refine VO n r _ (fun s hs=>h s (List.mem_cons_of_mem _ hs)) ?_
   split
   · rename_i hx;have:=h x (by simp);exact Or.inr ⟨this.1,this.2 hx⟩
   · exact hp
theorem qrB {m:Mk} (n:List UInt8) (a:Alt) (h:MInv m):MInv (Xl m n a):=by
 have hl:=jU n m.lefts 0
 obtain ⟨g1,g2,g3,g4,g5,g6,g7,g8,g9,g10⟩:=J9 a.parts m {left:=1+qN n m.lefts 0,prec:= -1,at_:=a.at_}
 obtain ⟨h1,h2⟩:=YO a.parts m {left:=1+qN n m.lefts 0,prec:= -1,at_:=a.at_} h (fun s hs=>by cases hs)
 have hi:=h.inn
 unfold Xl
 dsimp only
 generalize zR a.parts (m,{left:=1+qN n m.lefts 0,prec:= -1,at_:=a.at_})=q at *
 have hlf:0≤q.2.left∧q.2.left≤q.1.lefts.length+q.1.inner:=by rw[g5,g1];dsimp only;omega
 obtain ⟨ff1,ff2,ff3,ff4,ff5,ff6,ff7,ff8⟩:=zK q.1 a.prec.at_ a.prec.name
 split
 · split
   · rename_i hc
     obtain ⟨y1,y2,y3,y4,y5,y6,y7,y8⟩:=Qb q.1 a.prec
     have hs:=(qch a.prec h1.tk h1.inn).2 (by rcases hc with hc|hc<;>simp[hc])
     refine(h1.up y3 y7 y2 o_).put (by rw[y2,y6];exact hlf) (fun s hs2=>?_) (Or.inr hs)
     rw[y2,y6];exact(h2 s hs2).mono y7 (Nat.le_refl _)
   · refine(h1.up (m':=zx q.1 a.prec.at_ a.prec.name) ff5 (by rw[ff1];omega) ff3 o_).put (p:={q.2 with prec:= -1,args:=q.2.right}) (by rw[ff3,ff8];exact hlf) (fun s hs2=>by rw[ff1,ff3,ff8];exact h2 s hs2) (Or.inl rfl) |> fun hh=>?_
     rw[ff5]at hh
     exact hh
 · refine h1.put hlf h2 ?_
   refine VO _ _ _ (fun s hs=>?_) (Or.inl rfl)
   rcases h2 s hs with ⟨t,e,l⟩|⟨k,e,l⟩
   · exact⟨o_,fun _=>by omega⟩
   · exact⟨o_,fun _=>by omega⟩
theorem VY (n:List UInt8): ∀(l:List Alt) (m:Mk),MInv m→MInv (zW n l m)
 |[],m,h=>h
 |a::r,m,h=>by rw[yO];exact VY n r _ (qrB n a h)
theorem qaI: ∀(l:List Rule) (m:Mk),MInv m→MInv (yS l m)
 |[],m,h=>h
 |r::l,m,h=>by rw[kS];exact qaI l _ (VY r.left r.alts m h)
def HdP (P:GPr) (m:Mk):Prop:= ∃r,m.prods=P::r
theorem Yh (P:GPr): ∀(l:List Part) (m:Mk) (p:GPr),HdP P m→HdP P (zR l (m,p)).1
 |[],m,p,h=>h
 | w ::r,m,p,h=>by
   rw[kR]
   obtain ⟨y1,y2,y3,y4,y5,y6,y7,y8⟩:=Qb m w.sym
   obtain ⟨t,ht⟩:=h
   split
   · exact Yh P r _ _ ⟨t,by rw[y3];exact ht⟩
   · split
     · exact⟨t,ht⟩
     · exact Yh P r _ _ ⟨_,by dsimp only;rw[ht];rfl⟩
theorem qt8 (P:GPr) {m:Mk} (n:List UInt8) (a:Alt) (h:HdP P m):HdP P (Xl m n a):=by
 have h1:=Yh P a.parts m {left:=1+qN n m.lefts 0,prec:= -1,at_:=a.at_} h
 unfold Xl
 dsimp only
 generalize zR a.parts (m,{left:=1+qN n m.lefts 0,prec:= -1,at_:=a.at_})=q at *
 obtain ⟨t,ht⟩:=h1
 obtain ⟨y1,y2,y3,y4,y5,y6,y7,y8⟩:=Qb q.1 a.prec
 split
 · split
   · exact⟨_,by dsimp only;rw[y3,ht];rfl⟩
   · exact⟨_,by dsimp only;rw[ht];rfl⟩
 · exact⟨_,by dsimp only;rw[ht];rfl⟩
theorem VJ (P:GPr) (n:List UInt8): ∀(l:List Alt) (m:Mk),HdP P m→HdP P (zW n l m)
 |[],m,h=>h
 |a::r,m,h=>by rw[yO];exact VJ P n r _ (qt8 P n a h)
theorem qaN (P:GPr): ∀(l:List Rule) (m:Mk),HdP P m→HdP P (yS l m)
 |[],m,h=>h
 |r::l,m,h=>by rw[kS];exact qaN P l _ (VJ P r.left r.alts m h)
theorem JI (g:List Bool): ∀(f i:Nat) (l:List Tok) (n:Int),(Yi g f i (l,n)).1.length=l.length
 |0,i,l,n=>rfl
 | f+1,i,l,n=>by
   rw[XD];split
   · exact JI g f _ _ _
   · rw[JI];simp
theorem V7 (d:Decl): ∀(l:List Sym) (m:Mk) (st:List UInt8),yB m (jc d l (m,st)).1∧m.toks.length≤(jc d l (m,st)).1.toks.length
 |[],m,st=>⟨⟨rfl,rfl,rfl,rfl⟩,Nat.le_refl _⟩
 | x ::r,m,st=>by
   rw[X7]
   obtain ⟨⟨a1,a2,a3,a4⟩,_,h2,_⟩:=qcD m d x
   obtain ⟨ff1,ff2,ff3,ff4,ff5,ff6,ff7,ff8⟩:=zK m x.at_ x.name
   split
   · obtain ⟨⟨b1,b2,b3,b4⟩,k2⟩:=V7 d r (vD m d x) st
     exact⟨⟨b1.trans a1,b2.trans a2,b3.trans a3,b4.trans a4⟩,o_⟩
   · have key: ∀m',yB m m'→m.toks.length≤m'.toks.length→yB m (jc d r (m',x.name)).1∧m.toks.length≤(jc d r (m',x.name)).1.toks.length:=fun m' hm ht=>by
      obtain ⟨⟨b1,b2,b3,b4⟩,k2⟩:=V7 d r m' x.name
      exact⟨⟨b1.trans hm.1,b2.trans hm.2.1,b3.trans hm.2.2.1,b4.trans hm.2.2.2⟩,o_⟩
     split
     · exact key _ ⟨ff3,ff5,ff6,ff8⟩ (by rw[ff1];omega)
     · exact key _ ⟨rfl,rfl,rfl,rfl⟩ (Nat.le_refl _)
theorem qbW: ∀(l:List Decl) (m:Mk) (st:List UInt8),yB m (jY l (m,st)).1∧m.toks.length≤(jY l (m,st)).1.toks.length
 |[],m,st=>⟨⟨rfl,rfl,rfl,rfl⟩,Nat.le_refl _⟩
 | d::r,m,st=>by
   rw[X9]
   have key: ∀m',yB m m'→m.toks.length≤m'.toks.length→yB m (jY r (jc d d.syms (m',st))).1∧m.toks.length≤(jY r (jc d d.syms (m',st))).1.toks.length:=fun m' hm ht=>by
    obtain ⟨⟨a1,a2,a3,a4⟩,k1⟩:=V7 d d.syms m' st
    obtain ⟨⟨b1,b2,b3,b4⟩,k2⟩:=qbW r (jc d d.syms (m',st)).1 (jc d d.syms (m',st)).2
    exact⟨⟨b1.trans (a1.trans hm.1),b2.trans (a2.trans hm.2.1),b3.trans (a3.trans hm.2.2.1),b4.trans (a4.trans hm.2.2.2)⟩,by show m.toks.length≤(jY r ((jc d d.syms (m',st)).1,(jc d d.syms (m',st)).2)).1.toks.length;omega⟩
   split
   · exact key _ ⟨rfl,rfl,rfl,rfl⟩ (Nat.le_refl _)
   · exact key _ ⟨rfl,rfl,rfl,rfl⟩ (Nat.le_refl _)
theorem qda: ∀(l:List Rule) (m:Mk),(xR l m).toks=m.toks∧(xR l m).inner=m.inner∧(xR l m).nons=m.nons
 |[],m=>⟨rfl,rfl,rfl⟩
 | r::l,m=>by
   rw[Xx]
   obtain ⟨d1,d2,d3,d4,d5,d6⟩:=qcl m r
   obtain ⟨h1,h2,h3⟩:=qda l (Xi (kZ m r) r.left)
   have e:(Xi (kZ m r) r.left).toks=m.toks∧(Xi (kZ m r) r.left).inner=m.inner∧(Xi (kZ m r) r.left).nons=m.nons:=by
    unfold Xi
    split
    · exact⟨d1,d6,d5⟩
    · exact⟨d1,d6,d5⟩
   exact⟨h1.trans e.1,h2.trans e.2.1,h3.trans e.2.2⟩
theorem qar (kind:Int): ∀(l:List Sym) (m:Mk),xB m (xw kind l m)
 |[],m=>xB.rfl' m
 |x::r,m=>by rw[ZW];exact(qDR m kind x).trans' (qar kind r _)
theorem qc8: ∀(l:List Decl) (m:Mk),xB m (kW l m)
 |[],m=>xB.rfl' m
 |d::r,m=>by rw[Xz];exact(qar d.kind d.syms m).trans' (qc8 r _)
def qa3 (src:Source):Mk:=kW src.decls (xR src.rules (jY src.decls ({},[])).1)
def Zk (src:Source):List UInt8:=if (jY src.decls ({},[])).2=[]then(src.rules.headD {}).left else(jY src.decls ({},[])).2
def Kn (src:Source):GPr:={left:=0,right:=[1001+qN (Zk src) (qa3 src).lefts 0],prec:= -1}
theorem qai (src:Source):xK src=yS src.rules {qa3 src with prods:=[Kn src]}:=rfl
theorem qu3 (src:Source):3≤(qa3 src).toks.length∧(qa3 src).inner=0∧(qa3 src).nons=[]:=by
 obtain ⟨⟨a1,a2,a3,a4⟩,k1⟩:=qbW src.decls {} []
 obtain ⟨l1,l2,l3⟩:=qda src.rules (jY src.decls ({},[])).1
 obtain ⟨u1,u2,u3,u4,u5,u6,u7⟩:=qc8 src.decls (xR src.rules (jY src.decls ({},[])).1)
 refine⟨?_,?_,?_⟩
 · show 3≤(kW _ _).toks.length;rw[u1,l1];exact k1
 · show (kW _ _).inner=0;rw[u7,l2];exact a4
 · show (kW _ _).nons=[];rw[u6,l3];exact a3
theorem qeJ (src:Source):MInv (xK src)∧HdP (Kn src) (xK src):=by
 obtain ⟨h1,h2,h3⟩:=qu3 src
 have hl:=jU (Zk src) (qa3 src).lefts 0
 rw[qai]
 refine⟨qaI _ _ ⟨h1,by dsimp only;omega,fun p hp=>?_,fun p hp s hs=>?_,fun p hp=>?_⟩,qaN _ _ _ ⟨[],rfl⟩⟩<;>(dsimp only at hp;rw[List.mem_singleton]at hp;subst hp)
 · unfold Kn;dsimp only;omega
 · unfold Kn at hs;dsimp only at hs ⊢;rw[List.mem_singleton]at hs;subst hs
   exact Or.inr ⟨(1+qN (Zk src) (qa3 src).lefts 0).toNat,o_,o_⟩
 · exact Or.inl rfl
theorem JB (n:List UInt8): ∀(l:List Alt) (m:Mk),(zW n l m).nons=m.nons∧(zW n l m).lefts=m.lefts
 |[],m=>⟨rfl,rfl⟩
 | a::r,m=>by
   rw[yO]
   obtain ⟨h1,_,h3,_⟩:=qgv m n a
   obtain ⟨k1,k2⟩:=JB n r (Xl m n a)
   exact⟨k1.trans h3,k2.trans h1⟩
theorem X4: ∀(l:List Rule) (m:Mk),(yS l m).nons=m.nons∧(yS l m).lefts=m.lefts
 |[],m=>⟨rfl,rfl⟩
 | r::l,m=>by
   rw[kS]
   obtain ⟨h1,h2⟩:=JB r.left r.alts m
   obtain ⟨k1,k2⟩:=X4 l (zW r.left r.alts m)
   exact⟨k1.trans h1,k2.trans h2⟩
theorem qqn (m:Mk):(xJ m).toks.length=m.toks.length∧(xJ m).nons.length=1+m.lefts.length+m.inner.toNat∧(xJ m).prods=m.prods:=by
 unfold xJ
 dsimp only
 refine⟨JI _ _ _ _ _,?_,rfl⟩
 rw[List.length_append,List.length_append,Jm,qaa];rfl
theorem qfJ {src:Source} (h:Kv src=true):YR src=true∧(xK src).e=0∧Xo (xJ (xK src))=false∧Qa src={toks:=(xJ (xK src)).toks,nons:=(xJ (xK src)).nons,prods:=(xJ (xK src)).prods,pro:=src.pro,tail:=src.tail}:=by
 have h:=of_decide_eq_true h
 unfold Qa
 unfold ofS at *
 by_cases h1:YR src=true
 · rw [if_pos h1]at *
   by_cases h2:(xK src).e≠0
   · rw[if_pos h2]at h;exact absurd h h2
   · rw[if_neg h2]at *
     by_cases h3:Xo (xJ (xK src))=true
     · rw[if_pos h3]at h;cases h
     · rw[if_neg h3]at *
       exact⟨h1,by simpa using h2,by simpa using h3,rfl⟩
 · rw[if_neg h1]at h;cases h
theorem gok {src:Source} (h:Kv src=true):GOk (Qa src):=by
 obtain ⟨_,_,hl,he⟩:=qfJ h
 obtain ⟨hi,r,hr⟩:=qeJ src
 obtain ⟨n1,n2,n3⟩:=qqn (xK src)
 unfold Xo at hl
 simp only[Bool.or_eq_false_iff,decide_eq_false_iff_not,List.any_eq_false,decide_eq_true_eq]at hl
 obtain ⟨⟨⟨l1,l2⟩,l3⟩,l4⟩:=hl
 have hinn:=hi.inn
 rw[he]
 refine⟨?_,?_,?_,?_,?_,?_,fun p hp=>?_,fun p hp=>?_,fun p hp s hs=>?_,fun p hp=>?_,?_⟩<;>dsimp only at *
 · rw[n1];exact hi.tk
 · omega
 · rw[n2];omega
 · omega
 · rw[n3,hr];simp
 · omega
 · rw[n3]at hp;have:=hi.left p hp
   exact⟨p.left.toNat,o_,o_⟩
 · have:=l4 p hp;omega
 · rw[n3]at hp;rw[n1,n2];exact hi.right p hp s hs
 · rw[n3]at hp
   rcases hi.prec p hp with h|⟨h1,h2⟩
   · exact Or.inl h
   · exact Or.inr ⟨p.prec.toNat,o_,o_⟩
 · refine⟨Kn src,r,by rw[n3];exact hr,rfl,(1+qN (Zk src) (qa3 src).lefts 0).toNat,?_,?_⟩
   · have:=jU (Zk src) (qa3 src).lefts 0
     unfold Kn;dsimp only
     rw[show (1001+qN (Zk src) (qa3 src).lefts 0:Int)=1000+((1+qN (Zk src) (qa3 src).lefts 0).toNat:Int) by omega]
   · have:=jU (Zk src) (qa3 src).lefts 0
     have:=(X4 src.rules {qa3 src with prods:=[Kn src]}).2
     rw[← qai]at this
     dsimp only at this
     rw[n2,this];omega

set_option maxHeartbeats 4000000
abbrev itV (x:Int):V:= .agg [vi (x / 16),vi (x % 16)]
abbrev prV (p:Int×Int):V:= .agg [vi p.1,vi p.2]
def ZT (g:Grammar) (x:Int):Prop:=0≤x∧ ∃p,g.prods[(x / 16).toNat]?=some p∧(x % 16).toNat≤p.right.length
def nxt (g:Grammar) (x:Int):Int:=((g.prods[(x / 16).toNat]?).bind fun p=>p.right[(x % 16).toNat]?).getD (-1)
def qMs (g:Grammar) (l:List Int) (D:Int→Prop):Prop:=(∀x∈l,D x)∧ ∀x,D x→ ∀(m:Nat) p,g.prods[m]?=some p→1000≤nxt g x→p.left=nxt g x - 1000→D (16 *(m:Int))
structure IsCl (g:Grammar) (l c:List Int):Prop where
 rise:kK c
 clo:qMs g l (· ∈c)
 least: ∀D,qMs g l D→ ∀x∈c,D x
theorem IsCl.uniq {g:Grammar} {l c c':List Int} (h:IsCl g l c) (h':IsCl g l c'):c=c':=
 YE h.rise h'.rise fun x=>⟨h.least _ h'.clo x,h'.least _ h.clo x⟩
theorem qd6 {g:Grammar} {m:Nat} {p:GPr} (h:g.prods[m]?=some p):ZT g (16 *(m:Int)):=by
 have e:(16 *(m:Int)) / 16=m:=o_
 have e2:(16 *(m:Int)) % 16=0:=o_
 exact⟨o_,p,by rw[e];exact h,by rw[e2];exact Nat.zero_le _⟩
theorem IsCl.ok {g:Grammar} {l c:List Int} (h:IsCl g l c) (hl: ∀x∈l,ZT g x): ∀x∈c,ZT g x:=
 h.least _ ⟨hl,fun x hx m p hp _ _=>qd6 hp⟩
theorem IsCl.cases {g:Grammar} {l c:List Int} (h:IsCl g l c): ∀x∈c,x∈l∨ ∃y∈c,∃(m:Nat) (p:GPr),x=16 *(m:Int)∧g.prods[m]?=some p∧1000≤nxt g y∧p.left=nxt g y - 1000:=by
 have:=h.least (fun x=>x∈c∧(x∈l∨ ∃y∈c,∃(m:Nat) (p:GPr),x=16 *(m:Int)∧g.prods[m]?=some p∧1000≤nxt g y∧p.left=nxt g y - 1000)) ⟨fun x hx=>⟨h.clo.1 x hx,Or.inl hx⟩,fun x hx m p hp h1 h2=>⟨h.clo.2 x hx.1 m p hp h1 h2,Or.inr ⟨x,hx.1,m,p,rfl,hp,h1,h2⟩⟩⟩
 exact fun x hx=>(this x hx).2
def qAP (g:Grammar) (s:Int) (o:List Int):List Int:=(List.range g.prods.length).foldl (fun o (m:Nat)=>if 1000≤s∧(g.prods[m]?.map (·.left)).getD 0=s - 1000 then vF o (16 *(m:Int))else o) o
def Yo (g:Grammar) (c:List Int):List Int:=c.foldl (fun o x=>qAP g (nxt g x) o) c
def K5 (g:Grammar):Nat→List Int→List Int
 |0,c=>c
 |n+1,c=>if Yo g c=c then c else K5 g n (Yo g c)
theorem Je {α β:Type} {P:β→Prop} {f:β→α→β}: ∀(l:List α) (b:β),P b→(∀b a,a∈l→P b→P (f b a))→P (l.foldl f b)
 |[],b,h,_=>h
 |a::l,b,h,hf=>Je l (f b a) (hf b a (by simp) h) fun b x hx=>hf b x (List.mem_cons_of_mem _ hx)
theorem qeP {g:Grammar} {s:Int} {o:List Int}: ∀x,x∈qAP g s o↔x∈o∨ ∃(m:Nat) (p:GPr),x=16 *(m:Int)∧g.prods[m]?=some p∧1000≤s∧p.left=s - 1000:=by
 have key : ∀(k:Nat) (o:List Int),k≤g.prods.length→ ∀x,x∈(List.range k).foldl (fun o (m:Nat)=>if 1000≤s∧(g.prods[m]?.map (·.left)).getD 0=s - 1000 then vF o (16 *(m:Int))else o) o↔x∈o∨ ∃(m:Nat) (p:GPr),m<k∧x=16 *(m:Int)∧g.prods[m]?=some p∧1000≤s∧p.left=s - 1000:=by
  intro k
  induction k with
  |zero=>intro o _ x;simp
  | succ k ih=>
    intro o hk x
    rw[List.range_succ,List.foldl_append,List.foldl_cons,List.foldl_nil]
    have hgp:g.prods[k]?=some g.prods[k]:=ge_ o_
    by_cases hc:1000≤s∧(g.prods[k]?.map (·.left)).getD 0=s - 1000
    · rw [if_pos hc,jO,ih o o_]
      rw[hgp]at hc
      constructor
      · rintro ((h|⟨m,p,h1,h2⟩)|h)
        · exact Or.inl h
        · exact Or.inr ⟨m,p,o_,h2⟩
        · exact Or.inr ⟨k,_,o_,h,hgp,hc.1,hc.2⟩
      · rintro (h|⟨m,p,h1,h2,h3⟩)
        · exact Or.inl (Or.inl h)
        · by_cases e:m=k
          · subst e;exact Or.inr h2
          · exact Or.inl (Or.inr ⟨m,p,o_,h2,h3⟩)
    · rw [if_neg hc,ih o o_]
      constructor
      · rintro (h|⟨m,p,h1,h2⟩)
        · exact Or.inl h
        · exact Or.inr ⟨m,p,o_,h2⟩
      · rintro (h|⟨m,p,h1,h2,h3,h4⟩)
        · exact Or.inl h
        · by_cases e:m=k
          · subst e;rw[h3]at hc;exact absurd h4 hc
          · exact Or.inr ⟨m,p,o_,h2,h3,h4⟩
 intro x
 unfold qAP
 rw[key _ o (Nat.le_refl _)]
 constructor
 · rintro (h|⟨m,p,_,h⟩)
   · exact Or.inl h
   · exact Or.inr ⟨m,p,h⟩
 · rintro (h|⟨m,p,h1,h2,h3⟩)
   · exact Or.inl h
   · exact Or.inr ⟨m,p,(List.getElem?_eq_some_iff.1 h2).1,h1,h2,h3⟩
theorem qcg {g:Grammar} {s:Int} {o:List Int} (h:kK o):kK (qAP g s o):=
 Je _ _ h fun b a _ hb=>by split;exact kg hb;exact hb
theorem QI {g:Grammar} {c:List Int}: ∀x,x∈Yo g c↔x∈c∨ ∃y∈c,∃(m:Nat) (p:GPr),x=16 *(m:Int)∧g.prods[m]?=some p∧1000≤nxt g y∧p.left=nxt g y - 1000:=by
 have key: ∀(l o:List Int) x,x∈l.foldl (fun o x=>qAP g (nxt g x) o) o↔x∈o∨ ∃y∈l,∃(m:Nat) (p:GPr),x=16 *(m:Int)∧g.prods[m]?=some p∧1000≤nxt g y∧p.left=nxt g y - 1000:=by
  intro l
  induction l with
  |nil=>intro o x;simp
  | cons a l ih=>
    intro o x
    rw[List.foldl_cons,ih,qeP]
    constructor
    · rintro ((h|h)|⟨y,h1,h2⟩)
      · exact Or.inl h
      · exact Or.inr ⟨a,by simp,h⟩
      · exact Or.inr ⟨y,List.mem_cons_of_mem _ h1,h2⟩
    · rintro (h|⟨y,h1,h2⟩)
      · exact Or.inl (Or.inl h)
      · rcases List.mem_cons.1 h1 with rfl|h1
        · exact Or.inl (Or.inr h2)
        · exact Or.inr ⟨y,h1,h2⟩
 exact fun x=>key c c x
theorem X8 {g:Grammar} {c:List Int} (h:kK c):kK (Yo g c):=Je _ _ h fun b a _ hb=>qcg hb
theorem kT {N:Nat}: ∀{l:List Int} {a:Int},kK l→(∀x∈l,a≤x∧x<a+N)→l.length≤N:=by
 intro l
 induction l generalizing N with
 |nil=>intros;exact Nat.zero_le _
 | cons x l ih=>
   intro a h hb
   have h':=List.pairwise_cons.1 h
   have h1:=hb x (by simp)
   cases N with
   |zero=>omega
   | succ N=>
     have:=ih (N:=N) (a:=a+1) h'.2 fun y hy=>by
      have:=h'.1 y hy;have:=hb y (List.mem_cons_of_mem _ hy);omega
     rw[List.length_cons];omega
theorem Ya {a b:List Int} (ha:kK a) (hb:kK b) (h: ∀x∈a,x∈b) (hl:b.length≤a.length):a=b:=by
 have hs:a.Sublist b:=by
  clear hl
  induction b generalizing a with
  | nil=>
    cases a with
    |nil=>exact List.Sublist.slnil
    |cons x a=>exact absurd (h x (by simp)) (by simp)
  | cons y b ih=>
    have hb':=List.pairwise_cons.1 hb
    cases a with
    |nil=>exact List.nil_sublist _
    | cons x a=>
      have ha':=List.pairwise_cons.1 ha
      rcases List.mem_cons.1 (h x (by simp))with e|e
      · subst e
        refine List.Sublist.cons_cons _ (ih ha'.2 hb'.2 fun z hz=>?_)
        rcases List.mem_cons.1 (h z (List.mem_cons_of_mem _ hz))with e|e
        · subst e;have:=ha'.1 z hz;omega
        · exact e
      · refine List.Sublist.cons _ (ih ha hb'.2 fun z hz=>?_)
        rcases List.mem_cons.1 (h z hz)with e2|e2
        · subst e2
          have h1:=hb'.1 x e
          rcases List.mem_cons.1 hz with e3|e3
          · omega
          · have:=ha'.1 z e3;omega
        · exact e2
 exact hs.eq_of_length_le hl
theorem Ji {g:Grammar} {l:List Int} (hlen:g.prods.length≤60) (hrl: ∀p∈g.prods,p.right.length≤8) (hl: ∀x∈l,ZT g x): ∀(n:Nat) (c:List Int),kK c→(∀x∈l,x∈c)→(∀D,qMs g l D→ ∀x∈c,D x)→(∀x∈c,ZT g x)→961≤c.length+n→IsCl g l (K5 g n c)
 | n, c, hr,h1,h2,h3,hn=>by
   have hb: ∀x∈c,0≤x∧x<0+(960:Nat):=fun x hx=>by
    obtain ⟨h0,p,hp,_⟩:=h3 x hx
    have:=(List.getElem?_eq_some_iff.1 hp).1
    omega
   have hc:=kT hr hb
   match n with
   |0=>omega
   | n + 1=>
     unfold K5
     have up: ∀x∈c,x∈Yo g c:=fun x hx=>(QI x).2 (Or.inl hx)
     split
     · rename_i e
       exact⟨hr,⟨h1,fun x hx m p hp h4 h5=>by rw[← e];exact(QI _).2 (Or.inr ⟨x,hx,m,p,rfl,hp,h4,h5⟩)⟩,h2⟩
     · rename_i e
       refine Ji hlen hrl hl n _ (X8 hr) (fun x hx=>up x (h1 x hx)) (fun D hD x hx=>?_) (fun x hx=>?_) ?_
       · rcases (QI x).1 hx with h|⟨y,hy,m,p,rfl,hp,h4,h5⟩
         · exact h2 D hD x h
         · exact hD.2 y (h2 D hD y hy) m p hp h4 h5
       · rcases (QI x).1 hx with h|⟨y,hy,m,p,rfl,hp,h4,h5⟩
         · exact h3 x h
         · exact qd6 hp
       · have: ¬ (Yo g c).length≤c.length:=fun h=>e (Ya hr (X8 hr) up h).symm
         omega
def yt (g:Grammar) (l:List Int):List Int:=K5 g 961 l
theorem Y5 {g:Grammar} {l:List Int} (hlen:g.prods.length≤60) (hrl: ∀p∈g.prods,p.right.length≤8) (hl: ∀x∈l,ZT g x) (hr:kK l):IsCl g l (yt g l):=
 Ji hlen hrl hl 961 l hr (fun _ h=>h) (fun D hD=>hD.1) hl o_
end Go.Proofs
