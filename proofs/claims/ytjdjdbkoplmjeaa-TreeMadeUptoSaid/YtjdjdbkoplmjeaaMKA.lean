/- Part of a proof that a law of the given program answers true. -/
import Derived.Test.YtjdjdbkoplmjeaaMGC
import Derived.Test.YtjdjdbkoplmjeaaMJA
import Derived.Test.YtjdjdbkoplmjeaaMEC
import Derived.Test.YtjdjdbkoplmjeaaMCA
set_option linter.unusedSimpArgs false
set_option linter.unusedVariables false
namespace Go.Proofs
open Go.E
def Xo (nt nn:Nat) (s:Int):Prop:=(∃t:Nat,s=t∧t<nt)∨ ∃k:Nat,s=1000+(k:Int)∧k<nn
structure GOk (g:Grammar):Prop where
 tk:3≤g.toks.length
 tk2:g.toks.length≤40
 nn:1≤g.nons.length
 nn2:g.nons.length≤24
 pl:1≤g.prods.length
 pl2:g.prods.length≤60
 left: ∀p∈g.prods,∃l:Nat,p.left=l∧l<g.nons.length
 rlen: ∀p∈g.prods,p.right.length≤8
 right: ∀p∈g.prods,∀s∈p.right,Xo g.toks.length g.nons.length s
 prec: ∀p∈g.prods,p.prec= -1∨ ∃t:Nat,p.prec=t∧t<g.toks.length
 head: ∃p r,g.prods=p::r∧p.left=0∧(∃k:Nat,p.right=[1000+(k:Int)]∧k<g.nons.length)
structure MInv (m:Mk):Prop where
 tk:3≤m.toks.length
 inn:0≤m.inner
 left: ∀p∈m.prods,0≤p.left∧p.left≤m.lefts.length+m.inner
 right: ∀p∈m.prods,∀s∈p.right,Xo m.toks.length (1+m.lefts.length+m.inner.toNat) s
 prec: ∀p∈m.prods,p.prec= -1∨(0≤p.prec∧p.prec<m.toks.length)
theorem Xo.mono {a b a' b':Nat} {s:Int} (h:Xo a b s) (h1:a≤a') (h2:b≤b'):Xo a' b' s:=by
 rcases h with ⟨t,e,l⟩|⟨k,e,l⟩
 · exact Or.inl ⟨t,e,o_⟩
 · exact Or.inr ⟨k,e,o_⟩
theorem MInv.up {m m':Mk} (h:MInv m) (hp:m'.prods=m.prods) (ht:m.toks.length≤m'.toks.length) (hl:m'.lefts=m.lefts) (hi:m.inner≤m'.inner):MInv m':=by
 have:=h.inn
 refine⟨by have:=h.tk;omega,o_,fun p hq=>?_,fun p hq s hs=>?_,fun p hq=>?_⟩
 · rw[hp]at hq;have:=h.left p hq;rw[hl];omega
 · rw[hp]at hq;rw[hl];exact(h.right p hq s hs).mono ht o_
 · rw[hp]at hq
   rcases h.prec p hq with h|⟨h1,h2⟩
   · exact Or.inl h
   · exact Or.inr ⟨h1,o_⟩
theorem MInv.put {m:Mk} (h:MInv m) {p:GPr} (h1:0≤p.left∧p.left≤m.lefts.length+m.inner) (h2: ∀s∈p.right,Xo m.toks.length (1+m.lefts.length+m.inner.toNat) s) (h3:p.prec= -1∨(0≤p.prec∧p.prec<m.toks.length)):MInv {m with prods:=m.prods++[p]}:=by
 refine⟨h.tk,h.inn,fun q hq=>?_,fun q hq=>?_,fun q hq=>?_⟩<;>rcases List.mem_append.1 hq with hq|hq
 · exact h.left q hq
 · rw[List.mem_singleton]at hq;subst hq;exact h1
 · exact h.right q hq
 · rw[List.mem_singleton]at hq;subst hq;exact h2
 · exact h.prec q hq
 · rw[List.mem_singleton]at hq;subst hq;exact h3
theorem qcq {m:Mk} (x:Sym) (ht:3≤m.toks.length) (hi:0≤m.inner):Xo (jW m x).1.toks.length (1+m.lefts.length+m.inner.toNat) (jW m x).2∧(x.lit=true∨qD x.name m.lefts 0<0→0≤(jW m x).2∧(jW m x).2<(jW m x).1.toks.length):=by
 have hb:=qdS m x o_
 have hl:=jK x.name m.lefts 0
 have htk:=KW x m.toks o_
 have hf:=(zw m x.at_ x.name).1
 have tokI: ∀{n:Nat} {s:Int},0≤s→s<n→Xo n (1+m.lefts.length+m.inner.toNat) s:=fun h1 h2=>Or.inl ⟨_,(Int.toNat_of_nonneg h1).symm,o_⟩
 unfold jW
 split
 · exact⟨tokI hb.1 hb.2,fun _=>hb⟩
 · rename_i hx
   split
   · rename_i h0
     refine⟨Or.inr ⟨(1+qD x.name m.lefts 0).toNat,by dsimp only;omega,o_⟩,fun h=>?_⟩
     rcases h with h|h
     · exact absurd h hx
     · omega
   · split
     · dsimp only;rw[hf]
       exact⟨tokI o_ o_,fun _=>⟨o_,o_⟩⟩
     · dsimp only;exact⟨tokI o_ o_,fun _=>⟨o_,o_⟩⟩
theorem Yr : ∀(l:List Part) (m:Mk) (p:GPr),MInv m→(∀s∈p.right,Xo m.toks.length (1+m.lefts.length+m.inner.toNat) s)→MInv (zl l (m,p)).1∧ ∀s∈(zl l (m,p)).2.right,Xo (zl l (m,p)).1.toks.length (1+(zl l (m,p)).1.lefts.length+(zl l (m,p)).1.inner.toNat) s
 |[],m,p,h,hp=>by rw[Qz];exact⟨h,hp⟩
 | w :: r, m,p,h,hp=>by
   rw[x9]
   obtain ⟨y1,y2,y3,y4,y5,y6,y7,y8⟩:=kr m w.sym
   have hs:=(qcq w.sym h.tk h.inn).1
   have hi:=h.inn
   split
   · refine Yr r _ _ (h.up y3 y7 y2 o_) fun s hs2=>?_
     rw[y2,y6]
     rcases List.mem_append.1 hs2 with hs2|hs2
     · exact(hp s hs2).mono y7 (Nat.le_refl _)
     · rw[List.mem_singleton]at hs2;subst hs2;exact hs
   · split
     · exact⟨h,hp⟩
     · refine Yr r _ _ ?_ fun s hs2=>?_
       · refine(h.up (m':={m with inner:=m.inner+1}) rfl (Nat.le_refl _) rfl (by dsimp only;omega)).put ⟨by dsimp only;omega,by dsimp only;omega⟩ (fun s hs2=>by cases hs2) (Or.inl rfl)
       · dsimp only at hs2 ⊢
         rcases List.mem_append.1 hs2 with hs2|hs2
         · exact(hp s hs2).mono (Nat.le_refl _) o_
         · rw[List.mem_singleton]at hs2
           exact Or.inr ⟨m.lefts.length+(m.inner+1).toNat,by rw[hs2];omega,o_⟩
theorem V4 (n:Nat): ∀(l:List Int) (p:Int),(∀s∈l,0≤s∧(s<1000→s<n))→(p= -1∨(0≤p∧p<n))→(xM l p= -1∨(0≤xM l p∧xM l p<n))
 |[],p,_,hp=>hp
 | x::r,p,h,hp=>by
   rw[xM]
   refine V4 n r _ (fun s hs=>h s (List.mem_cons_of_mem _ hs)) ?_
   split
   · rename_i hx;have:=h x (by simp);exact Or.inr ⟨this.1,this.2 hx⟩
   · exact hp
theorem qg5 {m:Mk} (n:List UInt8) (a:Alt) (h:MInv m):MInv (Q0 m n a):=by
 have hl:=jK n m.lefts 0
 obtain ⟨g1,g2,g3,g4,g5,g6,g7,g8,g9,g10⟩:=Zr a.parts m {left:=1+qD n m.lefts 0,prec:= -1,at_:=a.at_}
 obtain ⟨h1,h2⟩:=Yr a.parts m {left:=1+qD n m.lefts 0,prec:= -1,at_:=a.at_} h (fun s hs=>by cases hs)
 have hi:=h.inn
 unfold Q0
 dsimp only
 generalize zl a.parts (m,{left:=1+qD n m.lefts 0,prec:= -1,at_:=a.at_})=q at *
 have hlf:0≤q.2.left∧q.2.left≤q.1.lefts.length+q.1.inner:=by rw[g5,g1];dsimp only;omega
 obtain ⟨ff1,ff2,ff3,ff4,ff5,ff6,ff7,ff8⟩:=zw q.1 a.prec.at_ a.prec.name
 split
 · split
   · rename_i hc
     obtain ⟨y1,y2,y3,y4,y5,y6,y7,y8⟩:=kr q.1 a.prec
     have hs:=(qcq a.prec h1.tk h1.inn).2 (by rcases hc with hc|hc<;>simp[hc])
     refine(h1.up y3 y7 y2 o_).put (by rw[y2,y6];exact hlf) (fun s hs2=>?_) (Or.inr hs)
     rw[y2,y6];exact(h2 s hs2).mono y7 (Nat.le_refl _)
   · refine(h1.up (m':=ze q.1 a.prec.at_ a.prec.name) ff5 (by rw[ff1];omega) ff3 o_).put (p:={q.2 with prec:= -1,args:=q.2.right}) (by rw[ff3,ff8];exact hlf) (fun s hs2=>by rw[ff1,ff3,ff8];exact h2 s hs2) (Or.inl rfl) |> fun hh=>?_
     rw[ff5]at hh
     exact hh
 · refine h1.put hlf h2 ?_
   refine V4 _ _ _ (fun s hs=>?_) (Or.inl rfl)
   rcases h2 s hs with ⟨t,e,l⟩|⟨k,e,l⟩
   · exact⟨o_,fun _=>by omega⟩
   · exact⟨o_,fun _=>by omega⟩
theorem Vu (n:List UInt8): ∀(l:List Alt) (m:Mk),MInv m→MInv (zm n l m)
 |[],m,h=>h
 |a::r,m,h=>by rw[xg];exact Vu n r _ (qg5 n a h)
theorem qaF: ∀(l:List Rule) (m:Mk),MInv m→MInv (jV l m)
 |[],m,h=>h
 |r::l,m,h=>by rw[yA];exact qaF l _ (Vu r.left r.alts m h)
def HdP (P:GPr) (m:Mk):Prop:= ∃r,m.prods=P::r
theorem YR (P:GPr): ∀(l:List Part) (m:Mk) (p:GPr),HdP P m→HdP P (zl l (m,p)).1
 |[],m,p,h=>h
 | w ::r,m,p,h=>by
   rw[x9]
   obtain ⟨y1,y2,y3,y4,y5,y6,y7,y8⟩:=kr m w.sym
   obtain ⟨t,ht⟩:=h
   split
   · exact YR P r _ _ ⟨t,by rw[y3];exact ht⟩
   · split
     · exact⟨t,ht⟩
     · exact YR P r _ _ ⟨_,by dsimp only;rw[ht];rfl⟩
theorem qjf (P:GPr) {m:Mk} (n:List UInt8) (a:Alt) (h:HdP P m):HdP P (Q0 m n a):=by
 have h1:=YR P a.parts m {left:=1+qD n m.lefts 0,prec:= -1,at_:=a.at_} h
 unfold Q0
 dsimp only
 generalize zl a.parts (m,{left:=1+qD n m.lefts 0,prec:= -1,at_:=a.at_})=q at *
 obtain ⟨t,ht⟩:=h1
 obtain ⟨y1,y2,y3,y4,y5,y6,y7,y8⟩:=kr q.1 a.prec
 split
 · split
   · exact⟨_,by dsimp only;rw[y3,ht];rfl⟩
   · exact⟨_,by dsimp only;rw[ht];rfl⟩
 · exact⟨_,by dsimp only;rw[ht];rfl⟩
theorem VB (P:GPr) (n:List UInt8): ∀(l:List Alt) (m:Mk),HdP P m→HdP P (zm n l m)
 |[],m,h=>h
 |a::r,m,h=>by rw[xg];exact VB P n r _ (qjf P n a h)
theorem qa6 (P:GPr): ∀(l:List Rule) (m:Mk),HdP P m→HdP P (jV l m)
 |[],m,h=>h
 |r::l,m,h=>by rw[yA];exact qa6 P l _ (VB P r.left r.alts m h)
theorem Xf (g:List Bool): ∀(f i:Nat) (l:List Tok) (n:Int),(Xv g f i (l,n)).1.length=l.length
 |0,i,l,n=>rfl
 | f+1,i,l,n=>by
   rw[Zc];split
   · exact Xf g f _ _ _
   · rw[Xf];simp
theorem KV (d:Decl): ∀(l:List Sym) (m:Mk) (st:List UInt8),yH m (zu d l (m,st)).1∧m.toks.length≤(zu d l (m,st)).1.toks.length
 |[],m,st=>⟨⟨rfl,rfl,rfl,rfl⟩,Nat.le_refl _⟩
 | x ::r,m,st=>by
   rw[Zu]
   obtain ⟨⟨a1,a2,a3,a4⟩,_,h2,_⟩:=qcZ m d x
   obtain ⟨ff1,ff2,ff3,ff4,ff5,ff6,ff7,ff8⟩:=zw m x.at_ x.name
   split
   · obtain ⟨⟨b1,b2,b3,b4⟩,k2⟩:=KV d r (xB m d x) st
     exact⟨⟨b1.trans a1,b2.trans a2,b3.trans a3,b4.trans a4⟩,o_⟩
   · have key: ∀m',yH m m'→m.toks.length≤m'.toks.length→yH m (zu d r (m',x.name)).1∧m.toks.length≤(zu d r (m',x.name)).1.toks.length:=fun m' hm ht=>by
      obtain ⟨⟨b1,b2,b3,b4⟩,k2⟩:=KV d r m' x.name
      exact⟨⟨b1.trans hm.1,b2.trans hm.2.1,b3.trans hm.2.2.1,b4.trans hm.2.2.2⟩,o_⟩
     split
     · exact key _ ⟨ff3,ff5,ff6,ff8⟩ (by rw[ff1];omega)
     · exact key _ ⟨rfl,rfl,rfl,rfl⟩ (Nat.le_refl _)
theorem KC: ∀(l:List Decl) (m:Mk) (st:List UInt8),yH m (zX l (m,st)).1∧m.toks.length≤(zX l (m,st)).1.toks.length
 |[],m,st=>⟨⟨rfl,rfl,rfl,rfl⟩,Nat.le_refl _⟩
 | d::r,m,st=>by
   rw[Zq]
   have key: ∀m',yH m m'→m.toks.length≤m'.toks.length→yH m (zX r (zu d d.syms (m',st))).1∧m.toks.length≤(zX r (zu d d.syms (m',st))).1.toks.length:=fun m' hm ht=>by
    obtain ⟨⟨a1,a2,a3,a4⟩,k1⟩:=KV d d.syms m' st
    obtain ⟨⟨b1,b2,b3,b4⟩,k2⟩:=KC r (zu d d.syms (m',st)).1 (zu d d.syms (m',st)).2
    exact⟨⟨b1.trans (a1.trans hm.1),b2.trans (a2.trans hm.2.1),b3.trans (a3.trans hm.2.2.1),b4.trans (a4.trans hm.2.2.2)⟩,by show m.toks.length≤(zX r ((zu d d.syms (m',st)).1,(zu d d.syms (m',st)).2)).1.toks.length;omega⟩
   split
   · exact key _ ⟨rfl,rfl,rfl,rfl⟩ (Nat.le_refl _)
   · exact key _ ⟨rfl,rfl,rfl,rfl⟩ (Nat.le_refl _)
theorem qds: ∀(l:List Rule) (m:Mk),(jw l m).toks=m.toks∧(jw l m).inner=m.inner∧(jw l m).nons=m.nons
 |[],m=>⟨rfl,rfl,rfl⟩
 | r::l,m=>by
   rw[Zx]
   obtain ⟨d1,d2,d3,d4,d5,d6⟩:=qdA m r
   obtain ⟨h1,h2,h3⟩:=qds l (Q7 (kD m r) r.left)
   have e:(Q7 (kD m r) r.left).toks=m.toks∧(Q7 (kD m r) r.left).inner=m.inner∧(Q7 (kD m r) r.left).nons=m.nons:=by
    unfold Q7
    split
    · exact⟨d1,d6,d5⟩
    · exact⟨d1,d6,d5⟩
   exact⟨h1.trans e.1,h2.trans e.2.1,h3.trans e.2.2⟩
theorem qa5 (kind:Int): ∀(l:List Sym) (m:Mk),xh m (jD kind l m)
 |[],m=>xh.rfl' m
 |x::r,m=>by rw[Qo];exact(qz8 m kind x).trans' (qa5 kind r _)
theorem qcw: ∀(l:List Decl) (m:Mk),xh m (yJ l m)
 |[],m=>xh.rfl' m
 |d::r,m=>by rw[Zg];exact(qa5 d.kind d.syms m).trans' (qcw r _)
def VX (src:Source):Mk:=yJ src.decls (jw src.rules (zX src.decls ({},[])).1)
def ZE (src:Source):List UInt8:=if (zX src.decls ({},[])).2=[]then(src.rules.headD {}).left else(zX src.decls ({},[])).2
def JI (src:Source):GPr:={left:=0,right:=[1001+qD (ZE src) (VX src).lefts 0],prec:= -1}
theorem Jd (src:Source):jJ src=jV src.rules {VX src with prods:=[JI src]}:=rfl
theorem qfz (src:Source):3≤(VX src).toks.length∧(VX src).inner=0∧(VX src).nons=[]:=by
 obtain ⟨⟨a1,a2,a3,a4⟩,k1⟩:=KC src.decls {} []
 obtain ⟨l1,l2,l3⟩:=qds src.rules (zX src.decls ({},[])).1
 obtain ⟨u1,u2,u3,u4,u5,u6,u7⟩:=qcw src.decls (jw src.rules (zX src.decls ({},[])).1)
 refine⟨?_,?_,?_⟩
 · show 3≤(yJ _ _).toks.length;rw[u1,l1];exact k1
 · show (yJ _ _).inner=0;rw[u7,l2];exact a4
 · show (yJ _ _).nons=[];rw[u6,l3];exact a3
theorem qeT (src:Source):MInv (jJ src)∧HdP (JI src) (jJ src):=by
 obtain ⟨h1,h2,h3⟩:=qfz src
 have hl:=jK (ZE src) (VX src).lefts 0
 rw[Jd]
 refine⟨qaF _ _ ⟨h1,by dsimp only;omega,fun p hp=>?_,fun p hp s hs=>?_,fun p hp=>?_⟩,qa6 _ _ _ ⟨[],rfl⟩⟩<;>(dsimp only at hp;rw[List.mem_singleton]at hp;subst hp)
 · unfold JI;dsimp only;omega
 · unfold JI at hs;dsimp only at hs ⊢;rw[List.mem_singleton]at hs;subst hs
   exact Or.inr ⟨(1+qD (ZE src) (VX src).lefts 0).toNat,o_,o_⟩
 · exact Or.inl rfl
theorem Qu (n:List UInt8): ∀(l:List Alt) (m:Mk),(zm n l m).nons=m.nons∧(zm n l m).lefts=m.lefts
 |[],m=>⟨rfl,rfl⟩
 | a::r,m=>by
   rw[xg]
   obtain ⟨h1,_,h3,_⟩:=qdN m n a
   obtain ⟨k1,k2⟩:=Qu n r (Q0 m n a)
   exact⟨k1.trans h3,k2.trans h1⟩
theorem Zi: ∀(l:List Rule) (m:Mk),(jV l m).nons=m.nons∧(jV l m).lefts=m.lefts
 |[],m=>⟨rfl,rfl⟩
 | r::l,m=>by
   rw[yA]
   obtain ⟨h1,h2⟩:=Qu r.left r.alts m
   obtain ⟨k1,k2⟩:=Zi l (zm r.left r.alts m)
   exact⟨k1.trans h1,k2.trans h2⟩
theorem qdP (m:Mk):(jY m).toks.length=m.toks.length∧(jY m).nons.length=1+m.lefts.length+m.inner.toNat∧(jY m).prods=m.prods:=by
 unfold jY
 dsimp only
 refine⟨Xf _ _ _ _ _,?_,rfl⟩
 rw[List.length_append,List.length_append,Jz,qay];rfl
theorem qeW {src:Source} (h:VU src=true):z8 src=true∧(jJ src).e=0∧ZT (jY (jJ src))=false∧yo src={toks:=(jY (jJ src)).toks,nons:=(jY (jJ src)).nons,prods:=(jY (jJ src)).prods,pro:=src.pro,tail:=src.tail}:=by
 have h:=of_decide_eq_true h
 unfold yo
 unfold ofS at *
 by_cases h1:z8 src=true
 · rw [if_pos h1]at *
   by_cases h2:(jJ src).e≠0
   · rw[if_pos h2]at h;exact absurd h h2
   · rw[if_neg h2]at *
     by_cases h3:ZT (jY (jJ src))=true
     · rw[if_pos h3]at h;cases h
     · rw[if_neg h3]at *
       exact⟨h1,by simpa using h2,by simpa using h3,rfl⟩
 · rw[if_neg h1]at h;cases h
theorem gok {src:Source} (h:VU src=true):GOk (yo src):=by
 obtain ⟨_,_,hl,he⟩:=qeW h
 obtain ⟨hi,r,hr⟩:=qeT src
 obtain ⟨n1,n2,n3⟩:=qdP (jJ src)
 unfold ZT at hl
 simp only[Bool.or_eq_false_iff,decide_eq_false_iff_not,List.any_eq_false,decide_eq_true_eq]at hl
 obtain ⟨⟨⟨l1,l2⟩,l3⟩,l4⟩:=hl
 have hinn:=hi.inn
 rw[he]
 refine⟨?_,?_,?_,?_,?_,?_,fun p hp=>?_,fun p hp=>?_,fun p hp s hs=>?_,fun p hp=>?_,?_⟩<;>dsimp only at *
 · rw[n1];exact hi.tk
 · omega
 · rw[n2];omega
 · omega
 · rw[n3,hr];simp
 · omega
 · rw[n3]at hp;have:=hi.left p hp
   exact⟨p.left.toNat,o_,o_⟩
 · have:=l4 p hp;omega
 · rw[n3]at hp;rw[n1,n2];exact hi.right p hp s hs
 · rw[n3]at hp
   rcases hi.prec p hp with h|⟨h1,h2⟩
   · exact Or.inl h
   · exact Or.inr ⟨p.prec.toNat,o_,o_⟩
 · refine⟨JI src,r,by rw[n3];exact hr,rfl,(1+qD (ZE src) (VX src).lefts 0).toNat,?_,?_⟩
   · have:=jK (ZE src) (VX src).lefts 0
     unfold JI;dsimp only
     rw[show (1001+qD (ZE src) (VX src).lefts 0:Int)=1000+((1+qD (ZE src) (VX src).lefts 0).toNat:Int) by omega]
   · have:=jK (ZE src) (VX src).lefts 0
     have:=(Zi src.rules {VX src with prods:=[JI src]}).2
     rw[← Jd]at this
     dsimp only at this
     rw[n2,this];omega

theorem Zb {x:Sym}: ∀{l:List Tok} {i:Nat},(∀(n:Nat) t,l[n]?=some t→ ¬ (t.name=x.name∧t.lit=x.lit∧i+n≠2))→QB x l i= -1
 |[],i,_=>rfl
 | t::r,i,h=>by
   unfold QB
   rw[if_neg (by have:=h 0 t rfl;simpa using this)]
   exact Zb fun n u hu=>by have:=h (n+1) u (by simpa using hu);rwa [show i+1+n=i+(n+1) by omega]
theorem Zd {x:Sym}: ∀{l:List Tok} {i n:Nat} {t:Tok},l[n]?=some t→t.name=x.name→t.lit=x.lit→i+n≠2→0≤QB x l i
 |[],i,n,t,h,_,_,_=>by simp at h
 | u ::r,i,n,t,h,h1,h2,h3=>by
   unfold QB
   split
   · omega
   · rename_i hne
     cases n with
     |zero=>simp at h;subst h;exact absurd ⟨h1,h2,o_⟩ hne
     |succ n=>exact Zd (l:=r) (i:=i+1) (n:=n) (t:=t) (by simpa using h) h1 h2 o_
theorem X6 {n:Int}: ∀{l:List Tok} {i:Nat},(∀t∈l,t.num≠n)→Kc n l i= -1
 |[],i,_=>rfl
 | t::r,i,h=>by
   unfold Kc
   rw[if_neg (h t (by simp))]
   exact X6 fun u hu=>h u (List.mem_cons_of_mem _ hu)
theorem JS {n:List UInt8}: ∀{l:List (List UInt8)} {i:Nat},n∈l→0≤qD n l i
 |[],i,h=>by simp at h
 | t ::r,i,h=>by
   unfold qD
   split
   · omega
   · rename_i hne
     rcases List.mem_cons.1 h with h|h
     · exact absurd h.symm hne
     · exact JS h
abbrev core (t:Tok):List UInt8×Bool×Int:=(t.name,t.lit,t.num)
abbrev qHy (j:Nat):List UInt8×Bool×Int:=((jl j).name,true,Ky (jl j))
abbrev qbJ:List (List UInt8×Bool×Int):=[([36,101,110,100],false,0),(qkm,false,-1),([36,117,110,107],false,-1)]
structure LInv (m:Mk) (js:List Nat):Prop where
 e:m.e=0
 toks:m.toks.map core=qbJ++js.map qHy
 nd:js.Nodup
 lt: ∀j∈js,j<4
theorem zY {j:Nat} (h:j<4):(jl j).name=[UInt8.ofNat (112+j)]∧Ky (jl j)=112+j:=by
 rcases j with _ | _ | _ | _ |j
 · exact⟨rfl,rfl⟩
 · exact⟨rfl,rfl⟩
 · exact⟨rfl,rfl⟩
 · exact⟨rfl,rfl⟩
 · omega
theorem qkc {i j:Nat} (hi:i<4) (hj:j<4) (h:(jl i).name=(jl j).name):i=j:=by
 have h1:=(zY hi).1
 have h2:=(zY hj).1
 rw[h1,h2]at h
 simp only[List.cons.injEq,and_true]at h
 have:=congrArg UInt8.toNat h
 simp at this
 omega
theorem LInv.get {m:Mk} {js:List Nat} (h:LInv m js) {n:Nat} {t:Tok} (ht:m.toks[n]?=some t):(qbJ++js.map qHy)[n]?=some (core t):=by rw[← h.toks,List.getElem?_map,ht];rfl
theorem LInv.len {m:Mk} {js:List Nat} (h:LInv m js):m.toks.length=3+js.length:=by have:=congrArg List.length h.toks;simp at this;omega
theorem LInv.tok_in {m:Mk} {js:List Nat} (h:LInv m js) {j:Nat} (hj:j∈js):0≤Yy m.toks (jl j):=by
 obtain ⟨i,hi,he⟩:=List.getElem_of_mem hj
 have hl:=h.len
 have h3:m.toks[3+i]?=some (m.toks[3+i]' o_):=ge_ o_
 have hg:=h.get h3
 rw[List.getElem?_append_right (by simp),show 3+i - qbJ.length=i by simp,List.getElem?_map,ge_ hi,he]at hg
 simp only[Option.map_some,Option.some.injEq,Prod.mk.injEq]at hg
 refine Zd (n:=2+i) (t:=m.toks[3+i]' o_) ?_ hg.1.symm ?_ o_
 · rw[List.getElem?_drop,show 1+(2+i)=3+i by omega];exact h3
 · rw[← hg.2.1]
theorem LInv.tok_out {m:Mk} {js:List Nat} (h:LInv m js) {j:Nat} (hj:j ∉ js) (hj4:j<4):Yy m.toks (jl j)= -1:=by
 refine Zb fun n t ht=>?_
 rw[List.getElem?_drop]at ht
 have hg:=h.get ht
 rintro ⟨h1,h2,h3⟩
 match n,hg with
 |0,hg=>simp at hg;rw[hg.2.1]at h2;cases h2
 |1,hg=>exact absurd rfl h3
 | n +2,hg=>
   rw[List.getElem?_append_right (by simp;omega),List.getElem?_map]at hg
   cases hq:js[1+(n+2) - qbJ.length]? with
   |none=>rw[hq]at hg;cases hg
   | some q=>
     rw[hq]at hg
     simp only[Option.map_some,Option.some.injEq,Prod.mk.injEq]at hg
     have hqm:=List.mem_of_getElem? hq
     have:=qkc (h.lt q hqm) hj4 (hg.1.trans h1)
     subst this;exact hj hqm
theorem LInv.own {m:Mk} {js:List Nat} (h:LInv m js) {j:Nat} (hj:j ∉ js) (hj4:j<4):qfY m.toks (Ky (jl j))= -1:=by
 refine X6 fun t ht e=>?_
 obtain ⟨n,hn⟩:=List.getElem?_of_mem ht
 rw[List.getElem?_drop]at hn
 have hg:=h.get hn
 rw[List.getElem?_append_right (by simp),List.getElem?_map]at hg
 cases hq:js[3+n - qbJ.length]? with
 |none=>rw[hq]at hg;cases hg
 | some q=>
   rw[hq]at hg
   simp only[Option.map_some,Option.some.injEq,Prod.mk.injEq]at hg
   have hqm:=List.mem_of_getElem? hq
   have h4:=h.lt q hqm
   have:=(zY h4).2;have:=(zY hj4).2
   have:q=j:=o_
   subst this;exact hj hqm
theorem Je (k:Int):jl k=jl ((k % 4).toNat:Nat):=by
 have h1:=Int.emod_nonneg k (show (4:Int)≠0 by omega)
 unfold jl
 rw[Int.toNat_of_nonneg h1,Int.emod_emod_of_dvd k (Int.dvd_refl 4)]
theorem LInv.put {m:Mk} {js:List Nat} (h:LInv m js) (k:Int): ∃js',LInv (yY m (jl k)).1 js'∧(∀j∈js,j∈js')∧ ∀j∈js',j∈js∨j=(k % 4).toNat:=by
 have h1:=Int.emod_nonneg k (show (4:Int)≠0 by omega)
 have h2:=Int.emod_lt_of_pos k (show (0:Int)<4 by omega)
 rw[Je k]
 obtain ⟨j,hj⟩: ∃j:Nat,(k % 4).toNat=j:=⟨_,rfl⟩
 have hj4:j<4:=o_
 rw[hj]
 unfold yY
 by_cases hm:j∈js
 · rw[if_pos (h.tok_in hm)]
   exact⟨js,h,fun _ a=>a,fun _ a=>Or.inl a⟩
 · rw[if_neg (by rw[h.tok_out hm hj4];omega)]
   dsimp only
   rw[if_neg (by rw[h.own hm hj4];rintro ⟨_,e⟩;omega)]
   refine⟨js++[j],⟨h.e,?_,?_,fun q hq=>?_⟩,fun q hq=>List.mem_append_left _ hq,fun q hq=>?_⟩
   · dsimp only;rw[List.map_append,h.toks,List.map_append,List.append_assoc];rfl
   · rw[List.nodup_append]
     exact⟨h.nd,by simp,fun a ha b hb e=>by rw[List.mem_singleton]at hb;subst hb;subst e;exact hm ha⟩
   · rcases List.mem_append.1 hq with hq|hq
     · exact h.lt q hq
     · rw[List.mem_singleton]at hq;subst hq;exact hj4
   · rcases List.mem_append.1 hq with hq|hq
     · exact Or.inl hq
     · rw[List.mem_singleton]at hq;exact Or.inr hq
theorem LInv.err {m:Mk} {js:List Nat} (h:LInv m js):0≤Yy m.toks {name:=qkm}:=by
 have hl:=h.len
 have h1:m.toks[1]?=some (m.toks[1]' o_):=ge_ o_
 have hg:=h.get h1
 simp at hg
 refine Zd (n:=0) (t:=m.toks[1]' o_) ?_ hg.1.symm (by rw[hg.2.1]) o_
 rw[List.getElem?_drop];exact h1
theorem LInv.non {m:Mk} {js:List Nat} (h:LInv m js) {k:Nat} (hk:k<4):Yy m.toks {name:=Xq k}= -1:=by
 refine Zb fun n t ht=>?_
 rw[List.getElem?_drop]at ht
 have hg:=h.get ht
 rintro ⟨h1,h2,h3⟩
 match n,hg with
 | 0,hg=>
   simp at hg
   rw[← hg.1]at h1
   have:=congrArg List.length h1
   simp[qkm]at this
 |1,hg=>exact absurd rfl h3
 | n +2,hg=>
   rw[List.getElem?_append_right (by simp;omega),List.getElem?_map]at hg
   cases hq:js[1+(n+2) - qbJ.length]? with
   |none=>rw[hq]at hg;cases hg
   | some q=>
     rw[hq]at hg
     simp only[Option.map_some,Option.some.injEq,Prod.mk.injEq]at hg
     rw[← hg.2.1]at h2;cases h2
theorem qdE {m:Mk} {js:List Nat} (h:LInv m js) (t:Int) (k:Tok) (hk:core k=core (Z0 m t)) (ht:0≤t∧t<m.toks.length):LInv (vz m t k) js:=by
 refine⟨h.e,?_,h.nd,h.lt⟩
 rw[← h.toks]
 show (m.toks.set t.toNat k).map core=_
 rw[List.map_set,hk]
 refine List.ext_getElem? fun i=>?_
 rw[List.getElem?_set]
 by_cases e:t.toNat=i
 · subst e
   have hlt:t.toNat<m.toks.length:=o_
   rw[if_pos rfl,if_pos (by simpa using hlt),List.getElem?_map]
   unfold Z0
   rw[List.getD_eq_getElem?_getD,ge_ hlt];rfl
 · rw[if_neg e]
theorem qdz {m:Mk} {js:List Nat} (h:LInv m js) (d:Decl) {i:Nat} (hi:i<4) (hj:i ∉ js) (hk:2≤d.kind∧d.kind≤4) (ht:d.tag=[]):LInv (xB m d (jl i)) (js++[i]):=by
 have hl:=h.len
 have hp:yY m (jl i)=({m with toks:=m.toks++[{name:=(jl i).name,lit:=true,num:=Ky (jl i)}],given:=m.given++[true]},(m.toks.length:Int)):=by
  unfold yY
  rw[if_neg (by rw[h.tok_out hj hi];omega)]
  dsimp only
  rw[if_neg (by rw[h.own hj hi];rintro ⟨_,e⟩;omega)]
 have h1:LInv (yY m (jl i)).1 (js++[i]):=by
  rw[hp]
  refine⟨h.e,?_,?_,fun q hq=>?_⟩
  · dsimp only;rw[List.map_append,h.toks,List.map_append,List.append_assoc];rfl
  · rw[List.nodup_append]
    exact⟨h.nd,by simp,fun a ha b hb e=>by rw[List.mem_singleton]at hb;subst hb;subst e;exact hj ha⟩
  · rcases List.mem_append.1 hq with hq|hq
    · exact h.lt q hq
    · rw[List.mem_singleton]at hq;subst hq;exact hi
 unfold xB
 rw[if_neg o_]
 dsimp only
 have hlast:Z0 (yY m (jl i)).1 (yY m (jl i)).2={name:=(jl i).name,lit:=true,num:=Ky (jl i)}:=by
  rw[hp];unfold Z0;dsimp only;rw[List.getD_eq_getElem?_getD,Int.toNat_natCast,List.getElem?_append_right (Nat.le_refl _)];simp
 have hr:0≤(yY m (jl i)).2∧(yY m (jl i)).2<(yY m (jl i)).1.toks.length:=by rw[hp];simp;omega
 generalize yY m (jl i)=q at *
 have hA:LInv (jq q.1 d.kind (jl i) q.2) (js++[i]):=by
  unfold jq
  rw[if_neg o_,hlast]
  dsimp only
  rw[if_neg o_]
  exact qdE h1 _ _ (by rw[hlast]) hr
 have hB:zP (jq q.1 d.kind (jl i) q.2) (jl i) q.2=jq q.1 d.kind (jl i) q.2:=by unfold zP;rw[if_neg (by show ¬ (0:Int)<0;decide)]
 have hC: ∀M,xP M d.tag (jl i) q.2=M:=fun M=>by unfold xP;rw[if_neg (by simp[ht])]
 rw[hB,hC]
 exact hA
theorem Vj (d:Decl) (hk:2≤d.kind∧d.kind≤4) (ht:d.tag=[]): ∀(is:List Nat) (m:Mk) (js:List Nat) (st:List UInt8),LInv m js→(js++is).Nodup→(∀i∈is,i<4)→LInv (zu d (is.map fun i:Nat=>jl i) (m,st)).1 (js++is)∧(zu d (is.map fun i:Nat=>jl i) (m,st)).2=st
 |[],m,js,st,h,_,_=>by rw[List.append_nil];exact⟨h,rfl⟩
 | i::r,m,js,st,h,hn,hl=>by
   rw[List.map_cons,Zu,if_pos o_]
   have e:js++i::r=js++[i]++r:=by simp
   rw[e]at hn ⊢
   have hni:i ∉ js:=fun hm=>by
    rw[List.nodup_append]at hn
    have:=hn.1
    rw[List.nodup_append]at this
    exact this.2.2 i hm i (by simp) rfl
   exact Vj d hk ht r _ _ st (qdz h d (hl i (by simp)) hni hk ht) hn (fun q hq=>hl q (List.mem_cons_of_mem _ hq))
def Xn (d:Decl) (is:List Nat):Prop:=(2≤d.kind∧d.kind≤4)∧d.tag=[]∧d.syms=(is.map fun i:Nat=>jl i)∧is≠[]
theorem LInv.level {m:Mk} {js:List Nat} (h:LInv m js) (n:Int):LInv {m with level:=n} js:=⟨h.e,h.toks,h.nd,h.lt⟩
theorem VF: ∀(ds:List Decl) (iss:List (List Nat)) (m:Mk) (js:List Nat) (st:List UInt8),LInv m js→ds.length=iss.length→(∀(k:Nat) d is,ds[k]?=some d→iss[k]?=some is→Xn d is)→(js++iss.flatten).Nodup→(∀i∈iss.flatten,i<4)→LInv (zX ds (m,st)).1 (js++iss.flatten)∧(zX ds (m,st)).2=st
 |[],[],m,js,st,h,_,_,_,_=>by simp;exact⟨h,rfl⟩
 |[],_::_,m,js,st,h,hl,_,_,_=>by simp at hl
 | _::_,[],m,js,st,h,hl,_,_,_=>by simp at hl
 | d::r,is::t,m,js,st,h,hl,hd,hn,hlt=>by
   obtain ⟨hk,ht,hs,_⟩:=hd 0 d is rfl rfl
   rw[List.flatten_cons,← List.append_assoc]at hn ⊢
   rw[List.flatten_cons]at hlt
   rw[Zq,if_pos hk,hs]
   have hn1:(js++is).Nodup:=by rw[List.nodup_append]at hn;exact hn.1
   obtain ⟨h1,h2⟩:=Vj d hk ht is {m with level:=m.level+1} js st (h.level _) hn1 (fun i hi=>hlt i (List.mem_append_left _ hi))
   have e:zu d (is.map fun i:Nat=>jl i) ({m with level:=m.level+1},st)=((zu d (is.map fun i:Nat=>jl i) ({m with level:=m.level+1},st)).1,st):=Prod.ext rfl h2
   rw[e]
   exact VF r t _ _ st h1 (by simpa using hl) (fun k d is a b=>hd (k+1) d is (by simpa using a) (by simpa using b)) hn (fun i hi=>hlt i (List.mem_append_right _ hi))
theorem kK (l:List Int): ∀n,n≤4→ ∃iss:List (List Nat),(zS l n).length=iss.length∧(∀(k:Nat) d is,(zS l n)[k]?=some d→iss[k]?=some is→Xn d is)∧iss.flatten.Nodup∧ ∀i∈iss.flatten,i<n:=by
 intro n
 induction n with
 |zero=>intro _;exact⟨[],rfl,fun k d is h=>by simp[zS]at h,by simp,fun i h=>by simp at h⟩
 | succ n ih =>
   intro hn
   obtain ⟨iss,h1,h2,h3,h4⟩:=ih o_
   have hx1:=Int.emod_nonneg (l.getD n 0) (show (8:Int)≠0 by omega)
   have hx2:=Int.emod_lt_of_pos (l.getD n 0) (show (0:Int)<8 by omega)
   have hnn:n ∉ iss.flatten:=fun h=>by have:=h4 n h;omega
   show ∃iss:List (List Nat),(xA n (l.getD n 0) (zS l n)).length=iss.length∧(∀(k:Nat) d is,(xA n (l.getD n 0) (zS l n))[k]?=some d→iss[k]?=some is→Xn d is)∧iss.flatten.Nodup∧ ∀i∈iss.flatten,i<n+1
   unfold xA
   split
   · exact⟨iss,h1,h2,h3,fun i hi=>by have:=h4 i hi;omega⟩
   · rename_i hq
     split
     · rename_i hc
       obtain ⟨o,d,ho⟩: ∃o d,zS l n=o++[d]:=⟨_,_,(List.dropLast_concat_getLast hc.2).symm⟩
       have hie:iss≠[]:=fun e=>by rw[e,ho]at h1;simp at h1
       obtain ⟨t,u,ht⟩: ∃t u,iss=t++[u]:=⟨_,_,(List.dropLast_concat_getLast hie).symm⟩
       have hot:o.length=t.length:=by rw[ho,ht]at h1;simpa using h1
       refine⟨t++[u++[n]],?_,fun k e is a b=>?_,?_,fun i hi=>?_⟩
       · rw[ho,kF];simp[hot]
       · rw [ho,kF]at a
         by_cases hk:k<o.length
         · rw[List.getElem?_append_left hk]at a
           rw[List.getElem?_append_left o_]at b
           exact h2 k e is (by rw[ho,List.getElem?_append_left hk];exact a) (by rw[ht,List.getElem?_append_left o_];exact b)
         · by_cases hk2:k=o.length
           · subst hk2
             rw[List.getElem?_append_right (Nat.le_refl _)]at a
             rw[hot,List.getElem?_append_right (Nat.le_refl _)]at b
             simp at a b
             subst a b
             obtain ⟨q1,q2,q3,q4⟩:=h2 o.length d u (by rw[ho];simp) (by rw[ht,hot];simp)
             exact⟨q1,q2,by dsimp only;rw[q3,List.map_append];rfl,by simp⟩
           · rw[List.getElem?_eq_none (by simp;omega)]at a;cases a
       · rw[ht]at h3 hnn
         simp only[List.flatten_append,List.flatten_cons,List.flatten_nil,List.append_nil,← List.append_assoc]at h3 hnn ⊢
         rw[List.nodup_append]
         exact⟨h3,by simp,fun a ha b hb e=>by rw[List.mem_singleton]at hb;subst hb;subst e;exact hnn ha⟩
       · simp only[List.flatten_append,List.flatten_cons,List.flatten_nil,List.append_nil,← List.append_assoc]at hi
         rcases List.mem_append.1 hi with hi|hi
         · have hlt:=h4 i (by rw[ht];simpa using hi)
           omega
         · rw[List.mem_singleton]at hi;omega
     · refine⟨iss++[[n]],by simp[h1],fun k e is a b=>?_,?_,fun i hi=>?_⟩
       · by_cases hk:k<(zS l n).length
         · rw[List.getElem?_append_left hk]at a
           rw[List.getElem?_append_left o_]at b
           exact h2 k e is a b
         · by_cases hk2:k=(zS l n).length
           · subst hk2
             rw[List.getElem?_append_right (Nat.le_refl _)]at a
             rw[h1,List.getElem?_append_right (Nat.le_refl _)]at b
             simp only[Nat.sub_self,List.getElem?_cons_zero,Option.some.injEq]at a b
             subst a b
             have hb:2≤1+l.getD n 0 % 8 % 4∧1+l.getD n 0 % 8 % 4≤4:=o_
             exact⟨hb,rfl,rfl,by simp⟩
           · rw[List.getElem?_eq_none (by simp;omega)]at a;cases a
       · rw[List.flatten_append]
         simp only[List.flatten_cons,List.flatten_nil,List.append_nil]
         rw[List.nodup_append]
         exact⟨h3,by simp,fun a ha b hb e=>by rw[List.mem_singleton]at hb;subst hb;subst e;exact hnn ha⟩
       · rw[List.flatten_append]at hi
         rcases List.mem_append.1 hi with hi|hi
         · have:=h4 i hi;omega
         · simp at hi;omega

def Ym (lefts:List (List UInt8)) (x:Sym):Prop:=(∃k:Int,x=jl k)∨(x.lit=false∧x.name∈lefts)∨x={name:=qkm}
theorem qcz {m:Mk} {js:List Nat} {x:Sym} (h:LInv m js) (hx:Ym m.lefts x): ∃js',LInv (jW m x).1 js':=by
 rcases hx with ⟨k,rfl⟩|⟨h1,h2⟩|rfl
 · obtain ⟨js',h',_⟩:=h.put k
   exact⟨js',by unfold jW;rw[if_pos rfl];exact h'⟩
 · exact⟨js,by unfold jW;rw[if_neg (by simp[h1]),if_pos (JS h2)];exact h⟩
 · refine⟨js,?_⟩
   unfold jW
   rw[if_neg (by simp)]
   split
   · exact h
   · rw[if_neg (by have:=h.err;omega)];exact h
def yx:List Part→Nat
 |[]=>0
 |w::r=>(if w.code≠[]∧r≠[]then 1 else 0)+yx r
theorem Zh: ∀(l:List Part) (m:Mk) (js:List Nat) (p:GPr),LInv m js→(∀w∈l,w.code≠[]∨Ym m.lefts w.sym)→(∀q∈m.prods,q.right.length≤8)→
 (∃js',LInv (zl l (m,p)).1 js')∧(zl l (m,p)).1.inner≤m.inner+yx l∧(zl l (m,p)).1.prods.length≤m.prods.length+yx l∧ ∀q∈(zl l (m,p)).1.prods,q.right.length≤8
 |[],m,js,p,h,_,hq=>by rw[Qz];exact⟨⟨js,h⟩,by simp[yx],by simp[yx],hq⟩
 | w :: r,m,js,p,h,hg,hq=>by
   rw[x9]
   obtain ⟨y1,y2,y3,y4,y5,y6,y7,y8⟩:=kr m w.sym
   unfold yx
   by_cases hc:w.code=[]
   · rw[if_pos hc,if_neg (fun e=>e.1 hc)]
     obtain ⟨js1,h1⟩:=qcz h ((hg w (by simp)).resolve_left (fun e=>e hc))
     obtain ⟨k1,k2,k3,k4⟩:=Zh r (jW m w.sym).1 js1 {p with right:=p.right++[(jW m w.sym).2]} h1 (fun u hu=>by rw[y2];exact hg u (List.mem_cons_of_mem _ hu)) (by rw[y3];exact hq)
     exact⟨k1,o_,by rw[y3]at k3;omega,k4⟩
   · rw [if_neg hc]
     by_cases hr:r=[]
     · rw[if_pos hr];exact⟨⟨js,h⟩,by dsimp only;omega,by dsimp only;omega,hq⟩
     · rw[if_neg hr,if_pos ⟨hc,hr⟩]
       obtain ⟨k1,k2,k3,k4⟩:=Zh r {m with inner:=m.inner+1,prods:=m.prods++[{left:=m.lefts.length+(m.inner+1),prec:= -1,code:=w.code,args:=p.right,at_:=w.at_}]} js {p with right:=p.right++[1000+m.lefts.length+(m.inner+1)]} ⟨h.e,h.toks,h.nd,h.lt⟩ (fun u hu=>hg u (List.mem_cons_of_mem _ hu)) (fun q hq2=>by
        dsimp only at hq2
        rcases List.mem_append.1 hq2 with hq2|hq2
        · exact hq q hq2
        · rw[List.mem_singleton]at hq2;subst hq2;simp)
       dsimp only at k2 k3
       rw[List.length_append]at k3
       exact⟨k1,o_,by simp at k3;omega,k4⟩
def Xl (lefts:List (List UInt8)) (a:Alt):Prop:=(∀w∈a.parts,w.code≠[]∨Ym lefts w.sym)∧a.prec={}∧yx a.parts≤1∧a.parts.length≤6
theorem qcs {m:Mk} {js:List Nat} (n:List UInt8) {a:Alt} (h:LInv m js) (ha:Xl m.lefts a) (hq: ∀q∈m.prods,q.right.length≤8):
 (∃js',LInv (Q0 m n a) js')∧(Q0 m n a).inner≤m.inner+1∧(Q0 m n a).prods.length≤m.prods.length+2∧(∀q∈(Q0 m n a).prods,q.right.length≤8):=by
 obtain ⟨h1,h2,h3,h4⟩:=ha
 obtain ⟨⟨js',k1⟩,k2,k3,k4⟩:=Zh a.parts m js {left:=1+qD n m.lefts 0,prec:= -1,at_:=a.at_} h h1 hq
 obtain ⟨g1,g2,g3,g4,g5,g6,g7,g8,g9,g10⟩:=Zr a.parts m {left:=1+qD n m.lefts 0,prec:= -1,at_:=a.at_}
 unfold Q0
 dsimp only
 generalize zl a.parts (m,{left:=1+qD n m.lefts 0,prec:= -1,at_:=a.at_})=q at *
 rw[h2]
 rw[if_neg (by simp)]
 refine⟨⟨js',k1.e,k1.toks,k1.nd,k1.lt⟩,by dsimp only;omega,by dsimp only;rw[List.length_append];simp;omega,fun p hp=>?_⟩
 dsimp only at hp
 rcases List.mem_append.1 hp with hp|hp
 · exact k4 p hp
 · rw[List.mem_singleton]at hp;subst hp;simp at g8 ⊢;omega
theorem Xc (n:List UInt8): ∀(l:List Alt) (m:Mk) (js:List Nat),LInv m js→(∀a∈l,Xl m.lefts a)→(∀q∈m.prods,q.right.length≤8)→
 (∃js',LInv (zm n l m) js')∧(zm n l m).inner≤m.inner+l.length∧(zm n l m).prods.length≤m.prods.length+2 *l.length∧(∀q∈(zm n l m).prods,q.right.length≤8)
 |[],m,js,h,_,hq=>by rw[XP];exact⟨⟨js,h⟩,by simp,by simp,hq⟩
 | a::r,m,js,h,ha,hq=>by
   rw[xg]
   obtain ⟨⟨js1,h1⟩,h2,h3,h4⟩:=qcs n h (ha a (by simp)) hq
   obtain ⟨k1,k2,k3,k4⟩:=Xc n r (Q0 m n a) js1 h1 (fun b hb=>by rw[(qdN m n a).1];exact ha b (List.mem_cons_of_mem _ hb)) h4
   exact⟨k1,by rw[List.length_cons];omega,by rw[List.length_cons];omega,k4⟩
def Xt (l:List Rule):Nat:=(l.map fun r=>r.alts.length).sum
theorem XL: ∀(l:List Rule) (m:Mk) (js:List Nat),LInv m js→(∀r∈l,∀a∈r.alts,Xl m.lefts a)→(∀q∈m.prods,q.right.length≤8)→
 (∃js',LInv (jV l m) js')∧(jV l m).inner≤m.inner+Xt l∧(jV l m).prods.length≤m.prods.length+2 *Xt l∧(∀q∈(jV l m).prods,q.right.length≤8)
 |[],m,js,h,_,hq=>by rw[Kj];exact⟨⟨js,h⟩,by simp[Xt],by simp[Xt],hq⟩
 | r::l,m,js,h,ha,hq=>by
   rw[yA]
   obtain ⟨⟨js1,h1⟩,h2,h3,h4⟩:=Xc r.left r.alts m js h (ha r (by simp)) hq
   obtain ⟨k1,k2,k3,k4⟩:=XL l (zm r.left r.alts m) js1 h1 (fun q hq2 a hb=>by rw[(Qu r.left r.alts m).2];exact ha q (List.mem_cons_of_mem _ hq2) a hb) h4
   have e:Xt (r::l)=r.alts.length+Xt l:=by simp[Xt]
   exact⟨k1,by rw[e];omega,by rw[e];omega,k4⟩
theorem XZ: ∀(l:List Rule) (m:Mk) (js:List Nat),LInv m js→(∀r∈l,∃k:Nat,k<4∧r.left=Xq k)→LInv (jw l m) js∧(jw l m).lefts.length≤m.lefts.length+l.length∧(∀n∈m.lefts,n∈(jw l m).lefts)∧ ∀r∈l,r.left∈(jw l m).lefts
 |[],m,js,h,_=>by rw[Vi];exact⟨h,by simp,fun n hn=>hn,fun r hr=>by cases hr⟩
 | r ::l,m,js,h,hl=>by
   rw[Zx]
   obtain ⟨k,hk,hr⟩:=hl r (by simp)
   have hd:kD m r=m:=by unfold kD;rw[if_neg (by rw[hr,h.non hk];omega)]
   rw[hd]
   have ha:LInv (Q7 m r.left) js∧(Q7 m r.left).lefts.length≤m.lefts.length+1∧(∀n∈m.lefts,n∈(Q7 m r.left).lefts)∧r.left∈(Q7 m r.left).lefts:=by
    unfold Q7
    split
    · exact⟨⟨h.e,h.toks,h.nd,h.lt⟩,by simp,fun n hn=>List.mem_append_left _ hn,by simp⟩
    · rename_i hc
      refine⟨h,o_,fun n hn=>hn,Classical.byContradiction fun hn=>hc ?_⟩
      have: ∀(l:List (List UInt8)) (i:Nat),r.left ∉ l→qD r.left l i= -1:=by
       intro l
       induction l with
       |nil=>intro i _;rfl
       |cons t u ih=>intro i hni;unfold qD;rw[if_neg (fun e=>hni (by simp[e]))];exact ih _ (fun hm=>hni (List.mem_cons_of_mem _ hm))
      rw[this _ _ hn];omega
   obtain ⟨a1,a2,a3,a4⟩:=ha
   obtain ⟨k1,k2,k3,k4⟩:=XZ l (Q7 m r.left) js a1 (fun q hq=>hl q (List.mem_cons_of_mem _ hq))
   refine⟨k1,by rw[List.length_cons];omega,fun n hn=>k3 n (a3 n hn),fun q hq=>?_⟩
   rcases List.mem_cons.1 hq with rfl|hq
   · exact k3 _ a4
   · exact k4 q hq
theorem Xz: ∀(ds:List Decl) (m:Mk),(∀d∈ds,d.kind<5)→yJ ds m=m
 |[],m,_=>rfl
 | d::r,m,h=>by
   rw[Zg]
   have hk:=h d (by simp)
   have: ∀(l:List Sym),jD d.kind l m=m:=by
    intro l
    induction l with
    |nil=>rfl
    |cons x t ih=>rw[Qo];unfold qkk;rw[if_neg o_];exact ih
   rw[this]
   exact Xz r m (fun e he=>h e (List.mem_cons_of_mem _ he))
theorem yM: ∀(n:Nat) (l:List Nat),l.Nodup→(∀x∈l,x<n)→l.length≤n
 | 0,l,_,h=>by
   cases l with
   |nil=>simp
   |cons a r=>have:=h a (by simp);omega
 | n +1,l,hn,h=>by
   by_cases hm:n∈l
   · have h1:=yM n (l.erase n) (hn.erase n) (fun x hx=>by
      have:=h x (List.mem_of_mem_erase hx)
      have hne:x≠n:=fun e=>by subst e;exact(List.Nodup.mem_erase_iff hn).1 hx |>.1 rfl
      omega)
     rw[List.length_erase_of_mem hm]at h1
     omega
   · have h1:=yM n l hn (fun x hx=>by
      have:=h x hx
      have hne:x≠n:=fun e=>by subst e;exact hm hx
      omega)
     omega
theorem qde {src:Source} {iss:List (List Nat)} (hmay:z8 src=true) (hd1:src.decls.length=iss.length) (hd2: ∀(k:Nat) d is,src.decls[k]?=some d→iss[k]?=some is→Xn d is) (hd3:iss.flatten.Nodup) (hd4: ∀i∈iss.flatten,i<4)
 (hr1:src.rules.length≤4) (hr2: ∀r∈src.rules,∃k:Nat,k<4∧r.left=Xq k) (hr3: ∀lefts,(∀r∈src.rules,r.left∈lefts)→ ∀r∈src.rules,∀a∈r.alts,Xl lefts a) (hr4:Xt src.rules≤15):VU src=true:=by
 have h0:LInv {} []:=⟨rfl,rfl,by simp,fun j h=>by cases h⟩
 obtain ⟨d1,d2⟩:=VF src.decls iss {} [] [] h0 hd1 hd2 (by simpa using hd3) hd4
 rw[List.nil_append]at d1
 obtain ⟨l1,l2,l3,l4⟩:=XZ src.rules (zX src.decls ({},[])).1 _ d1 hr2
 have hu:VX src=jw src.rules (zX src.decls ({},[])).1:=Xz _ _ (fun d hd=>by
  obtain ⟨k,hk⟩:=List.getElem?_of_mem hd
  obtain ⟨is,hi⟩: ∃is,iss[k]?=some is:=⟨_,ge_ (by have:=(List.getElem?_eq_some_iff.1 hk).1;omega)⟩
  have:=(hd2 k d is hk hi).1
  omega)
 have hl0:(zX src.decls ({},[])).1.lefts=[]:=(KC src.decls {} []).1.1
 rw[hl0]at l2
 obtain ⟨p1,p2,p3⟩:=qfz src
 have hP:LInv {VX src with prods:=[JI src]} iss.flatten:=by
  rw[hu];exact⟨l1.e,l1.toks,l1.nd,l1.lt⟩
 obtain ⟨⟨js,k1⟩,k2,k3,k4⟩:=XL src.rules {VX src with prods:=[JI src]} _ hP (hr3 _ (by dsimp only;rw[hu];exact l4)) (fun q hq=>by
  dsimp only at hq;rw[List.mem_singleton]at hq;subst hq;simp[JI])
 rw[← Jd]at k1 k2 k3 k4
 have hn:=yM 4 js k1.nd k1.lt
 have hl:=k1.len
 obtain ⟨n1,n2,n3⟩:=qdP (jJ src)
 have hll:=(Zi src.rules {VX src with prods:=[JI src]}).2
 rw[← Jd]at hll
 dsimp only at hll k2 k3
 rw[hu]at hll
 have hlong:ZT (jY (jJ src))=false:=by
  unfold ZT
  simp only[Bool.or_eq_false_iff,decide_eq_false_iff_not,List.any_eq_false,decide_eq_true_eq]
  refine⟨⟨⟨o_,?_⟩,?_⟩,fun p hp=>?_⟩
  · rw[n2,hll];simp at l2;omega
  · rw[n3];simp at k3;omega
  · rw[n3]at hp;have:=k4 p hp;omega
 unfold VU ofS
 rw[if_pos hmay,if_neg (by simp[k1.e]),if_neg (by simp[hlong])]
 rfl

theorem Z7 (x:GrI):1≤jO x∧jO x≤4:=by unfold jO;omega
def jB (l:List Part):Nat:=(l.filter fun w=> !decide (w.code=[])).length
theorem XH (l m:List Part):jB (l++m)=jB l+jB m:=by simp[jB]
theorem VO: ∀(l:List Part),yx l≤jB l
 |[]=>Nat.le_refl _
 | w::r=>by
   have:=VO r
   have e:jB (w::r)=(if w.code=[]then 0 else 1)+jB r:=by
    unfold jB;rw[List.filter_cons];by_cases h:w.code=[]<;>simp[h];omega
   unfold yx;rw[e]
   by_cases h:w.code=[]
   · simp[h];exact this
   · rw[if_neg h];split<;>omega
theorem Jk: ∀(l:List Part) (w:Part),yx (l++[w])≤jB l
 |[],w=>by simp[yx]
 | v::r,w=>by
   have:=Jk r w
   have e:jB (v::r)=(if v.code=[]then 0 else 1)+jB r:=by
    unfold jB;rw[List.filter_cons];by_cases h:v.code=[]<;>simp[h];omega
   show (if v.code≠[]∧(r++[w])≠[]then 1 else 0)+yx (r++[w])≤_
   rw[e]
   by_cases h:v.code=[]
   · simp[h];exact this
   · rw[if_neg h];split<;>omega
theorem Kt (l:List Int) (n:Nat) (mid:Bool) (j:Nat):jB (jM l n mid j)≤1∧(jM l n mid j).length≤j+1∧(j=0→jM l n mid j=[]):=by
 induction j with
 |zero=>exact⟨by simp[jM,jB],by simp[jM],fun _=>rfl⟩
 | succ j ih=>
   obtain ⟨h1,h2,h3⟩:=ih
   unfold jM
   refine⟨?_,?_,fun h=>by omega⟩
   · rw[XH,XH]
     have e1:jB [({sym:=qeV l n (j+1)}:Part)]=0:=by simp[jB]
     rw[e1]
     by_cases hj:j=0
     · rw[h3 hj]
       split<;>simp[jB,Qe]
     · rw[if_neg (fun e=>hj e.1)]
       simp[jB]at h1 ⊢;exact h1
   · rw[List.length_append,List.length_append]
     by_cases hj:j=0
     · rw[h3 hj];split<;>simp[hj]
     · rw[if_neg (fun e=>hj e.1)];simp;exact h2
theorem XF {l:List Int} {n:Nat} {mid:Bool} {w:Part}: ∀{j:Nat},w∈jM l n mid j→(∃y:Int,w={sym:=XY y n})∨w={code:=Qe}
 |0,h=>by cases h
 | j +1,h=>by
   unfold jM at h
   rcases List.mem_append.1 h with h|h
   · rcases List.mem_append.1 h with h|h
     · exact XF h
     · rw[List.mem_singleton]at h;exact Or.inl ⟨_,h⟩
   · split at h
     · rw[List.mem_singleton]at h;exact Or.inr h
     · cases h
theorem Z9 {l inner:List Int} {n i:Nat} {w:Part} (h:w∈(KN l n inner i).parts):(∃y:Int,w={sym:=XY y n})∨w={code:=Qe}∨w={code:=Jj}:=by
 unfold KN at h
 dsimp only at h
 rcases List.mem_append.1 h with h|h
 · rcases XF h with h|h
   · exact Or.inl h
   · exact Or.inr (Or.inl h)
 · split at h
   · rw[List.mem_singleton]at h;exact Or.inr (Or.inr h)
   · cases h
theorem qdM {lefts:List (List UInt8)} {n:Nat} (hn:0<n) (hl: ∀k:Nat,k<n→Xq k∈lefts) (y:Int):Ym lefts (XY y n):=by
 have e1:=Int.emod_nonneg y (show (14:Int)≠0 by omega)
 have e3:=Int.emod_lt_of_pos (y % 14) (show (0:Int)<n by omega)
 have e4:=Int.emod_nonneg (y % 14) (show (n:Int)≠0 by omega)
 unfold XY
 split
 · have:=hl (y % 14 % n).toNat o_
   rw[Int.toNat_of_nonneg e4]at this
   exact Or.inr (Or.inl ⟨rfl,this⟩)
 · split
   · exact Or.inr (Or.inr rfl)
   · exact Or.inl ⟨_,rfl⟩
theorem JZ {lefts:List (List UInt8)} {n:Nat} (hn:0<n) (hl: ∀k:Nat,k<n→Xq k∈lefts) (l inner:List Int) (i:Nat):Xl lefts (KN l n inner i):=by
 obtain ⟨h1,h2,_⟩:=Kt l n (qbV inner i) (min 4 (l.length - 1))
 refine⟨fun w hw=>?_,rfl,?_,?_⟩
 · rcases Z9 hw with ⟨y,rfl⟩|rfl|rfl
   · exact Or.inr (qdM hn hl y)
   · exact Or.inl (by simp[Qe])
   · exact Or.inl (by simp[Jj])
 · unfold KN;dsimp only
   split
   · exact Nat.le_trans (Jk _ _) h1
   · rw[List.append_nil];exact Nat.le_trans (VO _) h1
 · unfold KN;dsimp only
   rw[List.length_append]
   split<;>simp<;>omega
theorem yt {x:GrI} {n:Nat}: ∀{i k:Nat} {a:Alt},a∈(zf x n i).1 k→ ∃l j,a=KN l n x.inner j
 |0,k,a,h=>by cases h
 | i + 1,k,a,h=>by
   unfold zf yu at h
   dsimp only at h
   split at h
   · exact yt h
   · unfold qR at h
     dsimp only at h
     split at h
     · rcases List.mem_append.1 h with h|h
       · exact yt h
       · rw[List.mem_singleton]at h;exact⟨_,_,h⟩
     · exact yt h
theorem Jc {x:GrI} {n i k:Nat} {a:Alt} (h:a∈Qw x.bare (zf x n i) k):(∃l j,a=KN l n x.inner j)∨a={parts:=[{sym:=jl k}]}:=by
 unfold Qw at h
 split at h
 · rcases List.mem_append.1 h with h|h
   · exact Or.inl (yt h)
   · rw[List.mem_singleton]at h;exact Or.inr h
 · exact Or.inl (yt h)
theorem qin (b:Bool) (q:(Nat→List Alt)×(Nat→Bool)) (k:Nat):Qw b q k≠[]:=by
 unfold Qw
 split
 · simp
 · rename_i h;exact fun e=>h (Or.inl e)
theorem qe1 {f:Nat→List Alt} {k:Nat} {v:List Alt} (hv:v.length≤(f k).length+1) (n:Nat):((List.range n).map fun q=>(qR f k v q).length).sum≤((List.range n).map fun q=>(f q).length).sum+1∧(n≤k→((List.range n).map fun q=>(qR f k v q).length).sum=((List.range n).map fun q=>(f q).length).sum):=by
 induction n with
 |zero=>simp
 | succ n ih=>
   obtain ⟨h1,h2⟩:=ih
   rw[List.range_succ,List.map_append,List.map_append,List.sum_append,List.sum_append]
   simp only[List.map_cons,List.map_nil,List.sum_cons,List.sum_nil,Nat.add_zero]
   by_cases e:n=k
   · subst e
     have:=h2 (Nat.le_refl _)
     have e3:qR f n v n=v:=by unfold qR;rw[if_pos rfl]
     rw[e3]
     exact⟨o_,fun h=>by omega⟩
   · have e3:qR f k v n=f n:=by unfold qR;rw[if_neg e]
     rw[e3]
     exact⟨o_,fun h=>by have:=h2 o_;omega⟩
theorem qbC (x:GrI) (n i:Nat):((List.range n).map fun q=>((zf x n i).1 q).length).sum≤i:=by
 induction i with
 | zero=>
   have: ∀m,((List.range m).map fun q=>((zf x n 0).1 q).length).sum=0:=fun m=>by
    induction m with
    |zero=>rfl
    |succ m ih=>rw[List.range_succ,List.map_append,List.sum_append,ih];simp[zf]
   rw[this];exact Nat.le_refl _
 | succ i ih=>
   unfold zf yu
   dsimp only
   split
   · omega
   · have:=(qe1 (f:=(zf x n i).1) (k:=((x.rules.getD i []).getD 0 0 % (n:Int)).toNat) (v:=(zf x n i).1 ((x.rules.getD i []).getD 0 0 % (n:Int)).toNat++[KN (x.rules.getD i []) n x.inner i]) (by simp) n).1
     exact Nat.le_trans this o_
theorem qet (b:Bool) (q:(Nat→List Alt)×(Nat→Bool)) (n:Nat):((List.range n).map fun k=>(Qw b q k).length).sum≤((List.range n).map fun k=>(q.1 k).length).sum+n:=by
 induction n with
 |zero=>simp
 | succ n ih=>
   rw[List.range_succ,List.map_append,List.map_append,List.sum_append,List.sum_append]
   simp only[List.map_cons,List.map_nil,List.sum_cons,List.sum_nil,Nat.add_zero]
   have:(Qw b q n).length≤(q.1 n).length+1:=by unfold Qw;split<;>simp
   omega
theorem qa9 {n:Nat} (hn:0<n) (hn4:n≤4) (y:Int):Vz (XY y n) false true=true:=by
 have e1:=Int.emod_nonneg y (show (14:Int)≠0 by omega)
 have e3:=Int.emod_lt_of_pos (y % 14) (show (0:Int)<n by omega)
 have e4:=Int.emod_nonneg (y % 14) (show (n:Int)≠0 by omega)
 have hN: ∀k:Nat,k<4→Vz {name:=Xq k} false true=true:=by decide
 have hL: ∀k:Nat,k<4→Vz (jl k) false true=true:=by decide
 unfold XY
 split
 · have:=hN (y % 14 % n).toNat o_
   rw[Int.toNat_of_nonneg e4]at this;exact this
 · split
   · decide
   · rw[Je];exact hL _ o_
theorem qdk {n:Nat} (hn:0<n) (hn4:n≤4) {l inner:List Int} {i:Nat} {w:Part} (h:w∈(KN l n inner i).parts):Zt w=true:=by
 rcases Z9 h with ⟨y,rfl⟩|rfl|rfl
 · exact qa9 hn hn4 y
 · decide
 · decide
theorem KA (x:GrI):z8 (za x)=true:=by
 obtain ⟨h1,h2⟩:=Z7 x
 obtain ⟨iss,d1,d2,d3,d4⟩:=kK x.levels (min 4 x.levels.length) o_
 have hN: ∀k:Nat,k<4→Vt (Xq k)=true:=by decide
 have hL1: ∀k:Nat,k<4→ ∀b,Vz (jl k) b true=true:=by decide
 have hd:(xw x.levels).all ZX=true:=List.all_eq_true.2 fun d hd=>by
  obtain ⟨k,hk⟩:=List.getElem?_of_mem hd
  have hki:k<iss.length:=by have h3:=(List.getElem?_eq_some_iff.1 hk).1;unfold xw at h3;omega
  obtain ⟨q1,q2,q3,q4⟩:=d2 k d iss[k] hk (ge_ hki)
  unfold ZX qgu
  have hs:d.syms.length≠0:=by rw[q3,List.length_map];exact fun e=>q4 (List.length_eq_zero_iff.1 e)
  rw[Bool.and_eq_true]
  refine⟨?_,List.all_eq_true.2 fun y hy=>?_⟩
  · have e1:decide (d.kind<1)=false:=by rw[decide_eq_false_iff_not];omega
    have e2:decide (6<d.kind)=false:=by rw[decide_eq_false_iff_not];omega
    have e3:decide ((d.syms.length:Int)=0)=false:=by rw[decide_eq_false_iff_not];omega
    have e4:decide (d.kind=6)=false:=by rw[decide_eq_false_iff_not];omega
    have e5:decide (d.kind=5)=false:=by rw[decide_eq_false_iff_not];omega
    rw[e1,e2,e3,e4,e5,q2];rfl
  · rw[q3]at hy
    obtain ⟨i,hi,rfl⟩:=List.mem_map.1 hy
    have hi4:=d4 i (List.mem_flatten.2 ⟨_,List.getElem_mem hki,hi⟩)
    have e5:decide (d.kind<5)=true:=by rw[decide_eq_true_eq];omega
    rw[e5]
    exact hL1 i o_ _
 have hr:(za x).rules.all JM=true:=List.all_eq_true.2 fun r hr=>by
  obtain ⟨k,hk,rfl⟩:=List.mem_map.1 hr
  have hkn:=List.mem_range.1 hk
  unfold JM
  rw[Bool.and_eq_true,Bool.and_eq_true]
  refine⟨⟨hN k o_,by simp[qin]⟩,List.all_eq_true.2 fun a ha=>?_⟩
  rcases Jc ha with ⟨l,j,rfl⟩|rfl
  · unfold qaO
    rw[Bool.and_eq_true]
    exact⟨List.all_eq_true.2 fun w hw=>qdk o_ o_ hw,rfl⟩
  · unfold qaO
    rw[Bool.and_eq_true]
    refine⟨?_,rfl⟩
    simp[Zt,hL1 k o_]
 have hne:(za x).rules≠[]:=fun e=>by
  have:=congrArg List.length e
  simp[za]at this;omega
 unfold z8
 rw[hr]
 have hp:(za x).pro=[]:=rfl
 have hdd:(za x).decls=xw x.levels:=rfl
 rw[hp,hdd,hd]
 simp[hne,qfR]
theorem XI (x:GrI):VU (za x)=true:=by
 obtain ⟨h1,h2⟩:=Z7 x
 obtain ⟨iss,d1,d2,d3,d4⟩:=kK x.levels (min 4 x.levels.length) o_
 refine qde (iss:=iss) (KA x) d1 d2 d3 (fun i hi=>by have:=d4 i hi;omega) (by simp[za];exact h2) (fun r hr=>?_) (fun lefts hl r hr a ha=>?_) ?_
 · obtain ⟨k,hk,rfl⟩:=List.mem_map.1 hr
   have:=List.mem_range.1 hk
   exact⟨k,o_,rfl⟩
 · have hll: ∀k:Nat,k<jO x→Xq k∈lefts:=fun k hk=>hl {left:=Xq k,alts:=Qw x.bare (zf x (jO x) (min 9 x.rules.length)) k} (List.mem_map.2 ⟨k,List.mem_range.2 hk,rfl⟩)
   obtain ⟨k,hk,rfl⟩:=List.mem_map.1 hr
   rcases Jc ha with ⟨l,j,rfl⟩|rfl
   · exact JZ o_ hll l x.inner j
   · exact⟨fun w hw=>by rw[List.mem_singleton]at hw;subst hw;exact Or.inr (Or.inl ⟨_,rfl⟩),rfl,by simp[yx],by simp⟩
 · have e:Xt (za x).rules=((List.range (jO x)).map fun k=>(Qw x.bare (zf x (jO x) (min 9 x.rules.length)) k).length).sum:=by
    unfold Xt za;dsimp only;rw[List.map_map];rfl
   have:=qet x.bare (zf x (jO x) (min 9 x.rules.length)) (jO x)
   have:=qbC x (jO x) (min 9 x.rules.length)
   omega
theorem Zl: ∀{iss:List (List Nat)},iss.flatten.Nodup→ ∀is∈iss,is.Nodup
 |[],_,is,h=>by cases h
 | a::r,hn,is,h=>by
   rw[List.flatten_cons,List.nodup_append]at hn
   rcases List.mem_cons.1 h with rfl|h
   · exact hn.1
   · exact Zl hn.2.1 is h
theorem ZA (x:GrI):(za x).Fits:=by
 obtain ⟨h1,h2⟩:=Z7 x
 obtain ⟨iss,d1,d2,d3,d4⟩:=kK x.levels (min 4 x.levels.length) o_
 have hlen:(xw x.levels).length≤4:=by
  have h5:iss.length≤iss.flatten.length:=by
   have hne: ∀is∈iss,is≠[]:=fun is hi=>by
    obtain ⟨k,hk⟩:=List.getElem?_of_mem hi
    obtain ⟨d,hd⟩: ∃d,(zS x.levels (min 4 x.levels.length))[k]?=some d:=⟨_,ge_ (by have:=(List.getElem?_eq_some_iff.1 hk).1;omega)⟩
    exact(d2 k d is hd hk).2.2.2
   clear d1 d2 d3 d4
   induction iss with
   |nil=>simp
   | cons a r ih=>
     have:=ih fun is hi=>hne is (List.mem_cons_of_mem _ hi)
     have ha:=List.length_pos_iff.2 (hne a (by simp))
     rw[List.flatten_cons,List.length_append,List.length_cons];omega
  have h6:=yM (min 4 x.levels.length) _ d3 d4
  show (zS x.levels (min 4 x.levels.length)).length≤4
  omega
 refine⟨by simp[za],by simp[za],by show (xw x.levels).length≤_;omega,fun d hd=>?_,by simp[za];omega,fun r hr=>?_⟩
 · obtain ⟨k,hk⟩:=List.getElem?_of_mem hd
   have hki:k<iss.length:=by have h3:=(List.getElem?_eq_some_iff.1 hk).1;unfold za xw at h3;dsimp only at h3;omega
   obtain ⟨q1,q2,q3,q4⟩:=d2 k d iss[k] hk (ge_ hki)
   have h6:iss[k].length≤4:=yM 4 _ (Zl d3 _ (List.getElem_mem hki)) (fun i hi=>by have:=d4 i (List.mem_flatten.2 ⟨_,List.getElem_mem hki,hi⟩);omega)
   refine⟨by simp[q2],by rw[q3,List.length_map];omega,fun y hy=>?_⟩
   rw[q3]at hy
   obtain ⟨i,hi,rfl⟩:=List.mem_map.1 hy
   have hi4:=d4 i (List.mem_flatten.2 ⟨_,List.getElem_mem hki,hi⟩)
   rw[(zY (show i<4 by omega)).1];simp
 · obtain ⟨k,hk,rfl⟩:=List.mem_map.1 hr
   have hkn:=List.mem_range.1 hk
   have hfl:(Qw x.bare (zf x (jO x) (min 9 x.rules.length)) k).length≤20:=by
    have:=kJ x (jO x) (min 9 x.rules.length) k
    unfold Qw;split<;>simp<;>omega
   have hsn: ∀y:Int,(XY y (jO x)).name.length≤5:=fun y=>by
    have hg:=qa9 (n:=jO x) o_ o_ y
    unfold XY
    split
    · simp
    · split
      · simp
      · rw[Je,(zY (show ((y % 14 - 5) % 4).toNat<4 by omega)).1];simp
   refine⟨by simp,by dsimp only;omega,fun a ha=>?_⟩
   rcases Jc ha with ⟨l,j,rfl⟩|rfl
   · obtain ⟨_,_,_,g4⟩:=JZ (lefts:=(List.range (jO x)).map fun k:Nat=>Xq k) (n:=jO x) o_ (fun k hk=>List.mem_map.2 ⟨k,List.mem_range.2 hk,rfl⟩) l x.inner j
     refine⟨o_,fun w hw=>?_,by simp[KN]⟩
     rcases Z9 hw with ⟨y,rfl⟩|rfl|rfl
     · exact⟨by have:=hsn y;dsimp only;omega,by simp⟩
     · exact⟨by simp,by simp[Qe]⟩
     · exact⟨by simp,by simp[Jj]⟩
   · refine⟨by simp,fun w hw=>?_,by simp⟩
     rw[List.mem_singleton]at hw;subst hw
     rw[Part.Fits,(zY (show k<4 by omega)).1];simp
theorem YN (x:GrI):Small (za x):=by
 obtain ⟨h1,h2⟩:=Z7 x
 obtain ⟨f1,f2,f3,f4,f5,f6⟩:=ZA x
 obtain ⟨iss,d1,d2,d3,d4⟩:=kK x.levels (min 4 x.levels.length) o_
 have hd: ∀d∈(za x).decls,∃is:List Nat,Xn d is∧is.length≤4∧ ∀i∈is,i<4:=fun d hd=>by
  obtain ⟨k,hk⟩:=List.getElem?_of_mem hd
  have hki:k<iss.length:=by have h3:=(List.getElem?_eq_some_iff.1 hk).1;unfold za xw at h3;dsimp only at h3;omega
  have hi4: ∀i∈iss[k],i<4:=fun i hi=>by have:=d4 i (List.mem_flatten.2 ⟨_,List.getElem_mem hki,hi⟩);omega
  exact⟨iss[k],d2 k d iss[k] hk (ge_ hki),yM 4 _ (Zl d3 _ (List.getElem_mem hki)) hi4,hi4⟩
 have hlen:(za x).decls.length≤4:=by
  have h5:iss.length≤iss.flatten.length:=by
   have hne: ∀is∈iss,is≠[]:=fun is hi=>by
    obtain ⟨k,hk⟩:=List.getElem?_of_mem hi
    obtain ⟨d,hd⟩: ∃d,(zS x.levels (min 4 x.levels.length))[k]?=some d:=⟨_,ge_ (by have:=(List.getElem?_eq_some_iff.1 hk).1;omega)⟩
    exact(d2 k d is hd hk).2.2.2
   clear d1 d2 d3 d4
   induction iss with
   |nil=>simp
   | cons a r ih=>
     have:=ih fun is hi=>hne is (List.mem_cons_of_mem _ hi)
     have ha:=List.length_pos_iff.2 (hne a (by simp))
     rw[List.flatten_cons,List.length_append,List.length_cons];omega
  have h6:=yM (min 4 x.levels.length) _ d3 d4
  show (zS x.levels (min 4 x.levels.length)).length≤4
  omega
 have hsn: ∀y:Int,(XY y (jO x)).lit=true→(XY y (jO x)).name≠[]:=fun y=>by
  unfold XY
  split
  · intro e;cases e
  · split
    · intro e;cases e
    · intro _;rw[Je,(zY (show ((y % 14 - 5) % 4).toNat<4 by omega)).1];simp
 have ha: ∀r∈(za x).rules,r.alts.length≤20∧ ∀a∈r.alts,a.parts.length≤6∧a.prec={}∧ ∀w∈a.parts,w.sym.lit=true→w.sym.name≠[]:=fun r hr=>by
  obtain ⟨k,hk,rfl⟩:=List.mem_map.1 hr
  have hkn:=List.mem_range.1 hk
  refine⟨?_,fun a ha=>?_⟩
  · have:=kJ x (jO x) (min 9 x.rules.length) k
    dsimp only
    unfold Qw;split<;>simp<;>omega
  · rcases Jc ha with ⟨l,j,rfl⟩|rfl
    · obtain ⟨_,g2,_,g4⟩:=JZ (lefts:=(List.range (jO x)).map fun k:Nat=>Xq k) (n:=jO x) o_ (fun k hk=>List.mem_map.2 ⟨k,List.mem_range.2 hk,rfl⟩) l x.inner j
      refine⟨g4,g2,fun w hw=>?_⟩
      rcases Z9 hw with ⟨y,rfl⟩|rfl|rfl
      · exact hsn y
      · intro e;cases e
      · intro e;cases e
    · refine⟨by simp,rfl,fun w hw _=>?_⟩
      rw[List.mem_singleton]at hw;subst hw
      rw[(zY (show k<4 by omega)).1];simp
 refine⟨o_,fun d h=>?_,fun d h=>?_,fun d h y hy _=>?_,?_,fun r hr=>?_,fun r hr a h=>?_,fun r hr a h w hw=>?_,fun r hr a h e=>?_⟩
 · obtain ⟨is,⟨q1,q2,q3,q4⟩,h5,h6⟩:=hd d h
   rw[q3,List.length_map];omega
 · obtain ⟨is,⟨q1,q2,q3,q4⟩,h5,h6⟩:=hd d h
   omega
 · obtain ⟨is,⟨q1,q2,q3,q4⟩,h5,h6⟩:=hd d h
   rw[q3]at hy
   obtain ⟨i,hi,rfl⟩:=List.mem_map.1 hy
   rw[(zY (h6 i hi)).1];simp
 · simp[za];omega
 · have:=(ha r hr).1;omega
 · have:=((ha r hr).2 a h).1;omega
 · exact((ha r hr).2 a h).2.2 w hw
 · rw[((ha r hr).2 a h).2.1]at e;cases e

set_option maxHeartbeats 1000000
def TkL (L:Nat) (t:Tok):Prop:=(t.lit=true→t.name≠[])∧t.name.length≤L
def SyL (L:Nat) (x:Sym):Prop:=(x.lit=true→x.name≠[])∧x.name.length≤L
def xD (L:Nat) (m:Mk):Prop:=(∀t∈m.toks,TkL L t)∧ ∀n∈m.lefts,n.length≤L
structure SrcL (L:Nat) (s:Source):Prop where
 dx: ∀d∈s.decls,∀y∈d.syms,y.name.length≤L
 rl: ∀r∈s.rules,r.left.length≤L
 rx: ∀r∈s.rules,∀a∈r.alts,∀w∈a.parts,w.sym.name.length≤L
 rq: ∀r∈s.rules,∀a∈r.alts,a.prec.name.length≤L
variable {L : Nat}
theorem TkL.zero:TkL L {}:=⟨(fun h=>by cases h),by simp⟩
theorem xO {m:Mk} {a:Int} {n:List UInt8} (h:xD L m):xD L (ze m a n):=by unfold ze;split<;>exact h
theorem qdt {m:Mk} {t:Int} {k:Tok} (h:xD L m) (hk:TkL L k):xD L (vz m t k):=⟨fun x hx=>by
 rcases List.mem_or_eq_of_mem_set hx with hx|rfl
 · exact h.1 x hx
 · exact hk,h.2⟩
theorem qgt {l:List Tok} (h: ∀t∈l,TkL L t) (i:Nat):TkL L (l.getD i {}):=by
 rw[List.getD_eq_getElem?_getD]
 cases hi:l[i]? with
 |none=>exact .zero
 |some x=>exact h x (List.mem_of_getElem? hi)
theorem qcj {m:Mk} (h:xD L m) (t:Int):TkL L (Z0 m t):=qgt h.1 _
theorem qfD {m:Mk} {x:Sym} (h:xD L m) (hx:SyL L x):xD L (yY m x).1:=by
 unfold yY
 split
 · exact h
 · dsimp only
   have key: ∀m1:Mk,xD L m1→ ∀gv,xD L {m1 with toks:=m.toks++[{name:=x.name,lit:=x.lit,num:=Ky x}],given:=gv}:=fun m1 h1 gv=>⟨fun t ht=>by
    rcases List.mem_append.1 ht with ht|ht
    · exact h.1 t ht
    · rw[List.mem_singleton]at ht;subst ht;exact hx,h1.2⟩
   split
   · exact key _ (xO h) _
   · exact key _ h _
theorem qh2 {m:Mk} {k:Int} {x:Sym} {t:Int} (h:xD L m):xD L (jq m k x t):=by
 unfold jq
 split
 · exact h
 · dsimp only
   refine qdt ?_ (qcj h t)
   split
   · exact xO h
   · exact h
theorem qez {m:Mk} {x:Sym} {t:Int} (h:xD L m):xD L (zP m x t):=by
 unfold zP
 split
 · dsimp only
   have key: ∀m2,xD L m2→xD L {vz m2 t {Z0 m t with num:=x.num} with given:=m.given.set t.toNat true}:=fun m2 h2=>qdt h2 (qcj h t)
   split
   · exact key _ (xO h)
   · exact key _ h
 · exact h
theorem qjT {m:Mk} {tag:List UInt8} {x:Sym} {t:Int} (h:xD L m):xD L (xP m tag x t):=by
 unfold xP
 split
 · dsimp only
   refine qdt ?_ (qcj h t)
   split
   · exact xO h
   · exact h
 · exact h
theorem qhN {m:Mk} {d:Decl} {x:Sym} (h:xD L m) (hx:SyL L x):xD L (xB m d x):=by
 unfold xB
 split
 · dsimp only
   split
   · exact h
   · split
     · exact xO h
     · exact h
 · exact qjT (qez (qh2 (qfD h hx)))
theorem qgU {m:Mk} {x:Sym} (h:xD L m) (hx:SyL L x):xD L (jW m x).1:=by
 unfold jW
 split
 · exact qfD h hx
 · split
   · exact h
   · split
     · exact xO h
     · exact h
theorem K8: ∀(l:List Part) (m:Mk) (p:GPr),xD L m→(∀w∈l,SyL L w.sym)→xD L (zl l (m,p)).1
 |[],m,p,h,_=>h
 | w ::r,m,p,h,hl=>by
   rw[zl]
   split
   · exact K8 r _ _ (qgU h (hl w (by simp))) (fun w hw=>hl w (List.mem_cons_of_mem _ hw))
   · split
     · exact h
     · exact K8 r _ _ h (fun w hw=>hl w (List.mem_cons_of_mem _ hw))
theorem quE {m:Mk} {n:List UInt8} {a:Alt} (h:xD L m) (ha: ∀w∈a.parts,SyL L w.sym) (hq:SyL L a.prec):xD L (Q0 m n a):=by
 have h1:=K8 a.parts m {left:=1+qD n m.lefts 0,prec:= -1,at_:=a.at_} h ha
 unfold Q0
 dsimp only
 generalize zl a.parts (m,{left:=1+qD n m.lefts 0,prec:= -1,at_:=a.at_})=q at *
 split
 · split
   · exact qgU h1 hq
   · exact xO h1
 · exact h1
theorem qba (n:List UInt8): ∀(l:List Alt) (m:Mk),xD L m→(∀a∈l,(∀w∈a.parts,SyL L w.sym)∧SyL L a.prec)→xD L (zm n l m)
 |[],m,h,_=>h
 |a::r,m,h,hl=>qba n r _ (quE h (hl a (by simp)).1 (hl a (by simp)).2) (fun a ha=>hl a (List.mem_cons_of_mem _ ha))
theorem qb3: ∀(l:List Rule) (m:Mk),xD L m→(∀r∈l,∀a∈r.alts,(∀w∈a.parts,SyL L w.sym)∧SyL L a.prec)→xD L (jV l m)
 |[],m,h,_=>h
 |r::l,m,h,hl=>qb3 l _ (qba r.left r.alts m h (hl r (by simp))) (fun a ha=>hl a (List.mem_cons_of_mem _ ha))
theorem Y1 (d:Decl): ∀(l:List Sym) (m:Mk) (st:List UInt8),xD L m→(∀x∈l,SyL L x)→xD L (zu d l (m,st)).1
 |[],m,st,h,_=>h
 | x ::r,m,st,h,hl=>by
   rw[zu]
   split
   · exact Y1 d r _ _ (qhN h (hl x (by simp))) (fun w hw=>hl w (List.mem_cons_of_mem _ hw))
   · split
     · exact Y1 d r _ _ (xO h) (fun w hw=>hl w (List.mem_cons_of_mem _ hw))
     · exact Y1 d r _ _ h (fun w hw=>hl w (List.mem_cons_of_mem _ hw))
theorem qb0: ∀(l:List Decl) (m:Mk) (st:List UInt8),xD L m→(∀d∈l,∀x∈d.syms,SyL L x)→xD L (zX l (m,st)).1
 |[],m,st,h,_=>h
 | d::r,m,st,h,hl=>by
   rw[zX]
   have key: ∀m',xD L m'→xD L (zX r (zu d d.syms (m',st))).1:=fun m' h'=>by
    have:=Y1 d d.syms m' st h' (hl d (by simp))
    exact qb0 r (zu d d.syms (m',st)).1 (zu d d.syms (m',st)).2 this (fun w hw=>hl w (List.mem_cons_of_mem _ hw))
   split
   · exact key _ h
   · exact key _ h
theorem KQ: ∀(l:List Rule) (m:Mk),xD L m→(∀r∈l,r.left.length≤L)→xD L (jw l m)
 |[],m,h,_=>h
 | r ::l,m,h,hl=>by
   rw[jw]
   have hr:=hl r (by simp)
   have hl': ∀r∈l,r.left.length≤L:=fun w hw=>hl w (List.mem_cons_of_mem _ hw)
   have key: ∀m1,xD L m1→xD L (jw l (if qD r.left m.lefts 0<0 then {m1 with lefts:=m.lefts++[r.left]} else m1)):=fun m1 h1=>by
    split
    · refine KQ l _ ⟨h1.1,fun n hn=>?_⟩ hl'
      rcases List.mem_append.1 hn with hn|hn
      · exact h.2 n hn
      · rw[List.mem_singleton]at hn;subst hn;exact hr
    · exact KQ l _ h1 hl'
   refine key _ ?_
   split
   · exact xO h
   · exact h
theorem YM (k:Int): ∀(l:List Sym) (m:Mk),xD L m→xD L (jD k l m)
 |[],m,h=>h
 | x::r,m,h=>by
   rw[jD]
   split
   · exact YM k r _ (xO h)
   · exact YM k r _ h
theorem qb7: ∀(l:List Decl) (m:Mk),xD L m→xD L (yJ l m)
 |[],m,h=>h
 |d::r,m,h=>by rw[yJ];exact qb7 r _ (YM d.kind d.syms m h)
theorem KJ (gv:List Bool): ∀(f i:Nat) (l:List Tok) (n:Int),(∀t∈l,TkL L t)→ ∀t∈(Xv gv f i (l,n)).1,TkL L t
 |0,i,l,n,h=>h
 | f +1,i,l,n,h=>by
   rw[Zc]
   split
   · exact KJ gv f _ _ _ h
   · refine KJ gv f _ _ _ fun x hx=>?_
     rcases List.mem_or_eq_of_mem_set hx with hx|rfl
     · exact h x hx
     · exact qgt h i
theorem qhU {src:Source} (hL:5≤L) (hS:Small src) (h:SrcL L src):xD L (jJ src):=by
 have h0:xD L ({}:Mk):=⟨fun t ht=>by
  simp only[List.mem_cons,List.not_mem_nil,or_false]at ht
  rcases ht with rfl|rfl|rfl<;>exact⟨(fun h=>by cases h),by simp;omega⟩,fun n hn=>by cases hn⟩
 have h1:=qb0 src.decls {} [] h0 (fun d hd x hx=>⟨hS.dx d hd x hx,h.dx d hd x hx⟩)
 have h2:=qb7 src.decls _ (KQ src.rules _ h1 h.rl)
 unfold jJ
 exact qb3 src.rules _ h2 (fun r hr a ha=>⟨fun w hw=>⟨hS.rx r hr a ha w hw,h.rx r hr a ha w hw⟩,⟨hS.rq r hr a ha,h.rq r hr a ha⟩⟩)
theorem qcL (ty:List Non): ∀l:List (List UInt8),(∀n∈l,n.length≤L)→ ∀x∈xC ty l,x.name.length≤L
 |[],_,x,hx=>by cases hx
 | n::r,h,x,hx=>by
   rw[xC]at hx
   rcases List.mem_cons.1 hx with rfl|hx
   · exact h n (by simp)
   · exact qcL ty r (fun n hn=>h n (List.mem_cons_of_mem _ hn)) x hx
structure NmsOk (L:Nat) (g:Grammar):Prop where
 tok: ∀t∈g.toks,TkL L t
 non: ∀x∈g.nons,x.name.length≤L
theorem nms {src:Source} (hL:26≤L) (hS:z8 src=true→Small src) (h:SrcL L src):NmsOk L (yo src):=by
 unfold yo ofS
 split
 · rename_i hm
   have hM:=qhU o_ (hS hm) h
   split
   · exact⟨(fun t ht=>by cases ht),(fun t ht=>by cases ht)⟩
   · split
     · exact⟨(fun t ht=>by cases ht),(fun t ht=>by cases ht)⟩
     · refine⟨KJ _ _ _ _ _ hM.1,fun x hx=>?_⟩
       rcases List.mem_append.1 hx with hx|hx
       · rcases List.mem_append.1 hx with hx|hx
         · rw[List.mem_singleton]at hx;subst hx;simp;omega
         · exact qcL _ _ hM.2 x hx
       · obtain ⟨k,_,rfl⟩:=List.mem_map.1 hx
         have:=Jw 25 (k+1) []
         simp only[List.length_nil]at this
         show ((64:UInt8)::Xm 25 (k+1) []).length≤L
         rw[List.length_cons];omega
 · exact⟨(fun t ht=>by cases ht),(fun t ht=>by cases ht)⟩


set_option maxRecDepth 20000
set_option maxHeartbeats 4000000
theorem qdg {α:Type} {a b:List α} {k:Nat} (hk: ∀i,i<k→a[i]?=b[i]?) (h1:a.length≤k) (h2:b.length≤k):a=b:=by
 refine List.ext_getElem? fun i=>?_
 by_cases hi:i<k
 · exact hk i hi
 · rw[List.getElem?_eq_none o_,List.getElem?_eq_none o_]
theorem qih {α:Type} {a b:List α} {k:Nat} (hk: ∀i,i<k→a[i]?=b[i]?) (h1:k<a.length) (h2:k<b.length) (e:a[k]=b[k]): ∀i,i<k+1→a[i]?=b[i]?:=by
 intro i hi
 by_cases he:i=k
 · subst he;rw[ge_ h1,ge_ h2,e]
 · exact hk i o_
theorem zy {a b:List Int} (ha:a.length≤4611686018427387903) (hb:b.length≤4611686018427387903):Pure Try.prog 22 [.sl 1 false (a.map (V.int .i64)),.sl 1 false (b.map (V.int .i64))] (.bool (decide (a=b))):=by
 refine pure_intro Try.func22 nm_ qun (by show 2≤26;decide) ?_
 show ewp _ qft _ _
 repeat' with_reducible first
  |refine s_ ?_
  |simp -implicitDefEqProofs only[wZZ,seval]
  |apply qa<;>intro h h_<;>(try simp only[wD,reduceCtorEq]at h_)<;>(try exact wb_)<;>(try simp only[h])
 · refine qA rfl (Or.inr rfl) ?_
   simp -implicitDefEqProofs only[wL,seval]
   refine er_ ?_
   try(with_reducible rfl)
   rw[eq_comm,decide_eq_false_iff_not]
   intro e;subst e;exact h_ rfl
 refine qg ?nx1 (fun(k:Nat) s=>s.f 0=?v1_0∧s.f 1=?v1_1∧s.f 5=vi k∧(k≤a.length)∧(∀i,i<k→a[i]?=b[i]?)) (fun k=>a.length - k) (0) wj_ (by refine⟨?_,?_,?_,wo_,wo_⟩<;>first|(simp -implicitDefEqProofs only[wL,wM,wN,wX,seval,Option.some.injEq]<;>exact wt_)|rfl|exact⟨_,rfl⟩) ?_
 intro k s hnx ⟨g0,g1,g5,k1_0,k1_1⟩
 repeat' with_reducible first
  |refine s_ ?_
  |simp -implicitDefEqProofs only[wZZ,seval,g0,g1,g5]
  |apply qa<;>intro h h_<;>(try simp only[wD,reduceCtorEq]at h_)<;>(try exact wb_)<;>(try simp only[h])
  |refine t_ ?_
  |simp -implicitDefEqProofs (disch:=omega) only[w64,if_neg]
 · refine qA rfl (Or.inr rfl) ?_
   simp -implicitDefEqProofs only[wL,seval,g0,g1,g5]
   refine er_ ?_
   try(with_reducible rfl)
   rw[eq_comm,decide_eq_false_iff_not]
   intro e;subst e;exact h_ rfl
 · refine⟨wk_,k+1,o_,?_⟩
   refine⟨?_,?_,?_,?_,?_⟩
   iterate 3 (focus(first|(simp -implicitDefEqProofs only[wL,wM,wN,wX,seval,Option.some.injEq,g0,g1,g5]<;>exact wt_)|rfl|exact⟨_,rfl⟩))
   all_goals try omega
   exact qih k1_1 o_ o_ (by simpa using h_)
 · refine qA rfl (Or.inr rfl) ?_
   simp -implicitDefEqProofs only[wL,seval,g0,g1,g5]
   refine er_ ?_
   try(with_reducible rfl)
   rw[eq_comm,decide_eq_true_eq]
   exact qdg k1_1 o_ o_
def xK (nt nn:Nat) (x:Int):Bool:=decide (0≤x∧x<nt) || decide (1000≤x∧x<1000+(nn:Int))
theorem ZW {g:Grammar} {x:Int} (hnl:g.nons.length≤1000000) (htl:g.toks.length≤1000000):Pure Try.prog 80 [g.V,vi x] (.bool (xK g.toks.length g.nons.length x)):=by
 refine pure_intro Try.func80 nm_ qpX (by show 2≤26;decide) ?_
 show ewp _ qma _ _
 have hz:IntKind.i64.wrap (1000+(g.nons.length:Int))=1000+(g.nons.length:Int):=wrap64 o_ o_
 by_cases h0:0≤x
 · by_cases h1:x<g.toks.length
   · have e:xK g.toks.length g.nons.length x=true:=by unfold xK;simp;omega
     rw[e]
     repeat' with_reducible first
      |refine s_ ?_
      |simp -implicitDefEqProofs only[wZZ,seval,hz]
      |(first|apply qh|apply qi)<;>intro h h_<;>(try simp only[wD,reduceCtorEq]at h_)<;>(try exact wb_)<;>(try simp only[h])
      |refine t_ ?_
     all_goals refine qA rfl (Or.inr rfl) ?_
     all_goals(try simp -implicitDefEqProofs only[wL,seval])
     all_goals refine er_ ?_
     all_goals(try(with_reducible rfl))
   · by_cases h2:1000≤x
     · by_cases h3:x<1000+(g.nons.length:Int)
       · have e:xK g.toks.length g.nons.length x=true:=by unfold xK;simp;omega
         rw[e]
         repeat' with_reducible first
          |refine s_ ?_
          |simp -implicitDefEqProofs only[wZZ,seval,hz]
          |(first|apply qh|apply qi)<;>intro h h_<;>(try simp only[wD,reduceCtorEq]at h_)<;>(try exact wb_)<;>(try simp only[h])
          |refine t_ ?_
         all_goals refine qA rfl (Or.inr rfl) ?_
         all_goals(try simp -implicitDefEqProofs only[wL,seval])
         all_goals refine er_ ?_
         all_goals(try(with_reducible rfl))
         exact decide_eq_true h3
       · have e:xK g.toks.length g.nons.length x=false:=by unfold xK;simp;omega
         rw[e]
         repeat' with_reducible first
          |refine s_ ?_
          |simp -implicitDefEqProofs only[wZZ,seval,hz]
          |(first|apply qh|apply qi)<;>intro h h_<;>(try simp only[wD,reduceCtorEq]at h_)<;>(try exact wb_)<;>(try simp only[h])
          |refine t_ ?_
         all_goals refine qA rfl (Or.inr rfl) ?_
         all_goals(try simp -implicitDefEqProofs only[wL,seval])
         all_goals refine er_ ?_
         all_goals(try(with_reducible rfl))
         exact decide_eq_false h3
     · have e:xK g.toks.length g.nons.length x=false:=by unfold xK;simp;omega
       rw[e]
       repeat' with_reducible first
        |refine s_ ?_
        |simp -implicitDefEqProofs only[wZZ,seval,hz]
        |(first|apply qh|apply qi)<;>intro h h_<;>(try simp only[wD,reduceCtorEq]at h_)<;>(try exact wb_)<;>(try simp only[h])
        |refine t_ ?_
       all_goals refine qA rfl (Or.inr rfl) ?_
       all_goals(try simp -implicitDefEqProofs only[wL,seval])
       all_goals refine er_ ?_
       all_goals(try(with_reducible rfl))
 · have e:xK g.toks.length g.nons.length x=false:=by unfold xK;simp;omega
   rw[e]
   repeat' with_reducible first
    |refine s_ ?_
    |simp -implicitDefEqProofs only[wZZ,seval,hz]
    |(first|apply qh|apply qi)<;>intro h h_<;>(try simp only[wD,reduceCtorEq]at h_)<;>(try exact wb_)<;>(try simp only[h])
    |refine t_ ?_
   all_goals refine qA rfl (Or.inr rfl) ?_
   all_goals(try simp -implicitDefEqProofs only[wL,seval])
   all_goals refine er_ ?_
   all_goals(try(with_reducible rfl))
def yg (l:List Int) (n:Nat):List Int:=if n<l.length then l.take n else l
theorem zZ {l:List Int} {n:Nat} (hl:l.length≤1099511627776) (hn:n≤1000000):Pure Try.prog 16 [.sl 1 false (l.map (V.int .i64)),vi n] (.sl 1 false ((yg l n).map (V.int .i64))):=by
 refine pure_intro Try.func16 nm_ qpu (by show 2≤13;decide) ?_
 show ewp _ qrE _ _
 by_cases h:n<l.length
 · have e:yg l n=l.take n:=by unfold yg;rw[if_pos h]
   rw[e]
   repeat' with_reducible first
    |refine s_ ?_
    |simp -implicitDefEqProofs only[wZZ,seval]
    |apply qa<;>intro h h_<;>(try simp only[wD,reduceCtorEq]at h_)<;>(try exact wb_)<;>(try simp only[h])
    |apply YV;omega;exact wf_
   all_goals refine qA rfl (Or.inr rfl) ?_
   all_goals(try simp -implicitDefEqProofs only[wL,seval])
   all_goals refine er_ ?_
   all_goals(try(with_reducible rfl))
 · have e:yg l n=l:=by unfold yg;rw[if_neg h]
   rw[e]
   repeat' with_reducible first
    |refine s_ ?_
    |simp -implicitDefEqProofs only[wZZ,seval]
    |apply qa<;>intro h h_<;>(try simp only[wD,reduceCtorEq]at h_)<;>(try exact wb_)<;>(try simp only[h])
   all_goals refine qA rfl (Or.inr rfl) ?_
   all_goals(try simp -implicitDefEqProofs only[wL,seval])
   all_goals refine er_ ?_
   all_goals(try(with_reducible rfl))
end Go.Proofs
