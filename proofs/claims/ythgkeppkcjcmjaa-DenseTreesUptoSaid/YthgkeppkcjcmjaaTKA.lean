/- Part of a proof that a law of the given program answers true. -/
import Derived.Test.YthgkeppkcjcmjaaTPG
import Derived.Test.YthgkeppkcjcmjaaTJA
set_option linter.unusedSimpArgs false
set_option linter.unusedVariables false
namespace Go.Proofs
open Go.E
def vE (nt nn:Nat) (s:Int):Prop:=(∃t:Nat,s=t∧t<nt)∨ ∃k:Nat,s=1000+(k:Int)∧k<nn
structure GOk (g:Grammar):Prop where
 tk:3≤g.toks.length
 tk2:g.toks.length≤40
 nn:1≤g.nons.length
 nn2:g.nons.length≤24
 pl:1≤g.prods.length
 pl2:g.prods.length≤60
 left: ∀p∈g.prods,∃l:Nat,p.left=l∧l<g.nons.length
 rlen: ∀p∈g.prods,p.right.length≤8
 right: ∀p∈g.prods,∀s∈p.right,vE g.toks.length g.nons.length s
 prec: ∀p∈g.prods,p.prec= -1∨ ∃t:Nat,p.prec=t∧t<g.toks.length
 head: ∃p r,g.prods=p::r∧p.left=0∧(∃k:Nat,p.right=[1000+(k:Int)]∧k<g.nons.length)
structure MInv (m:Mk):Prop where
 tk:3≤m.toks.length
 inn:0≤m.inner
 left: ∀p∈m.prods,0≤p.left∧p.left≤m.lefts.length+m.inner
 right: ∀p∈m.prods,∀s∈p.right,vE m.toks.length (1+m.lefts.length+m.inner.toNat) s
 prec: ∀p∈m.prods,p.prec= -1∨(0≤p.prec∧p.prec<m.toks.length)
theorem vE.mono {a b a' b':Nat} {s:Int} (h:vE a b s) (h1:a≤a') (h2:b≤b'):vE a' b' s:=by
 rcases h with ⟨t,e,l⟩|⟨k,e,l⟩
 · exact Or.inl ⟨t,e,o_⟩
 · exact Or.inr ⟨k,e,o_⟩
theorem MInv.up {m m':Mk} (h:MInv m) (hp:m'.prods=m.prods) (ht:m.toks.length≤m'.toks.length) (hl:m'.lefts=m.lefts) (hi:m.inner≤m'.inner):MInv m':=by
 have:=h.inn
 refine⟨by have:=h.tk;omega,o_,fun p hq=>?_,fun p hq s hs=>?_,fun p hq=>?_⟩
 · rw[hp]at hq;have:=h.left p hq;rw[hl];omega
 · rw[hp]at hq;rw[hl];exact(h.right p hq s hs).mono ht o_
 · rw[hp]at hq
   rcases h.prec p hq with h|⟨h1,h2⟩
   · exact Or.inl h
   · exact Or.inr ⟨h1,o_⟩
theorem MInv.put {m:Mk} (h:MInv m) {p:GPr} (h1:0≤p.left∧p.left≤m.lefts.length+m.inner) (h2: ∀s∈p.right,vE m.toks.length (1+m.lefts.length+m.inner.toNat) s) (h3:p.prec= -1∨(0≤p.prec∧p.prec<m.toks.length)):MInv {m with prods:=m.prods++[p]}:=by
 refine⟨h.tk,h.inn,fun q hq=>?_,fun q hq=>?_,fun q hq=>?_⟩<;>rcases List.mem_append.1 hq with hq|hq
 · exact h.left q hq
 · rw[List.mem_singleton]at hq;subst hq;exact h1
 · exact h.right q hq
 · rw[List.mem_singleton]at hq;subst hq;exact h2
 · exact h.prec q hq
 · rw[List.mem_singleton]at hq;subst hq;exact h3
theorem qd6 {m:Mk} (x:Sym) (ht:3≤m.toks.length) (hi:0≤m.inner):vE (xP m x).1.toks.length (1+m.lefts.length+m.inner.toNat) (xP m x).2∧(x.lit=true∨qE x.name m.lefts 0<0→0≤(xP m x).2∧(xP m x).2<(xP m x).1.toks.length):=by
 have hb:=qem m x o_
 have hl:=ja x.name m.lefts 0
 have htk:=V4 x m.toks o_
 have hf:=(zB m x.at_ x.name).1
 have tokI: ∀{n:Nat} {s:Int},0≤s→s<n→vE n (1+m.lefts.length+m.inner.toNat) s:=fun h1 h2=>Or.inl ⟨_,(Int.toNat_of_nonneg h1).symm,o_⟩
 unfold xP
 split
 · exact⟨tokI hb.1 hb.2,fun _=>hb⟩
 · rename_i hx
   split
   · rename_i h0
     refine⟨Or.inr ⟨(1+qE x.name m.lefts 0).toNat,by dsimp only;omega,o_⟩,fun h=>?_⟩
     rcases h with h|h
     · exact absurd h hx
     · omega
   · split
     · dsimp only;rw[hf]
       exact⟨tokI o_ o_,fun _=>⟨o_,o_⟩⟩
     · dsimp only;exact⟨tokI o_ o_,fun _=>⟨o_,o_⟩⟩
theorem Xf : ∀(l:List Part) (m:Mk) (p:GPr),MInv m→(∀s∈p.right,vE m.toks.length (1+m.lefts.length+m.inner.toNat) s)→MInv (zH l (m,p)).1∧ ∀s∈(zH l (m,p)).2.right,vE (zH l (m,p)).1.toks.length (1+(zH l (m,p)).1.lefts.length+(zH l (m,p)).1.inner.toNat) s
 |[],m,p,h,hp=>by rw[Zo];exact⟨h,hp⟩
 | w :: r, m,p,h,hp=>by
   rw[yF]
   obtain ⟨y1,y2,y3,y4,y5,y6,y7,y8⟩:=vg m w.sym
   have hs:=(qd6 w.sym h.tk h.inn).1
   have hi:=h.inn
   split
   · refine Xf r _ _ (h.up y3 y7 y2 o_) fun s hs2=>?_
     rw[y2,y6]
     rcases List.mem_append.1 hs2 with hs2|hs2
     · exact(hp s hs2).mono y7 (Nat.le_refl _)
     · rw[List.mem_singleton]at hs2;subst hs2;exact hs
   · split
     · exact⟨h,hp⟩
     · refine Xf r _ _ ?_ fun s hs2=>?_
       · refine(h.up (m':={m with inner:=m.inner+1}) rfl (Nat.le_refl _) rfl (by dsimp only;omega)).put ⟨by dsimp only;omega,by dsimp only;omega⟩ (fun s hs2=>by cases hs2) (Or.inl rfl)
       · dsimp only at hs2 ⊢
         rcases List.mem_append.1 hs2 with hs2|hs2
         · exact(hp s hs2).mono (Nat.le_refl _) o_
         · rw[List.mem_singleton]at hs2
           exact Or.inr ⟨m.lefts.length+(m.inner+1).toNat,by rw[hs2];omega,o_⟩
theorem KP (n:Nat): ∀(l:List Int) (p:Int),(∀s∈l,0≤s∧(s<1000→s<n))→(p= -1∨(0≤p∧p<n))→(xU l p= -1∨(0≤xU l p∧xU l p<n))
 |[],p,_,hp=>hp
 | x::r,p,h,hp=>by
   rw[xU]
   refine KP n r _ (fun s hs=>h s (List.mem_cons_of_mem _ hs)) ?_
   split
   · rename_i hx;have:=h x (by simp);exact Or.inr ⟨this.1,this.2 hx⟩
   · exact hp
theorem qdS {m:Mk} (n:List UInt8) (a:Alt) (h:MInv m):MInv (Xa m n a):=by
 have hl:=ja n m.lefts 0
 obtain ⟨g1,g2,g3,g4,g5,g6,g7,g8,g9,g10⟩:=Yn a.parts m {left:=1+qE n m.lefts 0,prec:= -1,at_:=a.at_}
 obtain ⟨h1,h2⟩:=Xf a.parts m {left:=1+qE n m.lefts 0,prec:= -1,at_:=a.at_} h (fun s hs=>by cases hs)
 have hi:=h.inn
 unfold Xa
 dsimp only
 generalize zH a.parts (m,{left:=1+qE n m.lefts 0,prec:= -1,at_:=a.at_})=q at *
 have hlf:0≤q.2.left∧q.2.left≤q.1.lefts.length+q.1.inner:=by rw[g5,g1];dsimp only;omega
 obtain ⟨ff1,ff2,ff3,ff4,ff5,ff6,ff7,ff8⟩:=zB q.1 a.prec.at_ a.prec.name
 split
 · split
   · rename_i hc
     obtain ⟨y1,y2,y3,y4,y5,y6,y7,y8⟩:=vg q.1 a.prec
     have hs:=(qd6 a.prec h1.tk h1.inn).2 (by rcases hc with hc|hc<;>simp[hc])
     refine(h1.up y3 y7 y2 o_).put (by rw[y2,y6];exact hlf) (fun s hs2=>?_) (Or.inr hs)
     rw[y2,y6];exact(h2 s hs2).mono y7 (Nat.le_refl _)
   · refine(h1.up (m':=zl q.1 a.prec.at_ a.prec.name) ff5 (by rw[ff1];omega) ff3 o_).put (p:={q.2 with prec:= -1,args:=q.2.right}) (by rw[ff3,ff8];exact hlf) (fun s hs2=>by rw[ff1,ff3,ff8];exact h2 s hs2) (Or.inl rfl) |> fun hh=>?_
     rw[ff5]at hh
     exact hh
 · refine h1.put hlf h2 ?_
   refine KP _ _ _ (fun s hs=>?_) (Or.inl rfl)
   rcases h2 s hs with ⟨t,e,l⟩|⟨k,e,l⟩
   · exact⟨o_,fun _=>by omega⟩
   · exact⟨o_,fun _=>by omega⟩
theorem Xn (n:List UInt8): ∀(l:List Alt) (m:Mk),MInv m→MInv (zI n l m)
 |[],m,h=>h
 |a::r,m,h=>by rw[xM];exact Xn n r _ (qdS n a h)
theorem qch: ∀(l:List Rule) (m:Mk),MInv m→MInv (yh l m)
 |[],m,h=>h
 |r::l,m,h=>by rw[yx];exact qch l _ (Xn r.left r.alts m h)
def HdP (P:GPr) (m:Mk):Prop:= ∃r,m.prods=P::r
theorem V7 (P:GPr): ∀(l:List Part) (m:Mk) (p:GPr),HdP P m→HdP P (zH l (m,p)).1
 |[],m,p,h=>h
 | w ::r,m,p,h=>by
   rw[yF]
   obtain ⟨y1,y2,y3,y4,y5,y6,y7,y8⟩:=vg m w.sym
   obtain ⟨t,ht⟩:=h
   split
   · exact V7 P r _ _ ⟨t,by rw[y3];exact ht⟩
   · split
     · exact⟨t,ht⟩
     · exact V7 P r _ _ ⟨_,by dsimp only;rw[ht];rfl⟩
theorem qj9 (P:GPr) {m:Mk} (n:List UInt8) (a:Alt) (h:HdP P m):HdP P (Xa m n a):=by
 have h1:=V7 P a.parts m {left:=1+qE n m.lefts 0,prec:= -1,at_:=a.at_} h
 unfold Xa
 dsimp only
 generalize zH a.parts (m,{left:=1+qE n m.lefts 0,prec:= -1,at_:=a.at_})=q at *
 obtain ⟨t,ht⟩:=h1
 obtain ⟨y1,y2,y3,y4,y5,y6,y7,y8⟩:=vg q.1 a.prec
 split
 · split
   · exact⟨_,by dsimp only;rw[y3,ht];rfl⟩
   · exact⟨_,by dsimp only;rw[ht];rfl⟩
 · exact⟨_,by dsimp only;rw[ht];rfl⟩
theorem K4 (P:GPr) (n:List UInt8): ∀(l:List Alt) (m:Mk),HdP P m→HdP P (zI n l m)
 |[],m,h=>h
 |a::r,m,h=>by rw[xM];exact K4 P n r _ (qj9 P n a h)
theorem qcn (P:GPr): ∀(l:List Rule) (m:Mk),HdP P m→HdP P (yh l m)
 |[],m,h=>h
 |r::l,m,h=>by rw[yx];exact qcn P l _ (K4 P r.left r.alts m h)
theorem Yw (g:List Bool): ∀(f i:Nat) (l:List Tok) (n:Int),(Kn g f i (l,n)).1.length=l.length
 |0,i,l,n=>rfl
 | f+1,i,l,n=>by
   rw[Va];split
   · exact Yw g f _ _ _
   · rw[Yw];simp
theorem qbq (d:Decl): ∀(l:List Sym) (m:Mk) (st:List UInt8),yP m (zJ d l (m,st)).1∧m.toks.length≤(zJ d l (m,st)).1.toks.length
 |[],m,st=>⟨⟨rfl,rfl,rfl,rfl⟩,Nat.le_refl _⟩
 | x ::r,m,st=>by
   rw[Jh]
   obtain ⟨⟨a1,a2,a3,a4⟩,_,h2,_⟩:=qeW m d x
   obtain ⟨ff1,ff2,ff3,ff4,ff5,ff6,ff7,ff8⟩:=zB m x.at_ x.name
   split
   · obtain ⟨⟨b1,b2,b3,b4⟩,k2⟩:=qbq d r (yT m d x) st
     exact⟨⟨b1.trans a1,b2.trans a2,b3.trans a3,b4.trans a4⟩,o_⟩
   · have key: ∀m',yP m m'→m.toks.length≤m'.toks.length→yP m (zJ d r (m',x.name)).1∧m.toks.length≤(zJ d r (m',x.name)).1.toks.length:=fun m' hm ht=>by
      obtain ⟨⟨b1,b2,b3,b4⟩,k2⟩:=qbq d r m' x.name
      exact⟨⟨b1.trans hm.1,b2.trans hm.2.1,b3.trans hm.2.2.1,b4.trans hm.2.2.2⟩,o_⟩
     split
     · exact key _ ⟨ff3,ff5,ff6,ff8⟩ (by rw[ff1];omega)
     · exact key _ ⟨rfl,rfl,rfl,rfl⟩ (Nat.le_refl _)
theorem qeS: ∀(l:List Decl) (m:Mk) (st:List UInt8),yP m (jw l (m,st)).1∧m.toks.length≤(jw l (m,st)).1.toks.length
 |[],m,st=>⟨⟨rfl,rfl,rfl,rfl⟩,Nat.le_refl _⟩
 | d::r,m,st=>by
   rw[Je]
   have key: ∀m',yP m m'→m.toks.length≤m'.toks.length→yP m (jw r (zJ d d.syms (m',st))).1∧m.toks.length≤(jw r (zJ d d.syms (m',st))).1.toks.length:=fun m' hm ht=>by
    obtain ⟨⟨a1,a2,a3,a4⟩,k1⟩:=qbq d d.syms m' st
    obtain ⟨⟨b1,b2,b3,b4⟩,k2⟩:=qeS r (zJ d d.syms (m',st)).1 (zJ d d.syms (m',st)).2
    exact⟨⟨b1.trans (a1.trans hm.1),b2.trans (a2.trans hm.2.1),b3.trans (a3.trans hm.2.2.1),b4.trans (a4.trans hm.2.2.2)⟩,by show m.toks.length≤(jw r ((zJ d d.syms (m',st)).1,(zJ d d.syms (m',st)).2)).1.toks.length;omega⟩
   split
   · exact key _ ⟨rfl,rfl,rfl,rfl⟩ (Nat.le_refl _)
   · exact key _ ⟨rfl,rfl,rfl,rfl⟩ (Nat.le_refl _)
theorem qe3: ∀(l:List Rule) (m:Mk),(xI l m).toks=m.toks∧(xI l m).inner=m.inner∧(xI l m).nons=m.nons
 |[],m=>⟨rfl,rfl,rfl⟩
 | r::l,m=>by
   rw[Jc]
   obtain ⟨d1,d2,d3,d4,d5,d6⟩:=qbG m r
   obtain ⟨h1,h2,h3⟩:=qe3 l (JZ (Qf m r) r.left)
   have e:(JZ (Qf m r) r.left).toks=m.toks∧(JZ (Qf m r) r.left).inner=m.inner∧(JZ (Qf m r) r.left).nons=m.nons:=by
    unfold JZ
    split
    · exact⟨d1,d6,d5⟩
    · exact⟨d1,d6,d5⟩
   exact⟨h1.trans e.1,h2.trans e.2.1,h3.trans e.2.2⟩
theorem VO (kind:Int): ∀(l:List Sym) (m:Mk),xD m (jC kind l m)
 |[],m=>xD.rfl' m
 |x::r,m=>by rw[yY];exact(qjx m kind x).trans' (VO kind r _)
theorem qa7: ∀(l:List Decl) (m:Mk),xD m (vI l m)
 |[],m=>xD.rfl' m
 |d::r,m=>by rw[Qb];exact(VO d.kind d.syms m).trans' (qa7 r _)
def Kr (src:Source):Mk:=vI src.decls (xI src.rules (jw src.decls ({},[])).1)
def vk (src:Source):List UInt8:=if (jw src.decls ({},[])).2=[]then(src.rules.headD {}).left else(jw src.decls ({},[])).2
def YI (src:Source):GPr:={left:=0,right:=[1001+qE (vk src) (Kr src).lefts 0],prec:= -1}
theorem Km (src:Source):jJ src=yh src.rules {Kr src with prods:=[YI src]}:=rfl
theorem qjh (src:Source):3≤(Kr src).toks.length∧(Kr src).inner=0∧(Kr src).nons=[]:=by
 obtain ⟨⟨a1,a2,a3,a4⟩,k1⟩:=qeS src.decls {} []
 obtain ⟨l1,l2,l3⟩:=qe3 src.rules (jw src.decls ({},[])).1
 obtain ⟨u1,u2,u3,u4,u5,u6,u7⟩:=qa7 src.decls (xI src.rules (jw src.decls ({},[])).1)
 refine⟨?_,?_,?_⟩
 · show 3≤(vI _ _).toks.length;rw[u1,l1];exact k1
 · show (vI _ _).inner=0;rw[u7,l2];exact a4
 · show (vI _ _).nons=[];rw[u6,l3];exact a3
theorem qhm (src:Source):MInv (jJ src)∧HdP (YI src) (jJ src):=by
 obtain ⟨h1,h2,h3⟩:=qjh src
 have hl:=ja (vk src) (Kr src).lefts 0
 rw[Km]
 refine⟨qch _ _ ⟨h1,by dsimp only;omega,fun p hp=>?_,fun p hp s hs=>?_,fun p hp=>?_⟩,qcn _ _ _ ⟨[],rfl⟩⟩<;>(dsimp only at hp;rw[List.mem_singleton]at hp;subst hp)
 · unfold YI;dsimp only;omega
 · unfold YI at hs;dsimp only at hs ⊢;rw[List.mem_singleton]at hs;subst hs
   exact Or.inr ⟨(1+qE (vk src) (Kr src).lefts 0).toNat,o_,o_⟩
 · exact Or.inl rfl
theorem XR (n:List UInt8): ∀(l:List Alt) (m:Mk),(zI n l m).nons=m.nons∧(zI n l m).lefts=m.lefts
 |[],m=>⟨rfl,rfl⟩
 | a::r,m=>by
   rw[xM]
   obtain ⟨h1,_,h3,_⟩:=qiU m n a
   obtain ⟨k1,k2⟩:=XR n r (Xa m n a)
   exact⟨k1.trans h3,k2.trans h1⟩
theorem Vq: ∀(l:List Rule) (m:Mk),(yh l m).nons=m.nons∧(yh l m).lefts=m.lefts
 |[],m=>⟨rfl,rfl⟩
 | r::l,m=>by
   rw[yx]
   obtain ⟨h1,h2⟩:=XR r.left r.alts m
   obtain ⟨k1,k2⟩:=Vq l (zI r.left r.alts m)
   exact⟨k1.trans h1,k2.trans h2⟩
theorem qbc (m:Mk):(xw m).toks.length=m.toks.length∧(xw m).nons.length=1+m.lefts.length+m.inner.toNat∧(xw m).prods=m.prods:=by
 unfold xw
 dsimp only
 refine⟨Yw _ _ _ _ _,?_,rfl⟩
 rw[List.length_append,List.length_append,Yb,qcv];rfl
theorem qcm {src:Source} (h:YP src=true):jM src=true∧(jJ src).e=0∧YG (xw (jJ src))=false∧qL src={toks:=(xw (jJ src)).toks,nons:=(xw (jJ src)).nons,prods:=(xw (jJ src)).prods,pro:=src.pro,tail:=src.tail}:=by
 have h:=of_decide_eq_true h
 unfold qL
 unfold ofS at *
 by_cases h1:jM src=true
 · rw [if_pos h1]at *
   by_cases h2:(jJ src).e≠0
   · rw[if_pos h2]at h;exact absurd h h2
   · rw[if_neg h2]at *
     by_cases h3:YG (xw (jJ src))=true
     · rw[if_pos h3]at h;cases h
     · rw[if_neg h3]at *
       exact⟨h1,by simpa using h2,by simpa using h3,rfl⟩
 · rw[if_neg h1]at h;cases h
theorem gok {src:Source} (h:YP src=true):GOk (qL src):=by
 obtain ⟨_,_,hl,he⟩:=qcm h
 obtain ⟨hi,r,hr⟩:=qhm src
 obtain ⟨n1,n2,n3⟩:=qbc (jJ src)
 unfold YG at hl
 simp only[Bool.or_eq_false_iff,decide_eq_false_iff_not,List.any_eq_false,decide_eq_true_eq]at hl
 obtain ⟨⟨⟨l1,l2⟩,l3⟩,l4⟩:=hl
 have hinn:=hi.inn
 rw[he]
 refine⟨?_,?_,?_,?_,?_,?_,fun p hp=>?_,fun p hp=>?_,fun p hp s hs=>?_,fun p hp=>?_,?_⟩<;>dsimp only at *
 · rw[n1];exact hi.tk
 · omega
 · rw[n2];omega
 · omega
 · rw[n3,hr];simp
 · omega
 · rw[n3]at hp;have:=hi.left p hp
   exact⟨p.left.toNat,o_,o_⟩
 · have:=l4 p hp;omega
 · rw[n3]at hp;rw[n1,n2];exact hi.right p hp s hs
 · rw[n3]at hp
   rcases hi.prec p hp with h|⟨h1,h2⟩
   · exact Or.inl h
   · exact Or.inr ⟨p.prec.toNat,o_,o_⟩
 · refine⟨YI src,r,by rw[n3];exact hr,rfl,(1+qE (vk src) (Kr src).lefts 0).toNat,?_,?_⟩
   · have:=ja (vk src) (Kr src).lefts 0
     unfold YI;dsimp only
     rw[show (1001+qE (vk src) (Kr src).lefts 0:Int)=1000+((1+qE (vk src) (Kr src).lefts 0).toNat:Int) by omega]
   · have:=ja (vk src) (Kr src).lefts 0
     have:=(Vq src.rules {Kr src with prods:=[YI src]}).2
     rw[← Km]at this
     dsimp only at this
     rw[n2,this];omega



end Go.Proofs
