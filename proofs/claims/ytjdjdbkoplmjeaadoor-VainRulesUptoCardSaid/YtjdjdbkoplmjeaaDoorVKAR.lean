/- Part of a proof that a law of the given program answers true. -/
import Derived.Test.YtjdjdbkoplmjeaaDoorVGBR
import Derived.Test.YtjdjdbkoplmjeaaDoorVJAR
import Derived.Test.YtjdjdbkoplmjeaaDoorVCAR
set_option linter.unusedSimpArgs false
set_option linter.unusedVariables false
namespace Go.Proofs
open Go.E
def X7 (nt nn:Nat) (s:Int):Prop:=(∃t:Nat,s=t∧t<nt)∨ ∃k:Nat,s=1000+(k:Int)∧k<nn
structure GOk (g:Grammar):Prop where
 tk:3≤g.toks.length
 tk2:g.toks.length≤40
 nn:1≤g.nons.length
 nn2:g.nons.length≤24
 pl:1≤g.prods.length
 pl2:g.prods.length≤60
 left: ∀p∈g.prods,∃l:Nat,p.left=l∧l<g.nons.length
 rlen: ∀p∈g.prods,p.right.length≤8
 right: ∀p∈g.prods,∀s∈p.right,X7 g.toks.length g.nons.length s
 prec: ∀p∈g.prods,p.prec= -1∨ ∃t:Nat,p.prec=t∧t<g.toks.length
 head: ∃p r,g.prods=p::r∧p.left=0∧(∃k:Nat,p.right=[1000+(k:Int)]∧k<g.nons.length)
structure MInv (m:Mk):Prop where
 tk:3≤m.toks.length
 inn:0≤m.inner
 left: ∀p∈m.prods,0≤p.left∧p.left≤m.lefts.length+m.inner
 right: ∀p∈m.prods,∀s∈p.right,X7 m.toks.length (1+m.lefts.length+m.inner.toNat) s
 prec: ∀p∈m.prods,p.prec= -1∨(0≤p.prec∧p.prec<m.toks.length)
theorem X7.mono {a b a' b':Nat} {s:Int} (h:X7 a b s) (h1:a≤a') (h2:b≤b'):X7 a' b' s:=by
 rcases h with ⟨t,e,l⟩|⟨k,e,l⟩
 · exact Or.inl ⟨t,e,o_⟩
 · exact Or.inr ⟨k,e,o_⟩
theorem MInv.up {m m':Mk} (h:MInv m) (hp:m'.prods=m.prods) (ht:m.toks.length≤m'.toks.length) (hl:m'.lefts=m.lefts) (hi:m.inner≤m'.inner):MInv m':=by
 have:=h.inn
 refine⟨by have:=h.tk;omega,o_,fun p hq=>?_,fun p hq s hs=>?_,fun p hq=>?_⟩
 · rw[hp]at hq;have:=h.left p hq;rw[hl];omega
 · rw[hp]at hq;rw[hl];exact(h.right p hq s hs).mono ht o_
 · rw[hp]at hq
   rcases h.prec p hq with h|⟨h1,h2⟩
   · exact Or.inl h
   · exact Or.inr ⟨h1,o_⟩
theorem MInv.put {m:Mk} (h:MInv m) {p:GPr} (h1:0≤p.left∧p.left≤m.lefts.length+m.inner) (h2: ∀s∈p.right,X7 m.toks.length (1+m.lefts.length+m.inner.toNat) s) (h3:p.prec= -1∨(0≤p.prec∧p.prec<m.toks.length)):MInv {m with prods:=m.prods++[p]}:=by
 refine⟨h.tk,h.inn,fun q hq=>?_,fun q hq=>?_,fun q hq=>?_⟩<;>rcases List.mem_append.1 hq with hq|hq
 · exact h.left q hq
 · rw[List.mem_singleton]at hq;subst hq;exact h1
 · exact h.right q hq
 · rw[List.mem_singleton]at hq;subst hq;exact h2
 · exact h.prec q hq
 · rw[List.mem_singleton]at hq;subst hq;exact h3
theorem qdW {m:Mk} (x:Sym) (ht:3≤m.toks.length) (hi:0≤m.inner):X7 (yt m x).1.toks.length (1+m.lefts.length+m.inner.toNat) (yt m x).2∧(x.lit=true∨qL x.name m.lefts 0<0→0≤(yt m x).2∧(yt m x).2<(yt m x).1.toks.length):=by
 have hb:=qdg m x o_
 have hl:=xJ x.name m.lefts 0
 have htk:=qa1 x m.toks o_
 have hf:=(zV m x.at_ x.name).1
 have tokI: ∀{n:Nat} {s:Int},0≤s→s<n→X7 n (1+m.lefts.length+m.inner.toNat) s:=fun h1 h2=>Or.inl ⟨_,(Int.toNat_of_nonneg h1).symm,o_⟩
 unfold yt
 split
 · exact⟨tokI hb.1 hb.2,fun _=>hb⟩
 · rename_i hx
   split
   · rename_i h0
     refine⟨Or.inr ⟨(1+qL x.name m.lefts 0).toNat,by dsimp only;omega,o_⟩,fun h=>?_⟩
     rcases h with h|h
     · exact absurd h hx
     · omega
   · split
     · dsimp only;rw[hf]
       exact⟨tokI o_ o_,fun _=>⟨o_,o_⟩⟩
     · dsimp only;exact⟨tokI o_ o_,fun _=>⟨o_,o_⟩⟩
theorem VA : ∀(l:List Part) (m:Mk) (p:GPr),MInv m→(∀s∈p.right,X7 m.toks.length (1+m.lefts.length+m.inner.toNat) s)→MInv (zU l (m,p)).1∧ ∀s∈(zU l (m,p)).2.right,X7 (zU l (m,p)).1.toks.length (1+(zU l (m,p)).1.lefts.length+(zU l (m,p)).1.inner.toNat) s
 |[],m,p,h,hp=>by rw[ZH];exact⟨h,hp⟩
 | w :: r, m,p,h,hp=>by
   rw[vv]
   obtain ⟨y1,y2,y3,y4,y5,y6,y7,y8⟩:=Qf m w.sym
   have hs:=(qdW w.sym h.tk h.inn).1
   have hi:=h.inn
   split
   · refine VA r _ _ (h.up y3 y7 y2 o_) fun s hs2=>?_
     rw[y2,y6]
     rcases List.mem_append.1 hs2 with hs2|hs2
     · exact(hp s hs2).mono y7 (Nat.le_refl _)
     · rw[List.mem_singleton]at hs2;subst hs2;exact hs
   · split
     · exact⟨h,hp⟩
     · refine VA r _ _ ?_ fun s hs2=>?_
       · refine(h.up (m':={m with inner:=m.inner+1}) rfl (Nat.le_refl _) rfl (by dsimp only;omega)).put ⟨by dsimp only;omega,by dsimp only;omega⟩ (fun s hs2=>by cases hs2) (Or.inl rfl)
       · dsimp only at hs2 ⊢
         rcases List.mem_append.1 hs2 with hs2|hs2
         · exact(hp s hs2).mono (Nat.le_refl _) o_
         · rw[List.mem_singleton]at hs2
           exact Or.inr ⟨m.lefts.length+(m.inner+1).toNat,by rw[hs2];omega,o_⟩
theorem KW (n:Nat): ∀(l:List Int) (p:Int),(∀s∈l,0≤s∧(s<1000→s<n))→(p= -1∨(0≤p∧p<n))→(yG l p= -1∨(0≤yG l p∧yG l p<n))
 |[],p,_,hp=>hp
 | x::r,p,h,hp=>by
   rw[yG]
   refine KW n r _ (fun s hs=>h s (List.mem_cons_of_mem _ hs)) ?_
   split
   · rename_i hx;have:=h x (by simp);exact Or.inr ⟨this.1,this.2 hx⟩
   · exact hp
theorem qjQ {m:Mk} (n:List UInt8) (a:Alt) (h:MInv m):MInv (ZQ m n a):=by
 have hl:=xJ n m.lefts 0
 obtain ⟨g1,g2,g3,g4,g5,g6,g7,g8,g9,g10⟩:=ZN a.parts m {left:=1+qL n m.lefts 0,prec:= -1,at_:=a.at_}
 obtain ⟨h1,h2⟩:=VA a.parts m {left:=1+qL n m.lefts 0,prec:= -1,at_:=a.at_} h (fun s hs=>by cases hs)
 have hi:=h.inn
 unfold ZQ
 dsimp only
 generalize zU a.parts (m,{left:=1+qL n m.lefts 0,prec:= -1,at_:=a.at_})=q at *
 have hlf:0≤q.2.left∧q.2.left≤q.1.lefts.length+q.1.inner:=by rw[g5,g1];dsimp only;omega
 obtain ⟨ff1,ff2,ff3,ff4,ff5,ff6,ff7,ff8⟩:=zV q.1 a.prec.at_ a.prec.name
 split
 · split
   · rename_i hc
     obtain ⟨y1,y2,y3,y4,y5,y6,y7,y8⟩:=Qf q.1 a.prec
     have hs:=(qdW a.prec h1.tk h1.inn).2 (by rcases hc with hc|hc<;>simp[hc])
     refine(h1.up y3 y7 y2 o_).put (by rw[y2,y6];exact hlf) (fun s hs2=>?_) (Or.inr hs)
     rw[y2,y6];exact(h2 s hs2).mono y7 (Nat.le_refl _)
   · refine(h1.up (m':=zG q.1 a.prec.at_ a.prec.name) ff5 (by rw[ff1];omega) ff3 o_).put (p:={q.2 with prec:= -1,args:=q.2.right}) (by rw[ff3,ff8];exact hlf) (fun s hs2=>by rw[ff1,ff3,ff8];exact h2 s hs2) (Or.inl rfl) |> fun hh=>?_
     rw[ff5]at hh
     exact hh
 · refine h1.put hlf h2 ?_
   refine KW _ _ _ (fun s hs=>?_) (Or.inl rfl)
   rcases h2 s hs with ⟨t,e,l⟩|⟨k,e,l⟩
   · exact⟨o_,fun _=>by omega⟩
   · exact⟨o_,fun _=>by omega⟩
theorem qaj (n:List UInt8): ∀(l:List Alt) (m:Mk),MInv m→MInv (zS n l m)
 |[],m,h=>h
 |a::r,m,h=>by rw[yx];exact qaj n r _ (qjQ n a h)
theorem qbK: ∀(l:List Rule) (m:Mk),MInv m→MInv (yw l m)
 |[],m,h=>h
 |r::l,m,h=>by rw[vI];exact qbK l _ (qaj r.left r.alts m h)
def HdP (P:GPr) (m:Mk):Prop:= ∃r,m.prods=P::r
theorem Vk (P:GPr): ∀(l:List Part) (m:Mk) (p:GPr),HdP P m→HdP P (zU l (m,p)).1
 |[],m,p,h=>h
 | w ::r,m,p,h=>by
   rw[vv]
   obtain ⟨y1,y2,y3,y4,y5,y6,y7,y8⟩:=Qf m w.sym
   obtain ⟨t,ht⟩:=h
   split
   · exact Vk P r _ _ ⟨t,by rw[y3];exact ht⟩
   · split
     · exact⟨t,ht⟩
     · exact Vk P r _ _ ⟨_,by dsimp only;rw[ht];rfl⟩
theorem qiB (P:GPr) {m:Mk} (n:List UInt8) (a:Alt) (h:HdP P m):HdP P (ZQ m n a):=by
 have h1:=Vk P a.parts m {left:=1+qL n m.lefts 0,prec:= -1,at_:=a.at_} h
 unfold ZQ
 dsimp only
 generalize zU a.parts (m,{left:=1+qL n m.lefts 0,prec:= -1,at_:=a.at_})=q at *
 obtain ⟨t,ht⟩:=h1
 obtain ⟨y1,y2,y3,y4,y5,y6,y7,y8⟩:=Qf q.1 a.prec
 split
 · split
   · exact⟨_,by dsimp only;rw[y3,ht];rfl⟩
   · exact⟨_,by dsimp only;rw[ht];rfl⟩
 · exact⟨_,by dsimp only;rw[ht];rfl⟩
theorem qag (P:GPr) (n:List UInt8): ∀(l:List Alt) (m:Mk),HdP P m→HdP P (zS n l m)
 |[],m,h=>h
 |a::r,m,h=>by rw[yx];exact qag P n r _ (qiB P n a h)
theorem qbQ (P:GPr): ∀(l:List Rule) (m:Mk),HdP P m→HdP P (yw l m)
 |[],m,h=>h
 |r::l,m,h=>by rw[vI];exact qbQ P l _ (qag P r.left r.alts m h)
theorem Xe (g:List Bool): ∀(f i:Nat) (l:List Tok) (n:Int),(Vj g f i (l,n)).1.length=l.length
 |0,i,l,n=>rfl
 | f+1,i,l,n=>by
   rw[YJ];split
   · exact Xe g f _ _ _
   · rw[Xe];simp
theorem qbp (d:Decl): ∀(l:List Sym) (m:Mk) (st:List UInt8),vV m (jf d l (m,st)).1∧m.toks.length≤(jf d l (m,st)).1.toks.length
 |[],m,st=>⟨⟨rfl,rfl,rfl,rfl⟩,Nat.le_refl _⟩
 | x ::r,m,st=>by
   rw[Z8]
   obtain ⟨⟨a1,a2,a3,a4⟩,_,h2,_⟩:=qdb m d x
   obtain ⟨ff1,ff2,ff3,ff4,ff5,ff6,ff7,ff8⟩:=zV m x.at_ x.name
   split
   · obtain ⟨⟨b1,b2,b3,b4⟩,k2⟩:=qbp d r (vG m d x) st
     exact⟨⟨b1.trans a1,b2.trans a2,b3.trans a3,b4.trans a4⟩,o_⟩
   · have key: ∀m',vV m m'→m.toks.length≤m'.toks.length→vV m (jf d r (m',x.name)).1∧m.toks.length≤(jf d r (m',x.name)).1.toks.length:=fun m' hm ht=>by
      obtain ⟨⟨b1,b2,b3,b4⟩,k2⟩:=qbp d r m' x.name
      exact⟨⟨b1.trans hm.1,b2.trans hm.2.1,b3.trans hm.2.2.1,b4.trans hm.2.2.2⟩,o_⟩
     split
     · exact key _ ⟨ff3,ff5,ff6,ff8⟩ (by rw[ff1];omega)
     · exact key _ ⟨rfl,rfl,rfl,rfl⟩ (Nat.le_refl _)
theorem qaQ: ∀(l:List Decl) (m:Mk) (st:List UInt8),vV m (jU l (m,st)).1∧m.toks.length≤(jU l (m,st)).1.toks.length
 |[],m,st=>⟨⟨rfl,rfl,rfl,rfl⟩,Nat.le_refl _⟩
 | d::r,m,st=>by
   rw[ZV]
   have key: ∀m',vV m m'→m.toks.length≤m'.toks.length→vV m (jU r (jf d d.syms (m',st))).1∧m.toks.length≤(jU r (jf d d.syms (m',st))).1.toks.length:=fun m' hm ht=>by
    obtain ⟨⟨a1,a2,a3,a4⟩,k1⟩:=qbp d d.syms m' st
    obtain ⟨⟨b1,b2,b3,b4⟩,k2⟩:=qaQ r (jf d d.syms (m',st)).1 (jf d d.syms (m',st)).2
    exact⟨⟨b1.trans (a1.trans hm.1),b2.trans (a2.trans hm.2.1),b3.trans (a3.trans hm.2.2.1),b4.trans (a4.trans hm.2.2.2)⟩,by show m.toks.length≤(jU r ((jf d d.syms (m',st)).1,(jf d d.syms (m',st)).2)).1.toks.length;omega⟩
   split
   · exact key _ ⟨rfl,rfl,rfl,rfl⟩ (Nat.le_refl _)
   · exact key _ ⟨rfl,rfl,rfl,rfl⟩ (Nat.le_refl _)
theorem qd1: ∀(l:List Rule) (m:Mk),(xL l m).toks=m.toks∧(xL l m).inner=m.inner∧(xL l m).nons=m.nons
 |[],m=>⟨rfl,rfl,rfl⟩
 | r::l,m=>by
   rw[Jg]
   obtain ⟨d1,d2,d3,d4,d5,d6⟩:=qd4 m r
   obtain ⟨h1,h2,h3⟩:=qd1 l (ZM (Qm m r) r.left)
   have e:(ZM (Qm m r) r.left).toks=m.toks∧(ZM (Qm m r) r.left).inner=m.inner∧(ZM (Qm m r) r.left).nons=m.nons:=by
    unfold ZM
    split
    · exact⟨d1,d6,d5⟩
    · exact⟨d1,d6,d5⟩
   exact⟨h1.trans e.1,h2.trans e.2.1,h3.trans e.2.2⟩
theorem qch (kind:Int): ∀(l:List Sym) (m:Mk),yj m (xV kind l m)
 |[],m=>yj.rfl' m
 |x::r,m=>by rw[QW];exact(qyq m kind x).trans' (qch kind r _)
theorem qeB: ∀(l:List Decl) (m:Mk),yj m (Qe l m)
 |[],m=>yj.rfl' m
 |d::r,m=>by rw[ZT];exact(qch d.kind d.syms m).trans' (qeB r _)
def Kj (src:Source):Mk:=Qe src.decls (xL src.rules (jU src.decls ({},[])).1)
def Ju (src:Source):List UInt8:=if (jU src.decls ({},[])).2=[]then(src.rules.headD {}).left else(jU src.decls ({},[])).2
def Xa (src:Source):GPr:={left:=0,right:=[1001+qL (Ju src) (Kj src).lefts 0],prec:= -1}
theorem JO (src:Source):xY src=yw src.rules {Kj src with prods:=[Xa src]}:=rfl
theorem qhr (src:Source):3≤(Kj src).toks.length∧(Kj src).inner=0∧(Kj src).nons=[]:=by
 obtain ⟨⟨a1,a2,a3,a4⟩,k1⟩:=qaQ src.decls {} []
 obtain ⟨l1,l2,l3⟩:=qd1 src.rules (jU src.decls ({},[])).1
 obtain ⟨u1,u2,u3,u4,u5,u6,u7⟩:=qeB src.decls (xL src.rules (jU src.decls ({},[])).1)
 refine⟨?_,?_,?_⟩
 · show 3≤(Qe _ _).toks.length;rw[u1,l1];exact k1
 · show (Qe _ _).inner=0;rw[u7,l2];exact a4
 · show (Qe _ _).nons=[];rw[u6,l3];exact a3
theorem qe7 (src:Source):MInv (xY src)∧HdP (Xa src) (xY src):=by
 obtain ⟨h1,h2,h3⟩:=qhr src
 have hl:=xJ (Ju src) (Kj src).lefts 0
 rw[JO]
 refine⟨qbK _ _ ⟨h1,by dsimp only;omega,fun p hp=>?_,fun p hp s hs=>?_,fun p hp=>?_⟩,qbQ _ _ _ ⟨[],rfl⟩⟩<;>(dsimp only at hp;rw[List.mem_singleton]at hp;subst hp)
 · unfold Xa;dsimp only;omega
 · unfold Xa at hs;dsimp only at hs ⊢;rw[List.mem_singleton]at hs;subst hs
   exact Or.inr ⟨(1+qL (Ju src) (Kj src).lefts 0).toNat,o_,o_⟩
 · exact Or.inl rfl
theorem QU (n:List UInt8): ∀(l:List Alt) (m:Mk),(zS n l m).nons=m.nons∧(zS n l m).lefts=m.lefts
 |[],m=>⟨rfl,rfl⟩
 | a::r,m=>by
   rw[yx]
   obtain ⟨h1,_,h3,_⟩:=qeo m n a
   obtain ⟨k1,k2⟩:=QU n r (ZQ m n a)
   exact⟨k1.trans h3,k2.trans h1⟩
theorem ZO: ∀(l:List Rule) (m:Mk),(yw l m).nons=m.nons∧(yw l m).lefts=m.lefts
 |[],m=>⟨rfl,rfl⟩
 | r::l,m=>by
   rw[vI]
   obtain ⟨h1,h2⟩:=QU r.left r.alts m
   obtain ⟨k1,k2⟩:=ZO l (zS r.left r.alts m)
   exact⟨k1.trans h1,k2.trans h2⟩
theorem qes (m:Mk):(x9 m).toks.length=m.toks.length∧(x9 m).nons.length=1+m.lefts.length+m.inner.toNat∧(x9 m).prods=m.prods:=by
 unfold x9
 dsimp only
 refine⟨Xe _ _ _ _ _,?_,rfl⟩
 rw[List.length_append,List.length_append,XT,qb9];rfl
theorem qfq {src:Source} (h:X5 src=true):YM src=true∧(xY src).e=0∧JB (x9 (xY src))=false∧XH src={toks:=(x9 (xY src)).toks,nons:=(x9 (xY src)).nons,prods:=(x9 (xY src)).prods,pro:=src.pro,tail:=src.tail}:=by
 have h:=of_decide_eq_true h
 unfold XH
 unfold ofS at *
 by_cases h1:YM src=true
 · rw [if_pos h1]at *
   by_cases h2:(xY src).e≠0
   · rw[if_pos h2]at h;exact absurd h h2
   · rw[if_neg h2]at *
     by_cases h3:JB (x9 (xY src))=true
     · rw[if_pos h3]at h;cases h
     · rw[if_neg h3]at *
       exact⟨h1,by simpa using h2,by simpa using h3,rfl⟩
 · rw[if_neg h1]at h;cases h
theorem gok {src:Source} (h:X5 src=true):GOk (XH src):=by
 obtain ⟨_,_,hl,he⟩:=qfq h
 obtain ⟨hi,r,hr⟩:=qe7 src
 obtain ⟨n1,n2,n3⟩:=qes (xY src)
 unfold JB at hl
 simp only[Bool.or_eq_false_iff,decide_eq_false_iff_not,List.any_eq_false,decide_eq_true_eq]at hl
 obtain ⟨⟨⟨l1,l2⟩,l3⟩,l4⟩:=hl
 have hinn:=hi.inn
 rw[he]
 refine⟨?_,?_,?_,?_,?_,?_,fun p hp=>?_,fun p hp=>?_,fun p hp s hs=>?_,fun p hp=>?_,?_⟩<;>dsimp only at *
 · rw[n1];exact hi.tk
 · omega
 · rw[n2];omega
 · omega
 · rw[n3,hr];simp
 · omega
 · rw[n3]at hp;have:=hi.left p hp
   exact⟨p.left.toNat,o_,o_⟩
 · have:=l4 p hp;omega
 · rw[n3]at hp;rw[n1,n2];exact hi.right p hp s hs
 · rw[n3]at hp
   rcases hi.prec p hp with h|⟨h1,h2⟩
   · exact Or.inl h
   · exact Or.inr ⟨p.prec.toNat,o_,o_⟩
 · refine⟨Xa src,r,by rw[n3];exact hr,rfl,(1+qL (Ju src) (Kj src).lefts 0).toNat,?_,?_⟩
   · have:=xJ (Ju src) (Kj src).lefts 0
     unfold Xa;dsimp only
     rw[show (1001+qL (Ju src) (Kj src).lefts 0:Int)=1000+((1+qL (Ju src) (Kj src).lefts 0).toNat:Int) by omega]
   · have:=xJ (Ju src) (Kj src).lefts 0
     have:=(ZO src.rules {Kj src with prods:=[Xa src]}).2
     rw[← JO]at this
     dsimp only at this
     rw[n2,this];omega

theorem Z4 {x:Sym}: ∀{l:List Tok} {i:Nat},(∀(n:Nat) t,l[n]?=some t→ ¬ (t.name=x.name∧t.lit=x.lit∧i+n≠2))→Zr x l i= -1
 |[],i,_=>rfl
 | t::r,i,h=>by
   unfold Zr
   rw[if_neg (by have:=h 0 t rfl;simpa using this)]
   exact Z4 fun n u hu=>by have:=h (n+1) u (by simpa using hu);rwa [show i+1+n=i+(n+1) by omega]
theorem Ja {x:Sym}: ∀{l:List Tok} {i n:Nat} {t:Tok},l[n]?=some t→t.name=x.name→t.lit=x.lit→i+n≠2→0≤Zr x l i
 |[],i,n,t,h,_,_,_=>by simp at h
 | u ::r,i,n,t,h,h1,h2,h3=>by
   unfold Zr
   split
   · omega
   · rename_i hne
     cases n with
     |zero=>simp at h;subst h;exact absurd ⟨h1,h2,o_⟩ hne
     |succ n=>exact Ja (l:=r) (i:=i+1) (n:=n) (t:=t) (by simpa using h) h1 h2 o_
theorem Yg {n:Int}: ∀{l:List Tok} {i:Nat},(∀t∈l,t.num≠n)→KZ n l i= -1
 |[],i,_=>rfl
 | t::r,i,h=>by
   unfold KZ
   rw[if_neg (h t (by simp))]
   exact Yg fun u hu=>h u (List.mem_cons_of_mem _ hu)
theorem XM {n:List UInt8}: ∀{l:List (List UInt8)} {i:Nat},n∈l→0≤qL n l i
 |[],i,h=>by simp at h
 | t ::r,i,h=>by
   unfold qL
   split
   · omega
   · rename_i hne
     rcases List.mem_cons.1 h with h|h
     · exact absurd h.symm hne
     · exact XM h
abbrev core (t:Tok):List UInt8×Bool×Int:=(t.name,t.lit,t.num)
abbrev qFb (j:Nat):List UInt8×Bool×Int:=((jV j).name,true,qaP (jV j))
abbrev qcv:List (List UInt8×Bool×Int):=[([36,101,110,100],false,0),(qky,false,-1),([36,117,110,107],false,-1)]
structure LInv (m:Mk) (js:List Nat):Prop where
 e:m.e=0
 toks:m.toks.map core=qcv++js.map qFb
 nd:js.Nodup
 lt: ∀j∈js,j<4
theorem jN {j:Nat} (h:j<4):(jV j).name=[UInt8.ofNat (112+j)]∧qaP (jV j)=112+j:=by
 rcases j with _ | _ | _ | _ |j
 · exact⟨rfl,rfl⟩
 · exact⟨rfl,rfl⟩
 · exact⟨rfl,rfl⟩
 · exact⟨rfl,rfl⟩
 · omega
theorem qj9 {i j:Nat} (hi:i<4) (hj:j<4) (h:(jV i).name=(jV j).name):i=j:=by
 have h1:=(jN hi).1
 have h2:=(jN hj).1
 rw[h1,h2]at h
 simp only[List.cons.injEq,and_true]at h
 have:=congrArg UInt8.toNat h
 simp at this
 omega
theorem LInv.get {m:Mk} {js:List Nat} (h:LInv m js) {n:Nat} {t:Tok} (ht:m.toks[n]?=some t):(qcv++js.map qFb)[n]?=some (core t):=by rw[← h.toks,List.getElem?_map,ht];rfl
theorem LInv.len {m:Mk} {js:List Nat} (h:LInv m js):m.toks.length=3+js.length:=by have:=congrArg List.length h.toks;simp at this;omega
theorem LInv.tok_in {m:Mk} {js:List Nat} (h:LInv m js) {j:Nat} (hj:j∈js):0≤V4 m.toks (jV j):=by
 obtain ⟨i,hi,he⟩:=List.getElem_of_mem hj
 have hl:=h.len
 have h3:m.toks[3+i]?=some (m.toks[3+i]' o_):=ge_ o_
 have hg:=h.get h3
 rw[List.getElem?_append_right (by simp),show 3+i - qcv.length=i by simp,List.getElem?_map,ge_ hi,he]at hg
 simp only[Option.map_some,Option.some.injEq,Prod.mk.injEq]at hg
 refine Ja (n:=2+i) (t:=m.toks[3+i]' o_) ?_ hg.1.symm ?_ o_
 · rw[List.getElem?_drop,show 1+(2+i)=3+i by omega];exact h3
 · rw[← hg.2.1]
theorem LInv.tok_out {m:Mk} {js:List Nat} (h:LInv m js) {j:Nat} (hj:j ∉ js) (hj4:j<4):V4 m.toks (jV j)= -1:=by
 refine Z4 fun n t ht=>?_
 rw[List.getElem?_drop]at ht
 have hg:=h.get ht
 rintro ⟨h1,h2,h3⟩
 match n,hg with
 |0,hg=>simp at hg;rw[hg.2.1]at h2;cases h2
 |1,hg=>exact absurd rfl h3
 | n +2,hg=>
   rw[List.getElem?_append_right (by simp;omega),List.getElem?_map]at hg
   cases hq:js[1+(n+2) - qcv.length]? with
   |none=>rw[hq]at hg;cases hg
   | some q=>
     rw[hq]at hg
     simp only[Option.map_some,Option.some.injEq,Prod.mk.injEq]at hg
     have hqm:=List.mem_of_getElem? hq
     have:=qj9 (h.lt q hqm) hj4 (hg.1.trans h1)
     subst this;exact hj hqm
theorem LInv.own {m:Mk} {js:List Nat} (h:LInv m js) {j:Nat} (hj:j ∉ js) (hj4:j<4):qgz m.toks (qaP (jV j))= -1:=by
 refine Yg fun t ht e=>?_
 obtain ⟨n,hn⟩:=List.getElem?_of_mem ht
 rw[List.getElem?_drop]at hn
 have hg:=h.get hn
 rw[List.getElem?_append_right (by simp),List.getElem?_map]at hg
 cases hq:js[3+n - qcv.length]? with
 |none=>rw[hq]at hg;cases hg
 | some q=>
   rw[hq]at hg
   simp only[Option.map_some,Option.some.injEq,Prod.mk.injEq]at hg
   have hqm:=List.mem_of_getElem? hq
   have h4:=h.lt q hqm
   have:=(jN h4).2;have:=(jN hj4).2
   have:q=j:=o_
   subst this;exact hj hqm
theorem JX (k:Int):jV k=jV ((k % 4).toNat:Nat):=by
 have h1:=Int.emod_nonneg k (show (4:Int)≠0 by omega)
 unfold jV
 rw[Int.toNat_of_nonneg h1,Int.emod_emod_of_dvd k (Int.dvd_refl 4)]
theorem LInv.put {m:Mk} {js:List Nat} (h:LInv m js) (k:Int): ∃js',LInv (Qc m (jV k)).1 js'∧(∀j∈js,j∈js')∧ ∀j∈js',j∈js∨j=(k % 4).toNat:=by
 have h1:=Int.emod_nonneg k (show (4:Int)≠0 by omega)
 have h2:=Int.emod_lt_of_pos k (show (0:Int)<4 by omega)
 rw[JX k]
 obtain ⟨j,hj⟩: ∃j:Nat,(k % 4).toNat=j:=⟨_,rfl⟩
 have hj4:j<4:=o_
 rw[hj]
 unfold Qc
 by_cases hm:j∈js
 · rw[if_pos (h.tok_in hm)]
   exact⟨js,h,fun _ a=>a,fun _ a=>Or.inl a⟩
 · rw[if_neg (by rw[h.tok_out hm hj4];omega)]
   dsimp only
   rw[if_neg (by rw[h.own hm hj4];rintro ⟨_,e⟩;omega)]
   refine⟨js++[j],⟨h.e,?_,?_,fun q hq=>?_⟩,fun q hq=>List.mem_append_left _ hq,fun q hq=>?_⟩
   · dsimp only;rw[List.map_append,h.toks,List.map_append,List.append_assoc];rfl
   · rw[List.nodup_append]
     exact⟨h.nd,by simp,fun a ha b hb e=>by rw[List.mem_singleton]at hb;subst hb;subst e;exact hm ha⟩
   · rcases List.mem_append.1 hq with hq|hq
     · exact h.lt q hq
     · rw[List.mem_singleton]at hq;subst hq;exact hj4
   · rcases List.mem_append.1 hq with hq|hq
     · exact Or.inl hq
     · rw[List.mem_singleton]at hq;exact Or.inr hq
theorem LInv.err {m:Mk} {js:List Nat} (h:LInv m js):0≤V4 m.toks {name:=qky}:=by
 have hl:=h.len
 have h1:m.toks[1]?=some (m.toks[1]' o_):=ge_ o_
 have hg:=h.get h1
 simp at hg
 refine Ja (n:=0) (t:=m.toks[1]' o_) ?_ hg.1.symm (by rw[hg.2.1]) o_
 rw[List.getElem?_drop];exact h1
theorem LInv.non {m:Mk} {js:List Nat} (h:LInv m js) {k:Nat} (hk:k<4):V4 m.toks {name:=X0 k}= -1:=by
 refine Z4 fun n t ht=>?_
 rw[List.getElem?_drop]at ht
 have hg:=h.get ht
 rintro ⟨h1,h2,h3⟩
 match n,hg with
 | 0,hg=>
   simp at hg
   rw[← hg.1]at h1
   have:=congrArg List.length h1
   simp[qky]at this
 |1,hg=>exact absurd rfl h3
 | n +2,hg=>
   rw[List.getElem?_append_right (by simp;omega),List.getElem?_map]at hg
   cases hq:js[1+(n+2) - qcv.length]? with
   |none=>rw[hq]at hg;cases hg
   | some q=>
     rw[hq]at hg
     simp only[Option.map_some,Option.some.injEq,Prod.mk.injEq]at hg
     rw[← hg.2.1]at h2;cases h2
theorem qeR {m:Mk} {js:List Nat} (h:LInv m js) (t:Int) (k:Tok) (hk:core k=core (Xy m t)) (ht:0≤t∧t<m.toks.length):LInv (QG m t k) js:=by
 refine⟨h.e,?_,h.nd,h.lt⟩
 rw[← h.toks]
 show (m.toks.set t.toNat k).map core=_
 rw[List.map_set,hk]
 refine List.ext_getElem? fun i=>?_
 rw[List.getElem?_set]
 by_cases e:t.toNat=i
 · subst e
   have hlt:t.toNat<m.toks.length:=o_
   rw[if_pos rfl,if_pos (by simpa using hlt),List.getElem?_map]
   unfold Xy
   rw[List.getD_eq_getElem?_getD,ge_ hlt];rfl
 · rw[if_neg e]
theorem qc7 {m:Mk} {js:List Nat} (h:LInv m js) (d:Decl) {i:Nat} (hi:i<4) (hj:i ∉ js) (hk:2≤d.kind∧d.kind≤4) (ht:d.tag=[]):LInv (vG m d (jV i)) (js++[i]):=by
 have hl:=h.len
 have hp:Qc m (jV i)=({m with toks:=m.toks++[{name:=(jV i).name,lit:=true,num:=qaP (jV i)}],given:=m.given++[true]},(m.toks.length:Int)):=by
  unfold Qc
  rw[if_neg (by rw[h.tok_out hj hi];omega)]
  dsimp only
  rw[if_neg (by rw[h.own hj hi];rintro ⟨_,e⟩;omega)]
 have h1:LInv (Qc m (jV i)).1 (js++[i]):=by
  rw[hp]
  refine⟨h.e,?_,?_,fun q hq=>?_⟩
  · dsimp only;rw[List.map_append,h.toks,List.map_append,List.append_assoc];rfl
  · rw[List.nodup_append]
    exact⟨h.nd,by simp,fun a ha b hb e=>by rw[List.mem_singleton]at hb;subst hb;subst e;exact hj ha⟩
  · rcases List.mem_append.1 hq with hq|hq
    · exact h.lt q hq
    · rw[List.mem_singleton]at hq;subst hq;exact hi
 unfold vG
 rw[if_neg o_]
 dsimp only
 have hlast:Xy (Qc m (jV i)).1 (Qc m (jV i)).2={name:=(jV i).name,lit:=true,num:=qaP (jV i)}:=by
  rw[hp];unfold Xy;dsimp only;rw[List.getD_eq_getElem?_getD,Int.toNat_natCast,List.getElem?_append_right (Nat.le_refl _)];simp
 have hr:0≤(Qc m (jV i)).2∧(Qc m (jV i)).2<(Qc m (jV i)).1.toks.length:=by rw[hp];simp;omega
 generalize Qc m (jV i)=q at *
 have hA:LInv (xC q.1 d.kind (jV i) q.2) (js++[i]):=by
  unfold xC
  rw[if_neg o_,hlast]
  dsimp only
  rw[if_neg o_]
  exact qeR h1 _ _ (by rw[hlast]) hr
 have hB:jI (xC q.1 d.kind (jV i) q.2) (jV i) q.2=xC q.1 d.kind (jV i) q.2:=by unfold jI;rw[if_neg (by show ¬ (0:Int)<0;decide)]
 have hC: ∀M,vU M d.tag (jV i) q.2=M:=fun M=>by unfold vU;rw[if_neg (by simp[ht])]
 rw[hB,hC]
 exact hA
theorem Kv (d:Decl) (hk:2≤d.kind∧d.kind≤4) (ht:d.tag=[]): ∀(is:List Nat) (m:Mk) (js:List Nat) (st:List UInt8),LInv m js→(js++is).Nodup→(∀i∈is,i<4)→LInv (jf d (is.map fun i:Nat=>jV i) (m,st)).1 (js++is)∧(jf d (is.map fun i:Nat=>jV i) (m,st)).2=st
 |[],m,js,st,h,_,_=>by rw[List.append_nil];exact⟨h,rfl⟩
 | i::r,m,js,st,h,hn,hl=>by
   rw[List.map_cons,Z8,if_pos o_]
   have e:js++i::r=js++[i]++r:=by simp
   rw[e]at hn ⊢
   have hni:i ∉ js:=fun hm=>by
    rw[List.nodup_append]at hn
    have:=hn.1
    rw[List.nodup_append]at this
    exact this.2.2 i hm i (by simp) rfl
   exact Kv d hk ht r _ _ st (qc7 h d (hl i (by simp)) hni hk ht) hn (fun q hq=>hl q (List.mem_cons_of_mem _ hq))
def Xc (d:Decl) (is:List Nat):Prop:=(2≤d.kind∧d.kind≤4)∧d.tag=[]∧d.syms=(is.map fun i:Nat=>jV i)∧is≠[]
theorem LInv.level {m:Mk} {js:List Nat} (h:LInv m js) (n:Int):LInv {m with level:=n} js:=⟨h.e,h.toks,h.nd,h.lt⟩
theorem qaw: ∀(ds:List Decl) (iss:List (List Nat)) (m:Mk) (js:List Nat) (st:List UInt8),LInv m js→ds.length=iss.length→(∀(k:Nat) d is,ds[k]?=some d→iss[k]?=some is→Xc d is)→(js++iss.flatten).Nodup→(∀i∈iss.flatten,i<4)→LInv (jU ds (m,st)).1 (js++iss.flatten)∧(jU ds (m,st)).2=st
 |[],[],m,js,st,h,_,_,_,_=>by simp;exact⟨h,rfl⟩
 |[],_::_,m,js,st,h,hl,_,_,_=>by simp at hl
 | _::_,[],m,js,st,h,hl,_,_,_=>by simp at hl
 | d::r,is::t,m,js,st,h,hl,hd,hn,hlt=>by
   obtain ⟨hk,ht,hs,_⟩:=hd 0 d is rfl rfl
   rw[List.flatten_cons,← List.append_assoc]at hn ⊢
   rw[List.flatten_cons]at hlt
   rw[ZV,if_pos hk,hs]
   have hn1:(js++is).Nodup:=by rw[List.nodup_append]at hn;exact hn.1
   obtain ⟨h1,h2⟩:=Kv d hk ht is {m with level:=m.level+1} js st (h.level _) hn1 (fun i hi=>hlt i (List.mem_append_left _ hi))
   have e:jf d (is.map fun i:Nat=>jV i) ({m with level:=m.level+1},st)=((jf d (is.map fun i:Nat=>jV i) ({m with level:=m.level+1},st)).1,st):=Prod.ext rfl h2
   rw[e]
   exact qaw r t _ _ st h1 (by simpa using hl) (fun k d is a b=>hd (k+1) d is (by simpa using a) (by simpa using b)) hn (fun i hi=>hlt i (List.mem_append_right _ hi))
theorem QE (l:List Int): ∀n,n≤4→ ∃iss:List (List Nat),(jD l n).length=iss.length∧(∀(k:Nat) d is,(jD l n)[k]?=some d→iss[k]?=some is→Xc d is)∧iss.flatten.Nodup∧ ∀i∈iss.flatten,i<n:=by
 intro n
 induction n with
 |zero=>intro _;exact⟨[],rfl,fun k d is h=>by simp[jD]at h,by simp,fun i h=>by simp at h⟩
 | succ n ih =>
   intro hn
   obtain ⟨iss,h1,h2,h3,h4⟩:=ih o_
   have hx1:=Int.emod_nonneg (l.getD n 0) (show (8:Int)≠0 by omega)
   have hx2:=Int.emod_lt_of_pos (l.getD n 0) (show (0:Int)<8 by omega)
   have hnn:n ∉ iss.flatten:=fun h=>by have:=h4 n h;omega
   show ∃iss:List (List Nat),(yh n (l.getD n 0) (jD l n)).length=iss.length∧(∀(k:Nat) d is,(yh n (l.getD n 0) (jD l n))[k]?=some d→iss[k]?=some is→Xc d is)∧iss.flatten.Nodup∧ ∀i∈iss.flatten,i<n+1
   unfold yh
   split
   · exact⟨iss,h1,h2,h3,fun i hi=>by have:=h4 i hi;omega⟩
   · rename_i hq
     split
     · rename_i hc
       obtain ⟨o,d,ho⟩: ∃o d,jD l n=o++[d]:=⟨_,_,(List.dropLast_concat_getLast hc.2).symm⟩
       have hie:iss≠[]:=fun e=>by rw[e,ho]at h1;simp at h1
       obtain ⟨t,u,ht⟩: ∃t u,iss=t++[u]:=⟨_,_,(List.dropLast_concat_getLast hie).symm⟩
       have hot:o.length=t.length:=by rw[ho,ht]at h1;simpa using h1
       refine⟨t++[u++[n]],?_,fun k e is a b=>?_,?_,fun i hi=>?_⟩
       · rw[ho,Qt];simp[hot]
       · rw [ho,Qt]at a
         by_cases hk:k<o.length
         · rw[List.getElem?_append_left hk]at a
           rw[List.getElem?_append_left o_]at b
           exact h2 k e is (by rw[ho,List.getElem?_append_left hk];exact a) (by rw[ht,List.getElem?_append_left o_];exact b)
         · by_cases hk2:k=o.length
           · subst hk2
             rw[List.getElem?_append_right (Nat.le_refl _)]at a
             rw[hot,List.getElem?_append_right (Nat.le_refl _)]at b
             simp at a b
             subst a b
             obtain ⟨q1,q2,q3,q4⟩:=h2 o.length d u (by rw[ho];simp) (by rw[ht,hot];simp)
             exact⟨q1,q2,by dsimp only;rw[q3,List.map_append];rfl,by simp⟩
           · rw[List.getElem?_eq_none (by simp;omega)]at a;cases a
       · rw[ht]at h3 hnn
         simp only[List.flatten_append,List.flatten_cons,List.flatten_nil,List.append_nil,← List.append_assoc]at h3 hnn ⊢
         rw[List.nodup_append]
         exact⟨h3,by simp,fun a ha b hb e=>by rw[List.mem_singleton]at hb;subst hb;subst e;exact hnn ha⟩
       · simp only[List.flatten_append,List.flatten_cons,List.flatten_nil,List.append_nil,← List.append_assoc]at hi
         rcases List.mem_append.1 hi with hi|hi
         · have hlt:=h4 i (by rw[ht];simpa using hi)
           omega
         · rw[List.mem_singleton]at hi;omega
     · refine⟨iss++[[n]],by simp[h1],fun k e is a b=>?_,?_,fun i hi=>?_⟩
       · by_cases hk:k<(jD l n).length
         · rw[List.getElem?_append_left hk]at a
           rw[List.getElem?_append_left o_]at b
           exact h2 k e is a b
         · by_cases hk2:k=(jD l n).length
           · subst hk2
             rw[List.getElem?_append_right (Nat.le_refl _)]at a
             rw[h1,List.getElem?_append_right (Nat.le_refl _)]at b
             simp only[Nat.sub_self,List.getElem?_cons_zero,Option.some.injEq]at a b
             subst a b
             have hb:2≤1+l.getD n 0 % 8 % 4∧1+l.getD n 0 % 8 % 4≤4:=o_
             exact⟨hb,rfl,rfl,by simp⟩
           · rw[List.getElem?_eq_none (by simp;omega)]at a;cases a
       · rw[List.flatten_append]
         simp only[List.flatten_cons,List.flatten_nil,List.append_nil]
         rw[List.nodup_append]
         exact⟨h3,by simp,fun a ha b hb e=>by rw[List.mem_singleton]at hb;subst hb;subst e;exact hnn ha⟩
       · rw[List.flatten_append]at hi
         rcases List.mem_append.1 hi with hi|hi
         · have:=h4 i hi;omega
         · simp at hi;omega

def Vw (lefts:List (List UInt8)) (x:Sym):Prop:=(∃k:Int,x=jV k)∨(x.lit=false∧x.name∈lefts)∨x={name:=qky}
theorem qdX {m:Mk} {js:List Nat} {x:Sym} (h:LInv m js) (hx:Vw m.lefts x): ∃js',LInv (yt m x).1 js':=by
 rcases hx with ⟨k,rfl⟩|⟨h1,h2⟩|rfl
 · obtain ⟨js',h',_⟩:=h.put k
   exact⟨js',by unfold yt;rw[if_pos rfl];exact h'⟩
 · exact⟨js,by unfold yt;rw[if_neg (by simp[h1]),if_pos (XM h2)];exact h⟩
 · refine⟨js,?_⟩
   unfold yt
   rw[if_neg (by simp)]
   split
   · exact h
   · rw[if_neg (by have:=h.err;omega)];exact h
def yV:List Part→Nat
 |[]=>0
 |w::r=>(if w.code≠[]∧r≠[]then 1 else 0)+yV r
theorem Jc: ∀(l:List Part) (m:Mk) (js:List Nat) (p:GPr),LInv m js→(∀w∈l,w.code≠[]∨Vw m.lefts w.sym)→(∀q∈m.prods,q.right.length≤8)→
 (∃js',LInv (zU l (m,p)).1 js')∧(zU l (m,p)).1.inner≤m.inner+yV l∧(zU l (m,p)).1.prods.length≤m.prods.length+yV l∧ ∀q∈(zU l (m,p)).1.prods,q.right.length≤8
 |[],m,js,p,h,_,hq=>by rw[ZH];exact⟨⟨js,h⟩,by simp[yV],by simp[yV],hq⟩
 | w :: r,m,js,p,h,hg,hq=>by
   rw[vv]
   obtain ⟨y1,y2,y3,y4,y5,y6,y7,y8⟩:=Qf m w.sym
   unfold yV
   by_cases hc:w.code=[]
   · rw[if_pos hc,if_neg (fun e=>e.1 hc)]
     obtain ⟨js1,h1⟩:=qdX h ((hg w (by simp)).resolve_left (fun e=>e hc))
     obtain ⟨k1,k2,k3,k4⟩:=Jc r (yt m w.sym).1 js1 {p with right:=p.right++[(yt m w.sym).2]} h1 (fun u hu=>by rw[y2];exact hg u (List.mem_cons_of_mem _ hu)) (by rw[y3];exact hq)
     exact⟨k1,o_,by rw[y3]at k3;omega,k4⟩
   · rw [if_neg hc]
     by_cases hr:r=[]
     · rw[if_pos hr];exact⟨⟨js,h⟩,by dsimp only;omega,by dsimp only;omega,hq⟩
     · rw[if_neg hr,if_pos ⟨hc,hr⟩]
       obtain ⟨k1,k2,k3,k4⟩:=Jc r {m with inner:=m.inner+1,prods:=m.prods++[{left:=m.lefts.length+(m.inner+1),prec:= -1,code:=w.code,args:=p.right,at_:=w.at_}]} js {p with right:=p.right++[1000+m.lefts.length+(m.inner+1)]} ⟨h.e,h.toks,h.nd,h.lt⟩ (fun u hu=>hg u (List.mem_cons_of_mem _ hu)) (fun q hq2=>by
        dsimp only at hq2
        rcases List.mem_append.1 hq2 with hq2|hq2
        · exact hq q hq2
        · rw[List.mem_singleton]at hq2;subst hq2;simp)
       dsimp only at k2 k3
       rw[List.length_append]at k3
       exact⟨k1,o_,by simp at k3;omega,k4⟩
def Xm (lefts:List (List UInt8)) (a:Alt):Prop:=(∀w∈a.parts,w.code≠[]∨Vw lefts w.sym)∧a.prec={}∧yV a.parts≤1∧a.parts.length≤6
theorem qef {m:Mk} {js:List Nat} (n:List UInt8) {a:Alt} (h:LInv m js) (ha:Xm m.lefts a) (hq: ∀q∈m.prods,q.right.length≤8):
 (∃js',LInv (ZQ m n a) js')∧(ZQ m n a).inner≤m.inner+1∧(ZQ m n a).prods.length≤m.prods.length+2∧(∀q∈(ZQ m n a).prods,q.right.length≤8):=by
 obtain ⟨h1,h2,h3,h4⟩:=ha
 obtain ⟨⟨js',k1⟩,k2,k3,k4⟩:=Jc a.parts m js {left:=1+qL n m.lefts 0,prec:= -1,at_:=a.at_} h h1 hq
 obtain ⟨g1,g2,g3,g4,g5,g6,g7,g8,g9,g10⟩:=ZN a.parts m {left:=1+qL n m.lefts 0,prec:= -1,at_:=a.at_}
 unfold ZQ
 dsimp only
 generalize zU a.parts (m,{left:=1+qL n m.lefts 0,prec:= -1,at_:=a.at_})=q at *
 rw[h2]
 rw[if_neg (by simp)]
 refine⟨⟨js',k1.e,k1.toks,k1.nd,k1.lt⟩,by dsimp only;omega,by dsimp only;rw[List.length_append];simp;omega,fun p hp=>?_⟩
 dsimp only at hp
 rcases List.mem_append.1 hp with hp|hp
 · exact k4 p hp
 · rw[List.mem_singleton]at hp;subst hp;simp at g8 ⊢;omega
theorem Xp (n:List UInt8): ∀(l:List Alt) (m:Mk) (js:List Nat),LInv m js→(∀a∈l,Xm m.lefts a)→(∀q∈m.prods,q.right.length≤8)→
 (∃js',LInv (zS n l m) js')∧(zS n l m).inner≤m.inner+l.length∧(zS n l m).prods.length≤m.prods.length+2 *l.length∧(∀q∈(zS n l m).prods,q.right.length≤8)
 |[],m,js,h,_,hq=>by rw[YF];exact⟨⟨js,h⟩,by simp,by simp,hq⟩
 | a::r,m,js,h,ha,hq=>by
   rw[yx]
   obtain ⟨⟨js1,h1⟩,h2,h3,h4⟩:=qef n h (ha a (by simp)) hq
   obtain ⟨k1,k2,k3,k4⟩:=Xp n r (ZQ m n a) js1 h1 (fun b hb=>by rw[(qeo m n a).1];exact ha b (List.mem_cons_of_mem _ hb)) h4
   exact⟨k1,by rw[List.length_cons];omega,by rw[List.length_cons];omega,k4⟩
def Ya (l:List Rule):Nat:=(l.map fun r=>r.alts.length).sum
theorem YT: ∀(l:List Rule) (m:Mk) (js:List Nat),LInv m js→(∀r∈l,∀a∈r.alts,Xm m.lefts a)→(∀q∈m.prods,q.right.length≤8)→
 (∃js',LInv (yw l m) js')∧(yw l m).inner≤m.inner+Ya l∧(yw l m).prods.length≤m.prods.length+2 *Ya l∧(∀q∈(yw l m).prods,q.right.length≤8)
 |[],m,js,h,_,hq=>by rw[qay];exact⟨⟨js,h⟩,by simp[Ya],by simp[Ya],hq⟩
 | r::l,m,js,h,ha,hq=>by
   rw[vI]
   obtain ⟨⟨js1,h1⟩,h2,h3,h4⟩:=Xp r.left r.alts m js h (ha r (by simp)) hq
   obtain ⟨k1,k2,k3,k4⟩:=YT l (zS r.left r.alts m) js1 h1 (fun q hq2 a hb=>by rw[(QU r.left r.alts m).2];exact ha q (List.mem_cons_of_mem _ hq2) a hb) h4
   have e:Ya (r::l)=r.alts.length+Ya l:=by simp[Ya]
   exact⟨k1,by rw[e];omega,by rw[e];omega,k4⟩
theorem Yx: ∀(l:List Rule) (m:Mk) (js:List Nat),LInv m js→(∀r∈l,∃k:Nat,k<4∧r.left=X0 k)→LInv (xL l m) js∧(xL l m).lefts.length≤m.lefts.length+l.length∧(∀n∈m.lefts,n∈(xL l m).lefts)∧ ∀r∈l,r.left∈(xL l m).lefts
 |[],m,js,h,_=>by rw[KS];exact⟨h,by simp,fun n hn=>hn,fun r hr=>by cases hr⟩
 | r ::l,m,js,h,hl=>by
   rw[Jg]
   obtain ⟨k,hk,hr⟩:=hl r (by simp)
   have hd:Qm m r=m:=by unfold Qm;rw[if_neg (by rw[hr,h.non hk];omega)]
   rw[hd]
   have ha:LInv (ZM m r.left) js∧(ZM m r.left).lefts.length≤m.lefts.length+1∧(∀n∈m.lefts,n∈(ZM m r.left).lefts)∧r.left∈(ZM m r.left).lefts:=by
    unfold ZM
    split
    · exact⟨⟨h.e,h.toks,h.nd,h.lt⟩,by simp,fun n hn=>List.mem_append_left _ hn,by simp⟩
    · rename_i hc
      refine⟨h,o_,fun n hn=>hn,Classical.byContradiction fun hn=>hc ?_⟩
      have: ∀(l:List (List UInt8)) (i:Nat),r.left ∉ l→qL r.left l i= -1:=by
       intro l
       induction l with
       |nil=>intro i _;rfl
       |cons t u ih=>intro i hni;unfold qL;rw[if_neg (fun e=>hni (by simp[e]))];exact ih _ (fun hm=>hni (List.mem_cons_of_mem _ hm))
      rw[this _ _ hn];omega
   obtain ⟨a1,a2,a3,a4⟩:=ha
   obtain ⟨k1,k2,k3,k4⟩:=Yx l (ZM m r.left) js a1 (fun q hq=>hl q (List.mem_cons_of_mem _ hq))
   refine⟨k1,by rw[List.length_cons];omega,fun n hn=>k3 n (a3 n hn),fun q hq=>?_⟩
   rcases List.mem_cons.1 hq with rfl|hq
   · exact k3 _ a4
   · exact k4 q hq
theorem Yv: ∀(ds:List Decl) (m:Mk),(∀d∈ds,d.kind<5)→Qe ds m=m
 |[],m,_=>rfl
 | d::r,m,h=>by
   rw[ZT]
   have hk:=h d (by simp)
   have: ∀(l:List Sym),xV d.kind l m=m:=by
    intro l
    induction l with
    |nil=>rfl
    |cons x t ih=>rw[QW];unfold qkD;rw[if_neg o_];exact ih
   rw[this]
   exact Yv r m (fun e he=>h e (List.mem_cons_of_mem _ he))
theorem kP: ∀(n:Nat) (l:List Nat),l.Nodup→(∀x∈l,x<n)→l.length≤n
 | 0,l,_,h=>by
   cases l with
   |nil=>simp
   |cons a r=>have:=h a (by simp);omega
 | n +1,l,hn,h=>by
   by_cases hm:n∈l
   · have h1:=kP n (l.erase n) (hn.erase n) (fun x hx=>by
      have:=h x (List.mem_of_mem_erase hx)
      have hne:x≠n:=fun e=>by subst e;exact(List.Nodup.mem_erase_iff hn).1 hx |>.1 rfl
      omega)
     rw[List.length_erase_of_mem hm]at h1
     omega
   · have h1:=kP n l hn (fun x hx=>by
      have:=h x hx
      have hne:x≠n:=fun e=>by subst e;exact hm hx
      omega)
     omega
theorem qdt {src:Source} {iss:List (List Nat)} (hmay:YM src=true) (hd1:src.decls.length=iss.length) (hd2: ∀(k:Nat) d is,src.decls[k]?=some d→iss[k]?=some is→Xc d is) (hd3:iss.flatten.Nodup) (hd4: ∀i∈iss.flatten,i<4)
 (hr1:src.rules.length≤4) (hr2: ∀r∈src.rules,∃k:Nat,k<4∧r.left=X0 k) (hr3: ∀lefts,(∀r∈src.rules,r.left∈lefts)→ ∀r∈src.rules,∀a∈r.alts,Xm lefts a) (hr4:Ya src.rules≤15):X5 src=true:=by
 have h0:LInv {} []:=⟨rfl,rfl,by simp,fun j h=>by cases h⟩
 obtain ⟨d1,d2⟩:=qaw src.decls iss {} [] [] h0 hd1 hd2 (by simpa using hd3) hd4
 rw[List.nil_append]at d1
 obtain ⟨l1,l2,l3,l4⟩:=Yx src.rules (jU src.decls ({},[])).1 _ d1 hr2
 have hu:Kj src=xL src.rules (jU src.decls ({},[])).1:=Yv _ _ (fun d hd=>by
  obtain ⟨k,hk⟩:=List.getElem?_of_mem hd
  obtain ⟨is,hi⟩: ∃is,iss[k]?=some is:=⟨_,ge_ (by have:=(List.getElem?_eq_some_iff.1 hk).1;omega)⟩
  have:=(hd2 k d is hk hi).1
  omega)
 have hl0:(jU src.decls ({},[])).1.lefts=[]:=(qaQ src.decls {} []).1.1
 rw[hl0]at l2
 obtain ⟨p1,p2,p3⟩:=qhr src
 have hP:LInv {Kj src with prods:=[Xa src]} iss.flatten:=by
  rw[hu];exact⟨l1.e,l1.toks,l1.nd,l1.lt⟩
 obtain ⟨⟨js,k1⟩,k2,k3,k4⟩:=YT src.rules {Kj src with prods:=[Xa src]} _ hP (hr3 _ (by dsimp only;rw[hu];exact l4)) (fun q hq=>by
  dsimp only at hq;rw[List.mem_singleton]at hq;subst hq;simp[Xa])
 rw[← JO]at k1 k2 k3 k4
 have hn:=kP 4 js k1.nd k1.lt
 have hl:=k1.len
 obtain ⟨n1,n2,n3⟩:=qes (xY src)
 have hll:=(ZO src.rules {Kj src with prods:=[Xa src]}).2
 rw[← JO]at hll
 dsimp only at hll k2 k3
 rw[hu]at hll
 have hlong:JB (x9 (xY src))=false:=by
  unfold JB
  simp only[Bool.or_eq_false_iff,decide_eq_false_iff_not,List.any_eq_false,decide_eq_true_eq]
  refine⟨⟨⟨o_,?_⟩,?_⟩,fun p hp=>?_⟩
  · rw[n2,hll];simp at l2;omega
  · rw[n3];simp at k3;omega
  · rw[n3]at hp;have:=k4 p hp;omega
 unfold X5 ofS
 rw[if_pos hmay,if_neg (by simp[k1.e]),if_neg (by simp[hlong])]
 rfl

theorem JV (x:GrI):1≤xP x∧xP x≤4:=by unfold xP;omega
def xg (l:List Part):Nat:=(l.filter fun w=> !decide (w.code=[])).length
theorem YP (l m:List Part):xg (l++m)=xg l+xg m:=by simp[xg]
theorem KI: ∀(l:List Part),yV l≤xg l
 |[]=>Nat.le_refl _
 | w::r=>by
   have:=KI r
   have e:xg (w::r)=(if w.code=[]then 0 else 1)+xg r:=by
    unfold xg;rw[List.filter_cons];by_cases h:w.code=[]<;>simp[h];omega
   unfold yV;rw[e]
   by_cases h:w.code=[]
   · simp[h];exact this
   · rw[if_neg h];split<;>omega
theorem XO: ∀(l:List Part) (w:Part),yV (l++[w])≤xg l
 |[],w=>by simp[yV]
 | v::r,w=>by
   have:=XO r w
   have e:xg (v::r)=(if v.code=[]then 0 else 1)+xg r:=by
    unfold xg;rw[List.filter_cons];by_cases h:v.code=[]<;>simp[h];omega
   show (if v.code≠[]∧(r++[w])≠[]then 1 else 0)+yV (r++[w])≤_
   rw[e]
   by_cases h:v.code=[]
   · simp[h];exact this
   · rw[if_neg h];split<;>omega
theorem K8 (l:List Int) (n:Nat) (mid:Bool) (j:Nat):xg (xK l n mid j)≤1∧(xK l n mid j).length≤j+1∧(j=0→xK l n mid j=[]):=by
 induction j with
 |zero=>exact⟨by simp[xK,xg],by simp[xK],fun _=>rfl⟩
 | succ j ih=>
   obtain ⟨h1,h2,h3⟩:=ih
   unfold xK
   refine⟨?_,?_,fun h=>by omega⟩
   · rw[YP,YP]
     have e1:xg [({sym:=qfT l n (j+1)}:Part)]=0:=by simp[xg]
     rw[e1]
     by_cases hj:j=0
     · rw[h3 hj]
       split<;>simp[xg,Q6]
     · rw[if_neg (fun e=>hj e.1)]
       simp[xg]at h1 ⊢;exact h1
   · rw[List.length_append,List.length_append]
     by_cases hj:j=0
     · rw[h3 hj];split<;>simp[hj]
     · rw[if_neg (fun e=>hj e.1)];simp;exact h2
theorem Yq {l:List Int} {n:Nat} {mid:Bool} {w:Part}: ∀{j:Nat},w∈xK l n mid j→(∃y:Int,w={sym:=Yi y n})∨w={code:=Q6}
 |0,h=>by cases h
 | j +1,h=>by
   unfold xK at h
   rcases List.mem_append.1 h with h|h
   · rcases List.mem_append.1 h with h|h
     · exact Yq h
     · rw[List.mem_singleton]at h;exact Or.inl ⟨_,h⟩
   · split at h
     · rw[List.mem_singleton]at h;exact Or.inr h
     · cases h
theorem JP {l inner:List Int} {n i:Nat} {w:Part} (h:w∈(qaX l n inner i).parts):(∃y:Int,w={sym:=Yi y n})∨w={code:=Q6}∨w={code:=J7}:=by
 unfold qaX at h
 dsimp only at h
 rcases List.mem_append.1 h with h|h
 · rcases Yq h with h|h
   · exact Or.inl h
   · exact Or.inr (Or.inl h)
 · split at h
   · rw[List.mem_singleton]at h;exact Or.inr (Or.inr h)
   · cases h
theorem qd2 {lefts:List (List UInt8)} {n:Nat} (hn:0<n) (hl: ∀k:Nat,k<n→X0 k∈lefts) (y:Int):Vw lefts (Yi y n):=by
 have e1:=Int.emod_nonneg y (show (14:Int)≠0 by omega)
 have e3:=Int.emod_lt_of_pos (y % 14) (show (0:Int)<n by omega)
 have e4:=Int.emod_nonneg (y % 14) (show (n:Int)≠0 by omega)
 unfold Yi
 split
 · have:=hl (y % 14 % n).toNat o_
   rw[Int.toNat_of_nonneg e4]at this
   exact Or.inr (Or.inl ⟨rfl,this⟩)
 · split
   · exact Or.inr (Or.inr rfl)
   · exact Or.inl ⟨_,rfl⟩
theorem J9 {lefts:List (List UInt8)} {n:Nat} (hn:0<n) (hl: ∀k:Nat,k<n→X0 k∈lefts) (l inner:List Int) (i:Nat):Xm lefts (qaX l n inner i):=by
 obtain ⟨h1,h2,_⟩:=K8 l n (qcY inner i) (min 4 (l.length - 1))
 refine⟨fun w hw=>?_,rfl,?_,?_⟩
 · rcases JP hw with ⟨y,rfl⟩|rfl|rfl
   · exact Or.inr (qd2 hn hl y)
   · exact Or.inl (by simp[Q6])
   · exact Or.inl (by simp[J7])
 · unfold qaX;dsimp only
   split
   · exact Nat.le_trans (XO _ _) h1
   · rw[List.append_nil];exact Nat.le_trans (KI _) h1
 · unfold qaX;dsimp only
   rw[List.length_append]
   split<;>simp<;>omega
theorem vH {x:GrI} {n:Nat}: ∀{i k:Nat} {a:Alt},a∈(zF x n i).1 k→ ∃l j,a=qaX l n x.inner j
 |0,k,a,h=>by cases h
 | i + 1,k,a,h=>by
   unfold zF vF at h
   dsimp only at h
   split at h
   · exact vH h
   · unfold qU at h
     dsimp only at h
     split at h
     · rcases List.mem_append.1 h with h|h
       · exact vH h
       · rw[List.mem_singleton]at h;exact⟨_,_,h⟩
     · exact vH h
theorem JW {x:GrI} {n i k:Nat} {a:Alt} (h:a∈Ze x.bare (zF x n i) k):(∃l j,a=qaX l n x.inner j)∨a={parts:=[{sym:=jV k}]}:=by
 unfold Ze at h
 split at h
 · rcases List.mem_append.1 h with h|h
   · exact Or.inl (vH h)
   · rw[List.mem_singleton]at h;exact Or.inr h
 · exact Or.inl (vH h)
theorem qit (b:Bool) (q:(Nat→List Alt)×(Nat→Bool)) (k:Nat):Ze b q k≠[]:=by
 unfold Ze
 split
 · simp
 · rename_i h;exact fun e=>h (Or.inl e)
theorem qfV {f:Nat→List Alt} {k:Nat} {v:List Alt} (hv:v.length≤(f k).length+1) (n:Nat):((List.range n).map fun q=>(qU f k v q).length).sum≤((List.range n).map fun q=>(f q).length).sum+1∧(n≤k→((List.range n).map fun q=>(qU f k v q).length).sum=((List.range n).map fun q=>(f q).length).sum):=by
 induction n with
 |zero=>simp
 | succ n ih=>
   obtain ⟨h1,h2⟩:=ih
   rw[List.range_succ,List.map_append,List.map_append,List.sum_append,List.sum_append]
   simp only[List.map_cons,List.map_nil,List.sum_cons,List.sum_nil,Nat.add_zero]
   by_cases e:n=k
   · subst e
     have:=h2 (Nat.le_refl _)
     have e3:qU f n v n=v:=by unfold qU;rw[if_pos rfl]
     rw[e3]
     exact⟨o_,fun h=>by omega⟩
   · have e3:qU f k v n=f n:=by unfold qU;rw[if_neg e]
     rw[e3]
     exact⟨o_,fun h=>by have:=h2 o_;omega⟩
theorem qcK (x:GrI) (n i:Nat):((List.range n).map fun q=>((zF x n i).1 q).length).sum≤i:=by
 induction i with
 | zero=>
   have: ∀m,((List.range m).map fun q=>((zF x n 0).1 q).length).sum=0:=fun m=>by
    induction m with
    |zero=>rfl
    |succ m ih=>rw[List.range_succ,List.map_append,List.sum_append,ih];simp[zF]
   rw[this];exact Nat.le_refl _
 | succ i ih=>
   unfold zF vF
   dsimp only
   split
   · omega
   · have:=(qfV (f:=(zF x n i).1) (k:=((x.rules.getD i []).getD 0 0 % (n:Int)).toNat) (v:=(zF x n i).1 ((x.rules.getD i []).getD 0 0 % (n:Int)).toNat++[qaX (x.rules.getD i []) n x.inner i]) (by simp) n).1
     exact Nat.le_trans this o_
theorem qf5 (b:Bool) (q:(Nat→List Alt)×(Nat→Bool)) (n:Nat):((List.range n).map fun k=>(Ze b q k).length).sum≤((List.range n).map fun k=>(q.1 k).length).sum+n:=by
 induction n with
 |zero=>simp
 | succ n ih=>
   rw[List.range_succ,List.map_append,List.map_append,List.sum_append,List.sum_append]
   simp only[List.map_cons,List.map_nil,List.sum_cons,List.sum_nil,Nat.add_zero]
   have:(Ze b q n).length≤(q.1 n).length+1:=by unfold Ze;split<;>simp
   omega
theorem qbH {n:Nat} (hn:0<n) (hn4:n≤4) (y:Int):qbE (Yi y n) false true=true:=by
 have e1:=Int.emod_nonneg y (show (14:Int)≠0 by omega)
 have e3:=Int.emod_lt_of_pos (y % 14) (show (0:Int)<n by omega)
 have e4:=Int.emod_nonneg (y % 14) (show (n:Int)≠0 by omega)
 have hN: ∀k:Nat,k<4→qbE {name:=X0 k} false true=true:=by decide
 have hL: ∀k:Nat,k<4→qbE (jV k) false true=true:=by decide
 unfold Yi
 split
 · have:=hN (y % 14 % n).toNat o_
   rw[Int.toNat_of_nonneg e4]at this;exact this
 · split
   · decide
   · rw[JX];exact hL _ o_
theorem qdv {n:Nat} (hn:0<n) (hn4:n≤4) {l inner:List Int} {i:Nat} {w:Part} (h:w∈(qaX l n inner i).parts):JJ w=true:=by
 rcases JP h with ⟨y,rfl⟩|rfl|rfl
 · exact qbH hn hn4 y
 · decide
 · decide
theorem qbr (x:GrI):YM (zx x)=true:=by
 obtain ⟨h1,h2⟩:=JV x
 obtain ⟨iss,d1,d2,d3,d4⟩:=QE x.levels (min 4 x.levels.length) o_
 have hN: ∀k:Nat,k<4→qac (X0 k)=true:=by decide
 have hL1: ∀k:Nat,k<4→ ∀b,qbE (jV k) b true=true:=by decide
 have hd:(yo x.levels).all XP=true:=List.all_eq_true.2 fun d hd=>by
  obtain ⟨k,hk⟩:=List.getElem?_of_mem hd
  have hki:k<iss.length:=by have h3:=(List.getElem?_eq_some_iff.1 hk).1;unfold yo at h3;omega
  obtain ⟨q1,q2,q3,q4⟩:=d2 k d iss[k] hk (ge_ hki)
  unfold XP qkz
  have hs:d.syms.length≠0:=by rw[q3,List.length_map];exact fun e=>q4 (List.length_eq_zero_iff.1 e)
  rw[Bool.and_eq_true]
  refine⟨?_,List.all_eq_true.2 fun y hy=>?_⟩
  · have e1:decide (d.kind<1)=false:=by rw[decide_eq_false_iff_not];omega
    have e2:decide (6<d.kind)=false:=by rw[decide_eq_false_iff_not];omega
    have e3:decide ((d.syms.length:Int)=0)=false:=by rw[decide_eq_false_iff_not];omega
    have e4:decide (d.kind=6)=false:=by rw[decide_eq_false_iff_not];omega
    have e5:decide (d.kind=5)=false:=by rw[decide_eq_false_iff_not];omega
    rw[e1,e2,e3,e4,e5,q2];rfl
  · rw[q3]at hy
    obtain ⟨i,hi,rfl⟩:=List.mem_map.1 hy
    have hi4:=d4 i (List.mem_flatten.2 ⟨_,List.getElem_mem hki,hi⟩)
    have e5:decide (d.kind<5)=true:=by rw[decide_eq_true_eq];omega
    rw[e5]
    exact hL1 i o_ _
 have hr:(zx x).rules.all Yd=true:=List.all_eq_true.2 fun r hr=>by
  obtain ⟨k,hk,rfl⟩:=List.mem_map.1 hr
  have hkn:=List.mem_range.1 hk
  unfold Yd
  rw[Bool.and_eq_true,Bool.and_eq_true]
  refine⟨⟨hN k o_,by simp[qit]⟩,List.all_eq_true.2 fun a ha=>?_⟩
  rcases JW ha with ⟨l,j,rfl⟩|rfl
  · unfold qeM
    rw[Bool.and_eq_true]
    exact⟨List.all_eq_true.2 fun w hw=>qdv o_ o_ hw,rfl⟩
  · unfold qeM
    rw[Bool.and_eq_true]
    refine⟨?_,rfl⟩
    simp[JJ,hL1 k o_]
 have hne:(zx x).rules≠[]:=fun e=>by
  have:=congrArg List.length e
  simp[zx]at this;omega
 unfold YM
 rw[hr]
 have hp:(zx x).pro=[]:=rfl
 have hdd:(zx x).decls=yo x.levels:=rfl
 rw[hp,hdd,hd]
 simp[hne,qhs]
theorem Ym (x:GrI):X5 (zx x)=true:=by
 obtain ⟨h1,h2⟩:=JV x
 obtain ⟨iss,d1,d2,d3,d4⟩:=QE x.levels (min 4 x.levels.length) o_
 refine qdt (iss:=iss) (qbr x) d1 d2 d3 (fun i hi=>by have:=d4 i hi;omega) (by simp[zx];exact h2) (fun r hr=>?_) (fun lefts hl r hr a ha=>?_) ?_
 · obtain ⟨k,hk,rfl⟩:=List.mem_map.1 hr
   have:=List.mem_range.1 hk
   exact⟨k,o_,rfl⟩
 · have hll: ∀k:Nat,k<xP x→X0 k∈lefts:=fun k hk=>hl {left:=X0 k,alts:=Ze x.bare (zF x (xP x) (min 9 x.rules.length)) k} (List.mem_map.2 ⟨k,List.mem_range.2 hk,rfl⟩)
   obtain ⟨k,hk,rfl⟩:=List.mem_map.1 hr
   rcases JW ha with ⟨l,j,rfl⟩|rfl
   · exact J9 o_ hll l x.inner j
   · exact⟨fun w hw=>by rw[List.mem_singleton]at hw;subst hw;exact Or.inr (Or.inl ⟨_,rfl⟩),rfl,by simp[yV],by simp⟩
 · have e:Ya (zx x).rules=((List.range (xP x)).map fun k=>(Ze x.bare (zF x (xP x) (min 9 x.rules.length)) k).length).sum:=by
    unfold Ya zx;dsimp only;rw[List.map_map];rfl
   have:=qf5 x.bare (zF x (xP x) (min 9 x.rules.length)) (xP x)
   have:=qcK x (xP x) (min 9 x.rules.length)
   omega
theorem ZX: ∀{iss:List (List Nat)},iss.flatten.Nodup→ ∀is∈iss,is.Nodup
 |[],_,is,h=>by cases h
 | a::r,hn,is,h=>by
   rw[List.flatten_cons,List.nodup_append]at hn
   rcases List.mem_cons.1 h with rfl|h
   · exact hn.1
   · exact ZX hn.2.1 is h
theorem JA (x:GrI):(zx x).Fits:=by
 obtain ⟨h1,h2⟩:=JV x
 obtain ⟨iss,d1,d2,d3,d4⟩:=QE x.levels (min 4 x.levels.length) o_
 have hlen:(yo x.levels).length≤4:=by
  have h5:iss.length≤iss.flatten.length:=by
   have hne: ∀is∈iss,is≠[]:=fun is hi=>by
    obtain ⟨k,hk⟩:=List.getElem?_of_mem hi
    obtain ⟨d,hd⟩: ∃d,(jD x.levels (min 4 x.levels.length))[k]?=some d:=⟨_,ge_ (by have:=(List.getElem?_eq_some_iff.1 hk).1;omega)⟩
    exact(d2 k d is hd hk).2.2.2
   clear d1 d2 d3 d4
   induction iss with
   |nil=>simp
   | cons a r ih=>
     have:=ih fun is hi=>hne is (List.mem_cons_of_mem _ hi)
     have ha:=List.length_pos_iff.2 (hne a (by simp))
     rw[List.flatten_cons,List.length_append,List.length_cons];omega
  have h6:=kP (min 4 x.levels.length) _ d3 d4
  show (jD x.levels (min 4 x.levels.length)).length≤4
  omega
 refine⟨by simp[zx],by simp[zx],by show (yo x.levels).length≤_;omega,fun d hd=>?_,by simp[zx];omega,fun r hr=>?_⟩
 · obtain ⟨k,hk⟩:=List.getElem?_of_mem hd
   have hki:k<iss.length:=by have h3:=(List.getElem?_eq_some_iff.1 hk).1;unfold zx yo at h3;dsimp only at h3;omega
   obtain ⟨q1,q2,q3,q4⟩:=d2 k d iss[k] hk (ge_ hki)
   have h6:iss[k].length≤4:=kP 4 _ (ZX d3 _ (List.getElem_mem hki)) (fun i hi=>by have:=d4 i (List.mem_flatten.2 ⟨_,List.getElem_mem hki,hi⟩);omega)
   refine⟨by simp[q2],by rw[q3,List.length_map];omega,fun y hy=>?_⟩
   rw[q3]at hy
   obtain ⟨i,hi,rfl⟩:=List.mem_map.1 hy
   have hi4:=d4 i (List.mem_flatten.2 ⟨_,List.getElem_mem hki,hi⟩)
   rw[(jN (show i<4 by omega)).1];simp
 · obtain ⟨k,hk,rfl⟩:=List.mem_map.1 hr
   have hkn:=List.mem_range.1 hk
   have hfl:(Ze x.bare (zF x (xP x) (min 9 x.rules.length)) k).length≤20:=by
    have:=QD x (xP x) (min 9 x.rules.length) k
    unfold Ze;split<;>simp<;>omega
   have hsn: ∀y:Int,(Yi y (xP x)).name.length≤5:=fun y=>by
    have hg:=qbH (n:=xP x) o_ o_ y
    unfold Yi
    split
    · simp
    · split
      · simp
      · rw[JX,(jN (show ((y % 14 - 5) % 4).toNat<4 by omega)).1];simp
   refine⟨by simp,by dsimp only;omega,fun a ha=>?_⟩
   rcases JW ha with ⟨l,j,rfl⟩|rfl
   · obtain ⟨_,_,_,g4⟩:=J9 (lefts:=(List.range (xP x)).map fun k:Nat=>X0 k) (n:=xP x) o_ (fun k hk=>List.mem_map.2 ⟨k,List.mem_range.2 hk,rfl⟩) l x.inner j
     refine⟨o_,fun w hw=>?_,by simp[qaX]⟩
     rcases JP hw with ⟨y,rfl⟩|rfl|rfl
     · exact⟨by have:=hsn y;dsimp only;omega,by simp⟩
     · exact⟨by simp,by simp[Q6]⟩
     · exact⟨by simp,by simp[J7]⟩
   · refine⟨by simp,fun w hw=>?_,by simp⟩
     rw[List.mem_singleton]at hw;subst hw
     rw[Part.Fits,(jN (show k<4 by omega)).1];simp
theorem YV (x:GrI):Small (zx x):=by
 obtain ⟨h1,h2⟩:=JV x
 obtain ⟨f1,f2,f3,f4,f5,f6⟩:=JA x
 obtain ⟨iss,d1,d2,d3,d4⟩:=QE x.levels (min 4 x.levels.length) o_
 have hd: ∀d∈(zx x).decls,∃is:List Nat,Xc d is∧is.length≤4∧ ∀i∈is,i<4:=fun d hd=>by
  obtain ⟨k,hk⟩:=List.getElem?_of_mem hd
  have hki:k<iss.length:=by have h3:=(List.getElem?_eq_some_iff.1 hk).1;unfold zx yo at h3;dsimp only at h3;omega
  have hi4: ∀i∈iss[k],i<4:=fun i hi=>by have:=d4 i (List.mem_flatten.2 ⟨_,List.getElem_mem hki,hi⟩);omega
  exact⟨iss[k],d2 k d iss[k] hk (ge_ hki),kP 4 _ (ZX d3 _ (List.getElem_mem hki)) hi4,hi4⟩
 have hlen:(zx x).decls.length≤4:=by
  have h5:iss.length≤iss.flatten.length:=by
   have hne: ∀is∈iss,is≠[]:=fun is hi=>by
    obtain ⟨k,hk⟩:=List.getElem?_of_mem hi
    obtain ⟨d,hd⟩: ∃d,(jD x.levels (min 4 x.levels.length))[k]?=some d:=⟨_,ge_ (by have:=(List.getElem?_eq_some_iff.1 hk).1;omega)⟩
    exact(d2 k d is hd hk).2.2.2
   clear d1 d2 d3 d4
   induction iss with
   |nil=>simp
   | cons a r ih=>
     have:=ih fun is hi=>hne is (List.mem_cons_of_mem _ hi)
     have ha:=List.length_pos_iff.2 (hne a (by simp))
     rw[List.flatten_cons,List.length_append,List.length_cons];omega
  have h6:=kP (min 4 x.levels.length) _ d3 d4
  show (jD x.levels (min 4 x.levels.length)).length≤4
  omega
 have hsn: ∀y:Int,(Yi y (xP x)).lit=true→(Yi y (xP x)).name≠[]:=fun y=>by
  unfold Yi
  split
  · intro e;cases e
  · split
    · intro e;cases e
    · intro _;rw[JX,(jN (show ((y % 14 - 5) % 4).toNat<4 by omega)).1];simp
 have ha: ∀r∈(zx x).rules,r.alts.length≤20∧ ∀a∈r.alts,a.parts.length≤6∧a.prec={}∧ ∀w∈a.parts,w.sym.lit=true→w.sym.name≠[]:=fun r hr=>by
  obtain ⟨k,hk,rfl⟩:=List.mem_map.1 hr
  have hkn:=List.mem_range.1 hk
  refine⟨?_,fun a ha=>?_⟩
  · have:=QD x (xP x) (min 9 x.rules.length) k
    dsimp only
    unfold Ze;split<;>simp<;>omega
  · rcases JW ha with ⟨l,j,rfl⟩|rfl
    · obtain ⟨_,g2,_,g4⟩:=J9 (lefts:=(List.range (xP x)).map fun k:Nat=>X0 k) (n:=xP x) o_ (fun k hk=>List.mem_map.2 ⟨k,List.mem_range.2 hk,rfl⟩) l x.inner j
      refine⟨g4,g2,fun w hw=>?_⟩
      rcases JP hw with ⟨y,rfl⟩|rfl|rfl
      · exact hsn y
      · intro e;cases e
      · intro e;cases e
    · refine⟨by simp,rfl,fun w hw _=>?_⟩
      rw[List.mem_singleton]at hw;subst hw
      rw[(jN (show k<4 by omega)).1];simp
 refine⟨o_,fun d h=>?_,fun d h=>?_,fun d h y hy _=>?_,?_,fun r hr=>?_,fun r hr a h=>?_,fun r hr a h w hw=>?_,fun r hr a h e=>?_⟩
 · obtain ⟨is,⟨q1,q2,q3,q4⟩,h5,h6⟩:=hd d h
   rw[q3,List.length_map];omega
 · obtain ⟨is,⟨q1,q2,q3,q4⟩,h5,h6⟩:=hd d h
   omega
 · obtain ⟨is,⟨q1,q2,q3,q4⟩,h5,h6⟩:=hd d h
   rw[q3]at hy
   obtain ⟨i,hi,rfl⟩:=List.mem_map.1 hy
   rw[(jN (h6 i hi)).1];simp
 · simp[zx];omega
 · have:=(ha r hr).1;omega
 · have:=((ha r hr).2 a h).1;omega
 · exact((ha r hr).2 a h).2.2 w hw
 · rw[((ha r hr).2 a h).2.1]at e;cases e

set_option maxHeartbeats 4000000
def zB (token:Bool) (h:Nat→Bool) (l:List Int):Bool:=l.all fun s=>if s<1000 then token else h (s - 1000).toNat
def Qn (g:Grammar) (token:Bool) (E:Nat→Bool):Prop:= ∀p∈g.prods,zB token E p.right=true→E p.left.toNat=true
structure IsGrow (g:Grammar) (token:Bool) (E:Nat→Bool):Prop where
 closed:Qn g token E
 least: ∀F,Qn g token F→ ∀k,E k=true→F k=true
theorem IsGrow.uniq {g:Grammar} {token:Bool} {E F:Nat→Bool} (h:IsGrow g token E) (k:IsGrow g token F):E=F:=by
 funext n
 rw[Bool.eq_iff_iff]
 exact⟨h.least F k.closed n,k.least E h.closed n⟩
theorem QI {token:Bool} {h F:Nat→Bool} (hh: ∀k,h k=true→F k=true) {l:List Int} (hl:zB token h l=true):zB token F l=true:=by
 unfold zB at *
 rw[List.all_eq_true]at *
 intro s hs
 have:=hl s hs
 split
 · rename_i h1;rwa [if_pos h1]at this
 · rename_i h1;rw[if_neg h1]at this;exact hh _ this
theorem Yf {token:Bool} {h:Nat→Bool} {l:List Int} {i:Nat} (hi:i<l.length) (ht: ∀s∈l.take i,(if s<1000 then token else h (s - 1000).toNat)=true):(if l[i]<1000 then token else h (l[i] - 1000).toNat)=false→zB token h l=false:=fun hf=>
 List.all_eq_false.2 ⟨l[i],List.getElem_mem hi,by rw[hf];exact Bool.false_ne_true⟩
def cf (h:Nat→Bool):Nat→Nat
 |0=>0
 |n+1=>cf h n+if h n=true then 0 else 1
theorem qep {h:Nat→Bool} {k:Nat} (hk:h k=false): ∀n,(n≤k→cf (qU h k true) n=cf h n)∧(k<n→cf (qU h k true) n+1=cf h n)
 |0=>⟨fun _=>rfl,fun h=>by omega⟩
 | n +1=>by
   obtain ⟨h1,h2⟩:=qep hk n
   unfold cf
   by_cases e:n=k
   · subst e
     have e2:qU h n true n=true:=by unfold qU;rw[if_pos rfl]
     rw[e2,h1 (Nat.le_refl _),hk]
     exact⟨fun h=>by omega,fun _=>by simp⟩
   · have e2:qU h k true n=h n:=by unfold qU;rw[if_neg e]
     rw[e2]
     exact⟨fun h=>by rw[h1 o_],fun h=>by have:=h2 o_;omega⟩
theorem YE (n:Nat) (h:Nat→Bool):Cls' (kU n h):=inferInstanceAs (Cls' (List.map _ _))
theorem qzJ {P:Program} [Glob P] {cls:Cls} {id:Nat} {s:St} {K:V→St→Prop} {f a:Opd} {fid:FuncId} {caps as':List V} {x res:V} (hf:ev s f=.fn fid caps) (ha:ev s a=x) (hc:(cls == .r)=false) (hE:Ers true s.H (x::caps) as') (hp:Pure P fid as' res) (hfl:Flat res) (hk:K res s):qj P cls id s K (.call f [a]):=by
 show (match ev s f with
  | .fn fid caps=>
    (∃bor as' res,(cls=.r→bor=false)∧Ers bor s.H ([a].map (ev s)++caps) as'∧Pure P fid as' res∧(bor=true→Flat res)∧K res s)∨
    (qz0 cls=true∧z8 P fid ([a].map (ev s)++caps) s.H s.next fun v H' next'=>qaN cls s.next s.H H' next'∧K v {s with H:=H',next:=next'})
  | _=>False)
 rw[hf]
 subst ha
 exact Or.inl ⟨true,as',res,fun e=>(by subst e;cases hc),hE,hp,fun _=>hfl,hk⟩
theorem qaI {p:GPr} {token:Bool} {h:Nat→Bool} {n:Nat} (hr: ∀s∈p.right,s<1000∨ ∃k:Nat,s=1000+(k:Int)∧k<n) (hl:p.right.length≤1000000) (hn:n≤1000000):Pure Tryd.prog 40 [p.V,.iptr 1 (.bool token) 0,.iptr 1 (.sl 1 false (kU n h)) 0] (.bool (zB token h p.right)):=by
 refine pure_intro Tryd.func40 nm_ qpv (by show 3≤33;decide) ?_
 show ewp _ qhf _ _
 repeat' with_reducible first
  |refine s_ ?_
  |simp only[wZZ,seval]
  |refine t_ ?_
 refine ql ?nx1 (fun(i:Nat) s=>s.f 1=?v1_1∧s.f 2=?v1_2∧s.f 8=?v1_8∧s.f 9=?v1_9∧s.f 10=vi i∧(i≤p.right.length)∧(∀s∈p.right.take i,(if s<1000 then token else h (s - 1000).toNat)=true)) (fun i=>p.right.length - i) (0) wj_ (by refine⟨?_,?_,?_,?_,?_,wo_,wo_⟩<;>first|(simp only[wL,wM,wN,wX,seval,Option.some.injEq]<;>exact wt_)|rfl|exact⟨_,rfl⟩) ?_
 intro i s hnx ⟨g1,g2,g8,g9,g10,k1_0,k1_1⟩
 have hz:=w1_ i
 by_cases hi:i<p.right.length
 · have hst:=Yf hi k1_1
   have hnx:(if p.right[i]<1000 then token else h (p.right[i] - 1000).toNat)=true→ ∀s∈p.right.take (i+1),(if s<1000 then token else h (s - 1000).toNat)=true:=fun hh s hs=>by
    rw[List.take_add_one,ge_ hi]at hs
    rcases List.mem_append.1 hs with hs|hs
    · exact k1_1 s hs
    · simp at hs;subst hs;exact hh
   rcases hr _ (List.getElem_mem hi)with hs|⟨k,hk,hkn⟩
   · rw [if_pos hs]at hst hnx
     cases token with
     | true=>
       repeat' with_reducible first
        |refine s_ ?_
        |simp only[wZZ,seval,g1,g2,g8,g9,g10,hz]
        |(first|apply qc|apply qO|apply qN)<;>intro h h_<;>(try simp only[wD,reduceCtorEq]at h_)<;>(try exact wb_)<;>(try simp only[h])
        |refine t_ ?_
       refine⟨wk_,i+1,o_,?_⟩
       refine⟨?_,?_,?_,?_,?_,?_,?_⟩
       iterate 5 (focus(first|(simp only[wL,wM,wN,wX,seval,Option.some.injEq,g1,g2,g8,g9,g10]<;>exact wt_)|rfl|exact⟨_,rfl⟩))
       all_goals try omega
       exact hnx rfl
     | false=>
       rw[hst rfl]
       repeat' with_reducible first
        |refine s_ ?_
        |simp only[wZZ,seval,g1,g2,g8,g9,g10,hz]
        |(first|apply qc|apply qO|apply qN)<;>intro h h_<;>(try simp only[wD,reduceCtorEq]at h_)<;>(try exact wb_)<;>(try simp only[h])
        |refine t_ ?_
       refine qP rfl (Or.inr rfl) ?_
       simp only[wL,seval,g1,g2,g8,g9,g10]
       refine er_ ?_
       try(with_reducible rfl)
   · have hz2:IntKind.i64.wrap (1000+(k:Int) - 1000)=(k:Int):=by rw[wrap64 o_ o_];omega
     rw[if_neg o_,hk,show ((1000+(k:Int)) - 1000).toNat=k by omega]at hst hnx
     have hbg:=xE (h:=h) hkn
     cases hb:h k with
     | true=>
       repeat' with_reducible first
        |refine s_ ?_
        |simp only[wZZ,seval,g1,g2,g8,g9,g10,hz,hk,hz2,hb]
        |(first|apply qc|apply qO|apply qN)<;>intro h h_<;>(try simp only[wD,reduceCtorEq]at h_)<;>(try exact wb_)<;>(try simp only[h])
        |(apply jK (Zp o_ (by with_unfolding_all exact hbg)))
        |refine t_ ?_
       refine⟨wk_,i+1,o_,?_⟩
       refine⟨?_,?_,?_,?_,?_,?_,?_⟩
       iterate 5 (focus(first|(simp only[wL,wM,wN,wX,seval,Option.some.injEq,g1,g2,g8,g9,g10]<;>exact wt_)|rfl|exact⟨_,rfl⟩))
       all_goals try omega
       exact hnx hb
     | false=>
       rw[hst hb]
       repeat' with_reducible first
        |refine s_ ?_
        |simp only[wZZ,seval,g1,g2,g8,g9,g10,hz,hk,hz2,hb]
        |(first|apply qc|apply qO|apply qN)<;>intro h h_<;>(try simp only[wD,reduceCtorEq]at h_)<;>(try exact wb_)<;>(try simp only[h])
        |(apply jK (Zp o_ (by with_unfolding_all exact hbg)))
        |refine t_ ?_
       refine qP rfl (Or.inr rfl) ?_
       simp only[wL,seval,g1,g2,g8,g9,g10]
       refine er_ ?_
       try(with_reducible rfl)
 · rw[List.take_of_length_le o_]at k1_1
   have e:zB token h p.right=true:=List.all_eq_true.2 k1_1
   rw[e]
   repeat' with_reducible first
    |refine s_ ?_
    |simp only[wZZ,seval,g1,g2,g8,g9,g10]
    |apply qc<;>intro h h_<;>(try simp only[wD,reduceCtorEq]at h_)<;>(try exact wb_)<;>(try simp only[h])
   refine qP rfl (Or.inr rfl) ?_
   simp only[wL,seval,g1,g2,g8,g9,g10]
   refine er_ ?_
   try(with_reducible rfl)

theorem qeL {H:Nat→Option MObj} {id sz:Nat} {ro:Bool} {e e':V} (hH:H id=some (.own sz [e] ro)) (h:Er true H e e'):Er true H (.ptr id 0 0) (.iptr sz e' 0):= .ptr id 0 0 sz _ ro _ _ rfl hH rfl h
theorem qa6 {H:Nat→Option MObj} {id n:Nat} {ro:Bool} {h:Nat→Bool} (hH:H id=some (.own 1 (kU n h) ro)):Er true H (.msl id 1 0 n) (.sl 1 false (kU n h)):=by
 have:=YE n h
 exact jM hH (by rw[yK];omega) (by rw[List.drop_zero];exact List.take_of_length_le (by rw[yK];omega))
instance gpr_cl (p:GPr):Cl p.V:=⟨fun b H=>ErL.agg (.cons (.int _ _) (.cons qD (.cons (.int _ _) (.cons (.str _) (.cons qD (.cons (.int _ _) .nil))))))⟩
theorem GOk.rt {g:Grammar} (h:GOk g) {p:GPr} (hp:p∈g.prods): ∀s∈p.right,s<1000∨ ∃k:Nat,s=1000+(k:Int)∧k<g.nons.length:=fun s hs=>by
 rcases h.right p hp s hs with ⟨t,e,l⟩|⟨k,e,l⟩
 · have:=h.tk2;exact Or.inl o_
 · exact Or.inr ⟨k,e,l⟩
theorem Qh {g:Grammar} {token:Bool} (hg:GOk g): ∃E,IsGrow g token E∧Pure Tryd.prog 23 [g.V,.bool token] (.sl 1 false (kU g.nons.length E)):=by
 have hh:=qio (G:=fun v=> ∃E,v=.sl 1 false (kU g.nons.length E)∧IsGrow g token E) (args:=[g.V,.bool token]) Tryd.func23 nm_ qiH (by show 2≤40;decide) ?_
 · obtain ⟨v,⟨E,rfl,h⟩,h2⟩:=hh
   exact⟨E,h,h2⟩
 show ewp _ qdK _ _
 have hnl:=hg.nn2;have hpl:=hg.pl2
 have hb0:=qdN g.nons.length
 repeat' with_reducible first
  |refine s_ ?_
  |simp only[wZZ,seval]
  |refine t_ ?_
  |apply qw;exact wu_;exact wu_;exact wu_
  |apply zD;exact wf_;exact wf_;(focus(unfold maxLen;first|omega|(simp only[wZ]<;>omega)))
 rw[hb0]
 refine ql ?nx1 (fun(q:(Nat→Bool)×Bool) s=>s.f 2=?v1_2∧s.f 5=?v1_5∧s.f 6=?v1_6∧s.H 0=some (MObj.own 5 [g.V] false)∧s.H 1=some (MObj.own 1 [.bool token] false)∧s.H 7=some (MObj.own 1 [.msl 6 1 0 g.nons.length] false)∧s.f 7=.bool q.2∧((s.H 6=some (MObj.own 1 (kU g.nons.length q.1) false)))∧((∀F,Qn g token F→ ∀k,q.1 k=true→F k=true))∧((q.2=false→Qn g token q.1))) (fun q=>2 *cf q.1 g.nons.length+(if q.2=true then 1 else 0)) ((fun _=>false,true)) wj_ (by refine⟨?_,?_,?_,?_,?_,?_,?_,wc_,(by intro F _ k h;cases h),(by intro h;cases h)⟩<;>first|(simp only[wL,wM,wN,wX,seval,Option.some.injEq]<;>exact wt_)|rfl|exact⟨_,rfl⟩) ?_
 intro q s hnx ⟨g2,g5,g6,o0,o1,o2,g7,k1_0,k1_1,k1_2⟩
 obtain ⟨h,b⟩:=q
 dsimp only at *
 cases b with
 | false=>
   have hcl:=k1_2 rfl
   repeat' with_reducible first
    |refine s_ ?_
    |simp only[wZZ,seval,g2,g5,g6,g7,o0,o1,o2,k1_0]
    |apply qi;exact wu_
   refine⟨_,⟨h,rfl,hcl,k1_1⟩,Or.inr rfl,.msl 6 1 0 g.nons.length,?_,qa6 (ro:=false) ?_⟩
   · show qgD _ [.inl 4]=_
     simp[qgD,qeO,one,wL]
   · (simp only[wM];(repeat first|rw[if_pos trivial]|rw[if_pos rfl]|rw[if_neg o_]));exact k1_0
 | true =>
   repeat' with_reducible first
    |refine s_ ?_
    |simp only[wZZ,seval,g2,g5,g6,g7,o0,o1,o2,k1_0]
    |refine t_ ?_
   refine ql ?nx2 (fun(r:Nat×(Nat→Bool)×Bool) s=>s.f 2=?v2_2∧s.f 5=?v2_5∧s.f 6=?v2_6∧s.f 17=?v2_17∧s.f 18=?v2_18∧s.H 0=some (MObj.own 5 [g.V] false)∧s.H 1=some (MObj.own 1 [.bool token] false)∧s.H 7=some (MObj.own 1 [.msl 6 1 0 g.nons.length] false)∧s.f 7=.bool r.2.2∧s.f 19=vi r.1∧(r.1≤g.prods.length)∧((s.H 6=some (MObj.own 1 (kU g.nons.length r.2.1) false)))∧((∀F,Qn g token F→ ∀k,r.2.1 k=true→F k=true))∧((r.2.2=false→r.2.1=h∧ ∀p∈g.prods.take r.1,zB token h p.right=true→h p.left.toNat=true))∧((r.2.2=true→cf r.2.1 g.nons.length<cf h g.nons.length))) (fun r=>g.prods.length - r.1) ((0,h,false)) wj_ (by refine⟨?_,?_,?_,?_,?_,?_,?_,?_,?_,?_,wo_,(by(simp only[wM];(repeat first|rw[if_pos trivial]|rw[if_pos rfl]|rw[if_neg o_]));exact k1_0),(by exact k1_1),(by exact fun _=>⟨rfl,fun p hp=>by simp at hp⟩),(by intro h;cases h)⟩<;>first|(simp only[wL,wM,wN,wX,seval,Option.some.injEq,g2,g5,g6,g7,o0,o1,o2]<;>exact wt_)|rfl|exact⟨_,rfl⟩) ?_
   intro r s hnx ⟨g2,g5,g6,g17,g18,o0,o1,o2,g7,g19,k2_0,k2_1,k2_2,k2_3,k2_4⟩
   obtain ⟨i,h',b'⟩:=r
   dsimp only at *
   have hz:=w1_ i
   by_cases hi:i<g.prods.length
   · have hmem:=List.getElem_mem hi
     obtain ⟨lf,hl1,hl2⟩:=hg.left _ hmem
     have hrt:=hg.rt hmem
     have hrl:=hg.rlen _ hmem
     have htk:g.prods.take (i+1)=g.prods.take i++[g.prods[i]]:=by rw[List.take_add_one,ge_ hi];rfl
     generalize hp:g.prods[i]=p at *
     have hcl:=qaI (p:=p) (token:=token) (h:=h') (n:=g.nons.length) hrt o_ o_
     have hgp:g.prods[i]?=some p:=by rw[ge_ hi,hp]
     have hpm:p∈g.prods:=hp ▸ List.getElem_mem hi
     clear hp
     obtain ⟨pl,pr,pc,pco,pa,pat⟩:=p
     dsimp only at hl1 hrt hrl hcl
     subst hl1
     have hnew:(b'=false→h'=h∧ ∀p∈g.prods.take i,zB token h p.right=true→h p.left.toNat=true)→(zB token h' pr=true→h' lf=true)→(b'=false→h'=h∧ ∀p∈g.prods.take (i+1),zB token h p.right=true→h p.left.toNat=true):=fun q1 q2 hb=>by
      obtain ⟨e1,e2⟩:=q1 hb
      refine⟨e1,fun p hp hf=>?_⟩
      rw[htk]at hp
      rcases List.mem_append.1 hp with hp|hp
      · exact e2 p hp hf
      · rw[List.mem_singleton]at hp;subst hp
        subst e1
        exact q2 hf
     repeat' with_reducible first
      |refine s_ ?_
      |simp only[wZZ,seval,g2,g5,g6,g17,g18,g7,g19,o0,o1,o2,k2_1,hz]
      |(first|apply qc|apply qO|apply qN)<;>intro h h_<;>(try simp only[wD,reduceCtorEq]at h_)<;>(try exact wb_)<;>(try simp only[h])
      |(refine ldB hl2 ?_)
      |refine t_ ?_
      |apply qi;exact wu_
      |simp(disch:=omega) only[w64,if_neg]
     · refine qzJ (fid:=40) (caps:=[.ptr 1 0 0,.ptr 7 0 0]) (as':=[GPr.V {left:=lf,right:=pr,prec:=pc,code:=pco,args:=pa,at_:=pat},.iptr 1 (.bool token) 0,.iptr 1 (.sl 1 false (kU g.nons.length h')) 0]) (x:=GPr.V {left:=lf,right:=pr,prec:=pc,code:=pco,args:=pa,at_:=pat}) (by rfl) (by rfl) rfl ?_ hcl (Flat.bool _) ?_
       · refine ji qD (ji (qeL (ro:=false) (by(simp only[wM];(repeat first|rw[if_pos trivial]|rw[if_pos rfl]|rw[if_neg o_]));exact o1) (.bool _)) (ji (qeL (ro:=false) (by(simp only[wM];(repeat first|rw[if_pos trivial]|rw[if_pos rfl]|rw[if_neg o_]));exact o2) (qa6 (ro:=false) (by(simp only[wM];(repeat first|rw[if_pos trivial]|rw[if_pos rfl]|rw[if_neg o_]));exact k2_1))) vW))
       cases hfit:zB token h' pr with
       | true=>
         repeat' with_reducible first
          |refine s_ ?_
          |simp only[wZZ,seval,g2,g5,g6,g17,g18,g7,g19,o0,o1,o2,k2_1,hz]
          |(refine stB hl2 ?_)
          |refine t_ ?_
          |apply qi;exact wu_
          |simp(disch:=omega) only[w64,if_neg]
         refine⟨wg_,(i+1,qU h' lf true,true),by dsimp only;omega,trivial,trivial,trivial,trivial,trivial,trivial,trivial,trivial,rfl,rfl,by dsimp only;omega,rfl,fun F hF k hk=>?_,fun e=>(by cases e),fun _=>?_⟩
         · dsimp only at hk
           unfold qU at hk
           split at hk
           · rename_i e;subst e
             exact hF _ hpm (QI (k2_2 F hF) hfit)
           · exact k2_2 F hF k hk
         · have:=(qep (h:=h') (k:=lf) (by assumption) g.nons.length).2 hl2
           show cf (qU h' lf true) g.nons.length<_
           cases b' with
           |false=>have e:=(k2_3 rfl).1;subst e;omega
           |true=>have:=k2_4 rfl;omega
       | false=>
         repeat' with_reducible first
          |refine s_ ?_
          |simp only[wZZ,seval,g2,g5,g6,g17,g18,g7,g19,o0,o1,o2,k2_1,hz]
          |simp(disch:=omega) only[w64,if_neg]
         refine⟨wg_,(i+1,h',b'),by dsimp only;omega,trivial,trivial,trivial,trivial,trivial,trivial,trivial,trivial,rfl,rfl,by dsimp only;omega,rfl,k2_2,hnew k2_3 (fun e=>by rw[hfit]at e;cases e),k2_4⟩
     · refine⟨wg_,(i+1,h',b'),by dsimp only;omega,trivial,trivial,trivial,trivial,trivial,trivial,trivial,trivial,rfl,rfl,by dsimp only;omega,rfl,k2_2,hnew k2_3 (fun _=>by assumption),k2_4⟩
   · have e:i=g.prods.length:=o_
     subst e
     rw[List.take_length]at k2_3
     repeat' with_reducible first
      |refine s_ ?_
      |simp only[wZZ,seval,g2,g5,g6,g17,g18,g7,g19,o0,o1,o2,k2_1]
     refine⟨wg_,(h',b'),?_,trivial,trivial,trivial,trivial,trivial,trivial,rfl,rfl,k2_2,fun hb=>?_⟩
     · dsimp only
       cases b' with
       |false=>have e:=(k2_3 rfl).1;subst e;simp
       |true=>have:=k2_4 rfl;simp;omega
     · obtain ⟨e1,e2⟩:=k2_3 hb
       dsimp only
       rw[e1];exact e2
end Go.Proofs
