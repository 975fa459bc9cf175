/- Part of a proof that a law of the given program answers true. -/
import Derived.Test.YthgkeppkcjcmjaaDPG
import Derived.Test.YthgkeppkcjcmjaaDJC
set_option linter.unusedSimpArgs false
set_option linter.unusedVariables false
namespace Go.Proofs
open Go.E
def kD (nt nn:Nat) (s:Int):Prop:=(∃t:Nat,s=t∧t<nt)∨ ∃k:Nat,s=1000+(k:Int)∧k<nn
structure GOk (g:Grammar):Prop where
 tk:3≤g.toks.length
 tk2:g.toks.length≤40
 nn:1≤g.nons.length
 nn2:g.nons.length≤24
 pl:1≤g.prods.length
 pl2:g.prods.length≤60
 left: ∀p∈g.prods,∃l:Nat,p.left=l∧l<g.nons.length
 rlen: ∀p∈g.prods,p.right.length≤8
 right: ∀p∈g.prods,∀s∈p.right,kD g.toks.length g.nons.length s
 prec: ∀p∈g.prods,p.prec= -1∨ ∃t:Nat,p.prec=t∧t<g.toks.length
 head: ∃p r,g.prods=p::r∧p.left=0∧(∃k:Nat,p.right=[1000+(k:Int)]∧k<g.nons.length)
structure MInv (m:Mk):Prop where
 tk:3≤m.toks.length
 inn:0≤m.inner
 left: ∀p∈m.prods,0≤p.left∧p.left≤m.lefts.length+m.inner
 right: ∀p∈m.prods,∀s∈p.right,kD m.toks.length (1+m.lefts.length+m.inner.toNat) s
 prec: ∀p∈m.prods,p.prec= -1∨(0≤p.prec∧p.prec<m.toks.length)
theorem kD.mono {a b a' b':Nat} {s:Int} (h:kD a b s) (h1:a≤a') (h2:b≤b'):kD a' b' s:=by
 rcases h with ⟨t,e,l⟩|⟨k,e,l⟩
 · exact Or.inl ⟨t,e,by omega⟩
 · exact Or.inr ⟨k,e,by omega⟩
theorem MInv.up {m m':Mk} (h:MInv m) (hp:m'.prods=m.prods) (ht:m.toks.length≤m'.toks.length) (hl:m'.lefts=m.lefts) (hi:m.inner≤m'.inner):MInv m':=by
 have:=h.inn
 refine⟨by have:=h.tk;omega,by omega,fun p hq=>?_,fun p hq s hs=>?_,fun p hq=>?_⟩
 · rw[hp]at hq;have:=h.left p hq;rw[hl];omega
 · rw[hp]at hq;rw[hl];exact(h.right p hq s hs).mono ht (by omega)
 · rw[hp]at hq
   rcases h.prec p hq with h|⟨h1,h2⟩
   · exact Or.inl h
   · exact Or.inr ⟨h1,by omega⟩
theorem MInv.put {m:Mk} (h:MInv m) {p:GPr} (h1:0≤p.left∧p.left≤m.lefts.length+m.inner) (h2: ∀s∈p.right,kD m.toks.length (1+m.lefts.length+m.inner.toNat) s) (h3:p.prec= -1∨(0≤p.prec∧p.prec<m.toks.length)):MInv {m with prods:=m.prods++[p]}:=by
 refine⟨h.tk,h.inn,fun q hq=>?_,fun q hq=>?_,fun q hq=>?_⟩<;>rcases List.mem_append.1 hq with hq|hq
 · exact h.left q hq
 · rw[List.mem_singleton]at hq;subst hq;exact h1
 · exact h.right q hq
 · rw[List.mem_singleton]at hq;subst hq;exact h2
 · exact h.prec q hq
 · rw[List.mem_singleton]at hq;subst hq;exact h3
theorem qfD {m:Mk} (x:Sym) (ht:3≤m.toks.length) (hi:0≤m.inner):kD (xW m x).1.toks.length (1+m.lefts.length+m.inner.toNat) (xW m x).2∧(x.lit=true∨qF x.name m.lefts 0<0→0≤(xW m x).2∧(xW m x).2<(xW m x).1.toks.length):=by
 have hb:=qfw m x (by omega)
 have hl:=ja x.name m.lefts 0
 have htk:=qbP x m.toks (by omega)
 have hf:=(zk m x.at_ x.name).1
 have tokI: ∀{n:Nat} {s:Int},0≤s→s<n→kD n (1+m.lefts.length+m.inner.toNat) s:=fun h1 h2=>Or.inl ⟨_,(Int.toNat_of_nonneg h1).symm,by omega⟩
 unfold xW
 split
 · exact⟨tokI hb.1 hb.2,fun _=>hb⟩
 · rename_i hx
   split
   · rename_i h0
     refine⟨Or.inr ⟨(1+qF x.name m.lefts 0).toNat,by dsimp only;omega,by omega⟩,fun h=>?_⟩
     rcases h with h|h
     · exact absurd h hx
     · omega
   · split
     · dsimp only;rw[hf]
       exact⟨tokI (by omega) (by omega),fun _=>⟨by omega,by omega⟩⟩
     · dsimp only;exact⟨tokI (by omega) (by omega),fun _=>⟨by omega,by omega⟩⟩
theorem Xx : ∀(l:List Part) (m:Mk) (p:GPr),MInv m→(∀s∈p.right,kD m.toks.length (1+m.lefts.length+m.inner.toNat) s)→MInv (zm l (m,p)).1∧ ∀s∈(zm l (m,p)).2.right,kD (zm l (m,p)).1.toks.length (1+(zm l (m,p)).1.lefts.length+(zm l (m,p)).1.inner.toNat) s
 |[],m,p,h,hp=>by rw[Je];exact⟨h,hp⟩
 | w :: r, m,p,h,hp=>by
   rw[yB]
   obtain ⟨y1,y2,y3,y4,y5,y6,y7,y8⟩:=vU m w.sym
   have hs:=(qfD w.sym h.tk h.inn).1
   have hi:=h.inn
   split
   · refine Xx r _ _ (h.up y3 y7 y2 (by omega)) fun s hs2=>?_
     rw[y2,y6]
     rcases List.mem_append.1 hs2 with hs2|hs2
     · exact(hp s hs2).mono y7 (Nat.le_refl _)
     · rw[List.mem_singleton]at hs2;subst hs2;exact hs
   · split
     · exact⟨h,hp⟩
     · refine Xx r _ _ ?_ fun s hs2=>?_
       · refine(h.up (m':={m with inner:=m.inner+1}) rfl (Nat.le_refl _) rfl (by dsimp only;omega)).put ⟨by dsimp only;omega,by dsimp only;omega⟩ (fun s hs2=>by cases hs2) (Or.inl rfl)
       · dsimp only at hs2 ⊢
         rcases List.mem_append.1 hs2 with hs2|hs2
         · exact(hp s hs2).mono (Nat.le_refl _) (by omega)
         · rw[List.mem_singleton]at hs2
           exact Or.inr ⟨m.lefts.length+(m.inner+1).toNat,by rw[hs2];omega,by omega⟩
theorem qaq (n:Nat): ∀(l:List Int) (p:Int),(∀s∈l,0≤s∧(s<1000→s<n))→(p= -1∨(0≤p∧p<n))→(xX l p= -1∨(0≤xX l p∧xX l p<n))
 |[],p,_,hp=>hp
 | x::r,p,h,hp=>by
   rw[xX]
   refine qaq n r _ (fun s hs=>h s (List.mem_cons_of_mem _ hs)) ?_
   split
   · rename_i hx;have:=h x (by simp);exact Or.inr ⟨this.1,this.2 hx⟩
   · exact hp
theorem qeg {m:Mk} (n:List UInt8) (a:Alt) (h:MInv m):MInv (Xl m n a):=by
 have hl:=ja n m.lefts 0
 obtain ⟨g1,g2,g3,g4,g5,g6,g7,g8,g9,g10⟩:=XJ a.parts m {left:=1+qF n m.lefts 0,prec:= -1,at_:=a.at_}
 obtain ⟨h1,h2⟩:=Xx a.parts m {left:=1+qF n m.lefts 0,prec:= -1,at_:=a.at_} h (fun s hs=>by cases hs)
 have hi:=h.inn
 unfold Xl
 dsimp only
 generalize zm a.parts (m,{left:=1+qF n m.lefts 0,prec:= -1,at_:=a.at_})=q at *
 have hlf:0≤q.2.left∧q.2.left≤q.1.lefts.length+q.1.inner:=by rw[g5,g1];dsimp only;omega
 obtain ⟨ff1,ff2,ff3,ff4,ff5,ff6,ff7,ff8⟩:=zk q.1 a.prec.at_ a.prec.name
 split
 · split
   · rename_i hc
     obtain ⟨y1,y2,y3,y4,y5,y6,y7,y8⟩:=vU q.1 a.prec
     have hs:=(qfD a.prec h1.tk h1.inn).2 (by rcases hc with hc|hc<;>simp[hc])
     refine(h1.up y3 y7 y2 (by omega)).put (by rw[y2,y6];exact hlf) (fun s hs2=>?_) (Or.inr hs)
     rw[y2,y6];exact(h2 s hs2).mono y7 (Nat.le_refl _)
   · refine(h1.up (m':=qZ q.1 a.prec.at_ a.prec.name) ff5 (by rw[ff1];omega) ff3 (by omega)).put (p:={q.2 with prec:= -1,args:=q.2.right}) (by rw[ff3,ff8];exact hlf) (fun s hs2=>by rw[ff1,ff3,ff8];exact h2 s hs2) (Or.inl rfl) |> fun hh=>?_
     rw[ff5]at hh
     exact hh
 · refine h1.put hlf h2 ?_
   refine qaq _ _ _ (fun s hs=>?_) (Or.inl rfl)
   rcases h2 s hs with ⟨t,e,l⟩|⟨k,e,l⟩
   · exact⟨by omega,fun _=>by omega⟩
   · exact⟨by omega,fun _=>by omega⟩
theorem YM (n:List UInt8): ∀(l:List Alt) (m:Mk),MInv m→MInv (zx n l m)
 |[],m,h=>h
 |a::r,m,h=>by rw[xN];exact YM n r _ (qeg n a h)
theorem qcw: ∀(l:List Rule) (m:Mk),MInv m→MInv (yt l m)
 |[],m,h=>h
 |r::l,m,h=>by rw[yG];exact qcw l _ (YM r.left r.alts m h)
def HdP (P:GPr) (m:Mk):Prop:= ∃r,m.prods=P::r
theorem KC (P:GPr): ∀(l:List Part) (m:Mk) (p:GPr),HdP P m→HdP P (zm l (m,p)).1
 |[],m,p,h=>h
 | w ::r,m,p,h=>by
   rw[yB]
   obtain ⟨y1,y2,y3,y4,y5,y6,y7,y8⟩:=vU m w.sym
   obtain ⟨t,ht⟩:=h
   split
   · exact KC P r _ _ ⟨t,by rw[y3];exact ht⟩
   · split
     · exact⟨t,ht⟩
     · exact KC P r _ _ ⟨_,by dsimp only;rw[ht];rfl⟩
theorem qm6 (P:GPr) {m:Mk} (n:List UInt8) (a:Alt) (h:HdP P m):HdP P (Xl m n a):=by
 have h1:=KC P a.parts m {left:=1+qF n m.lefts 0,prec:= -1,at_:=a.at_} h
 unfold Xl
 dsimp only
 generalize zm a.parts (m,{left:=1+qF n m.lefts 0,prec:= -1,at_:=a.at_})=q at *
 obtain ⟨t,ht⟩:=h1
 obtain ⟨y1,y2,y3,y4,y5,y6,y7,y8⟩:=vU q.1 a.prec
 split
 · split
   · exact⟨_,by dsimp only;rw[y3,ht];rfl⟩
   · exact⟨_,by dsimp only;rw[ht];rfl⟩
 · exact⟨_,by dsimp only;rw[ht];rfl⟩
theorem qaW (P:GPr) (n:List UInt8): ∀(l:List Alt) (m:Mk),HdP P m→HdP P (zx n l m)
 |[],m,h=>h
 |a::r,m,h=>by rw[xN];exact qaW P n r _ (qm6 P n a h)
theorem qcI (P:GPr): ∀(l:List Rule) (m:Mk),HdP P m→HdP P (yt l m)
 |[],m,h=>h
 |r::l,m,h=>by rw[yG];exact qcI P l _ (qaW P r.left r.alts m h)
theorem XO (g:List Bool): ∀(f i:Nat) (l:List Tok) (n:Int),(V8 g f i (l,n)).1.length=l.length
 |0,i,l,n=>rfl
 | f+1,i,l,n=>by
   rw[Vi];split
   · exact XO g f _ _ _
   · rw[XO];simp
theorem qby (d:Decl): ∀(l:List Sym) (m:Mk) (st:List UInt8),vg m (zQ d l (m,st)).1∧m.toks.length≤(zQ d l (m,st)).1.toks.length
 |[],m,st=>⟨⟨rfl,rfl,rfl,rfl⟩,Nat.le_refl _⟩
 | x ::r,m,st=>by
   rw[Vz]
   obtain ⟨⟨a1,a2,a3,a4⟩,_,h2,_⟩:=qd6 m d x
   obtain ⟨ff1,ff2,ff3,ff4,ff5,ff6,ff7,ff8⟩:=zk m x.at_ x.name
   split
   · obtain ⟨⟨b1,b2,b3,b4⟩,k2⟩:=qby d r (kz m d x) st
     exact⟨⟨b1.trans a1,b2.trans a2,b3.trans a3,b4.trans a4⟩,by omega⟩
   · have key: ∀m',vg m m'→m.toks.length≤m'.toks.length→vg m (zQ d r (m',x.name)).1∧m.toks.length≤(zQ d r (m',x.name)).1.toks.length:=fun m' hm ht=>by
      obtain ⟨⟨b1,b2,b3,b4⟩,k2⟩:=qby d r m' x.name
      exact⟨⟨b1.trans hm.1,b2.trans hm.2.1,b3.trans hm.2.2.1,b4.trans hm.2.2.2⟩,by omega⟩
     split
     · exact key _ ⟨ff3,ff5,ff6,ff8⟩ (by rw[ff1];omega)
     · exact key _ ⟨rfl,rfl,rfl,rfl⟩ (Nat.le_refl _)
theorem qf4: ∀(l:List Decl) (m:Mk) (st:List UInt8),vg m (jZ l (m,st)).1∧m.toks.length≤(jZ l (m,st)).1.toks.length
 |[],m,st=>⟨⟨rfl,rfl,rfl,rfl⟩,Nat.le_refl _⟩
 | d::r,m,st=>by
   rw[VP]
   have key: ∀m',vg m m'→m.toks.length≤m'.toks.length→vg m (jZ r (zQ d d.syms (m',st))).1∧m.toks.length≤(jZ r (zQ d d.syms (m',st))).1.toks.length:=fun m' hm ht=>by
    obtain ⟨⟨a1,a2,a3,a4⟩,k1⟩:=qby d d.syms m' st
    obtain ⟨⟨b1,b2,b3,b4⟩,k2⟩:=qf4 r (zQ d d.syms (m',st)).1 (zQ d d.syms (m',st)).2
    exact⟨⟨b1.trans (a1.trans hm.1),b2.trans (a2.trans hm.2.1),b3.trans (a3.trans hm.2.2.1),b4.trans (a4.trans hm.2.2.2)⟩,by show m.toks.length≤(jZ r ((zQ d d.syms (m',st)).1,(zQ d d.syms (m',st)).2)).1.toks.length;omega⟩
   split
   · exact key _ ⟨rfl,rfl,rfl,rfl⟩ (Nat.le_refl _)
   · exact key _ ⟨rfl,rfl,rfl,rfl⟩ (Nat.le_refl _)
theorem qfu: ∀(l:List Rule) (m:Mk),(yo l m).toks=m.toks∧(yo l m).inner=m.inner∧(yo l m).nons=m.nons
 |[],m=>⟨rfl,rfl,rfl⟩
 | r::l,m=>by
   rw[Vq]
   obtain ⟨d1,d2,d3,d4,d5,d6⟩:=qfV m r
   obtain ⟨h1,h2,h3⟩:=qfu l (YW (QC m r) r.left)
   have e:(YW (QC m r) r.left).toks=m.toks∧(YW (QC m r) r.left).inner=m.inner∧(YW (QC m r) r.left).nons=m.nons:=by
    unfold YW
    split
    · exact⟨d1,d6,d5⟩
    · exact⟨d1,d6,d5⟩
   exact⟨h1.trans e.1,h2.trans e.2.1,h3.trans e.2.2⟩
theorem qb1 (kind:Int): ∀(l:List Sym) (m:Mk),xO m (xE kind l m)
 |[],m=>xO.rfl' m
 |x::r,m=>by rw[XF];exact(qGH m kind x).trans' (qb1 kind r _)
theorem qfq: ∀(l:List Decl) (m:Mk),xO m (QA l m)
 |[],m=>xO.rfl' m
 |d::r,m=>by rw[Vm];exact(qb1 d.kind d.syms m).trans' (qfq r _)
def qbE (src:Source):Mk:=QA src.decls (yo src.rules (jZ src.decls ({},[])).1)
def QE (src:Source):List UInt8:=if (jZ src.decls ({},[])).2=[]then(src.rules.headD {}).left else(jZ src.decls ({},[])).2
def Y9 (src:Source):GPr:={left:=0,right:=[1001+qF (QE src) (qbE src).lefts 0],prec:= -1}
theorem Ka (src:Source):jV src=yt src.rules {qbE src with prods:=[Y9 src]}:=rfl
theorem qh9 (src:Source):3≤(qbE src).toks.length∧(qbE src).inner=0∧(qbE src).nons=[]:=by
 obtain ⟨⟨a1,a2,a3,a4⟩,k1⟩:=qf4 src.decls {} []
 obtain ⟨l1,l2,l3⟩:=qfu src.rules (jZ src.decls ({},[])).1
 obtain ⟨u1,u2,u3,u4,u5,u6,u7⟩:=qfq src.decls (yo src.rules (jZ src.decls ({},[])).1)
 refine⟨?_,?_,?_⟩
 · show 3≤(QA _ _).toks.length;rw[u1,l1];exact k1
 · show (QA _ _).inner=0;rw[u7,l2];exact a4
 · show (QA _ _).nons=[];rw[u6,l3];exact a3
theorem qgy (src:Source):MInv (jV src)∧HdP (Y9 src) (jV src):=by
 obtain ⟨h1,h2,h3⟩:=qh9 src
 have hl:=ja (QE src) (qbE src).lefts 0
 rw[Ka]
 refine⟨qcw _ _ ⟨h1,by dsimp only;omega,fun p hp=>?_,fun p hp s hs=>?_,fun p hp=>?_⟩,qcI _ _ _ ⟨[],rfl⟩⟩<;>(dsimp only at hp;rw[List.mem_singleton]at hp;subst hp)
 · unfold Y9;dsimp only;omega
 · unfold Y9 at hs;dsimp only at hs ⊢;rw[List.mem_singleton]at hs;subst hs
   exact Or.inr ⟨(1+qF (QE src) (qbE src).lefts 0).toNat,by omega,by omega⟩
 · exact Or.inl rfl
theorem YE (n:List UInt8): ∀(l:List Alt) (m:Mk),(zx n l m).nons=m.nons∧(zx n l m).lefts=m.lefts
 |[],m=>⟨rfl,rfl⟩
 | a::r,m=>by
   rw[xN]
   obtain ⟨h1,_,h3,_⟩:=qh4 m n a
   obtain ⟨k1,k2⟩:=YE n r (Xl m n a)
   exact⟨k1.trans h3,k2.trans h1⟩
theorem Vu: ∀(l:List Rule) (m:Mk),(yt l m).nons=m.nons∧(yt l m).lefts=m.lefts
 |[],m=>⟨rfl,rfl⟩
 | r::l,m=>by
   rw[yG]
   obtain ⟨h1,h2⟩:=YE r.left r.alts m
   obtain ⟨k1,k2⟩:=Vu l (zx r.left r.alts m)
   exact⟨k1.trans h1,k2.trans h2⟩
theorem qe6 (m:Mk):(xA m).toks.length=m.toks.length∧(xA m).nons.length=1+m.lefts.length+m.inner.toNat∧(xA m).prods=m.prods:=by
 unfold xA
 dsimp only
 refine⟨XO _ _ _ _ _,?_,rfl⟩
 rw[List.length_append,List.length_append,XW,qct];rfl
theorem qcV {src:Source} (h:Y0 src=true):Yw src=true∧(jV src).e=0∧YX (xA (jV src))=false∧qE src={toks:=(xA (jV src)).toks,nons:=(xA (jV src)).nons,prods:=(xA (jV src)).prods,pro:=src.pro,tail:=src.tail}:=by
 have h:=of_decide_eq_true h
 unfold qE
 unfold ofS at *
 by_cases h1:Yw src=true
 · rw [if_pos h1]at *
   by_cases h2:(jV src).e≠0
   · rw[if_pos h2]at h;exact absurd h h2
   · rw[if_neg h2]at *
     by_cases h3:YX (xA (jV src))=true
     · rw[if_pos h3]at h;cases h
     · rw[if_neg h3]at *
       exact⟨h1,by simpa using h2,by simpa using h3,rfl⟩
 · rw[if_neg h1]at h;cases h
theorem gok {src:Source} (h:Y0 src=true):GOk (qE src):=by
 obtain ⟨_,_,hl,he⟩:=qcV h
 obtain ⟨hi,r,hr⟩:=qgy src
 obtain ⟨n1,n2,n3⟩:=qe6 (jV src)
 unfold YX at hl
 simp only[Bool.or_eq_false_iff,decide_eq_false_iff_not,List.any_eq_false,decide_eq_true_eq]at hl
 obtain ⟨⟨⟨l1,l2⟩,l3⟩,l4⟩:=hl
 have hinn:=hi.inn
 rw[he]
 refine⟨?_,?_,?_,?_,?_,?_,fun p hp=>?_,fun p hp=>?_,fun p hp s hs=>?_,fun p hp=>?_,?_⟩<;>dsimp only at *
 · rw[n1];exact hi.tk
 · omega
 · rw[n2];omega
 · omega
 · rw[n3,hr];simp
 · omega
 · rw[n3]at hp;have:=hi.left p hp
   exact⟨p.left.toNat,by omega,by omega⟩
 · have:=l4 p hp;omega
 · rw[n3]at hp;rw[n1,n2];exact hi.right p hp s hs
 · rw[n3]at hp
   rcases hi.prec p hp with h|⟨h1,h2⟩
   · exact Or.inl h
   · exact Or.inr ⟨p.prec.toNat,by omega,by omega⟩
 · refine⟨Y9 src,r,by rw[n3];exact hr,rfl,(1+qF (QE src) (qbE src).lefts 0).toNat,?_,?_⟩
   · have:=ja (QE src) (qbE src).lefts 0
     unfold Y9;dsimp only
     rw[show (1001+qF (QE src) (qbE src).lefts 0:Int)=1000+((1+qF (QE src) (qbE src).lefts 0).toNat:Int) by omega]
   · have:=ja (QE src) (qbE src).lefts 0
     have:=(Vu src.rules {qbE src with prods:=[Y9 src]}).2
     rw[← Ka]at this
     dsimp only at this
     rw[n2,this];omega

theorem JD {x:Sym}: ∀{l:List Tok} {i:Nat},(∀(n:Nat) t,l[n]?=some t→ ¬ (t.name=x.name∧t.lit=x.lit∧i+n≠2))→kC x l i= -1
 |[],i,_=>rfl
 | t::r,i,h=>by
   unfold kC
   rw[if_neg (by have:=h 0 t rfl;simpa using this)]
   exact JD fun n u hu=>by have:=h (n+1) u (by simpa using hu);rwa [show i+1+n=i+(n+1) by omega]
theorem Vn {x:Sym}: ∀{l:List Tok} {i n:Nat} {t:Tok},l[n]?=some t→t.name=x.name→t.lit=x.lit→i+n≠2→0≤kC x l i
 |[],i,n,t,h,_,_,_=>by simp at h
 | u ::r,i,n,t,h,h1,h2,h3=>by
   unfold kC
   split
   · omega
   · rename_i hne
     cases n with
     |zero=>simp at h;subst h;exact absurd ⟨h1,h2,by omega⟩ hne
     |succ n=>exact Vn (l:=r) (i:=i+1) (n:=n) (t:=t) (by simpa using h) h1 h2 (by omega)
theorem Vh {n:Int}: ∀{l:List Tok} {i:Nat},(∀t∈l,t.num≠n)→qaB n l i= -1
 |[],i,_=>rfl
 | t::r,i,h=>by
   unfold qaB
   rw[if_neg (h t (by simp))]
   exact Vh fun u hu=>h u (List.mem_cons_of_mem _ hu)
abbrev core (t:Tok):List UInt8×Bool×Int:=(t.name,t.lit,t.num)
abbrev qPA (j:Nat):List UInt8×Bool×Int:=((kG j).name,true,qdu (kG j))
abbrev qdd:List (List UInt8×Bool×Int):=[([36,101,110,100],false,0),(qGf,false,-1),([36,117,110,107],false,-1)]
structure LInv (m:Mk) (js:List Nat):Prop where
 e:m.e=0
 toks:m.toks.map core=qdd++js.map qPA
 nd:js.Nodup
 lt: ∀j∈js,j<4
theorem jc {j:Nat} (h:j<4):(kG j).name=[UInt8.ofNat (112+j)]∧qdu (kG j)=112+j:=by
 rcases j with _ | _ | _ | _ |j
 · exact⟨rfl,rfl⟩
 · exact⟨rfl,rfl⟩
 · exact⟨rfl,rfl⟩
 · exact⟨rfl,rfl⟩
 · omega
theorem qlD {i j:Nat} (hi:i<4) (hj:j<4) (h:(kG i).name=(kG j).name):i=j:=by
 have h1:=(jc hi).1
 have h2:=(jc hj).1
 rw[h1,h2]at h
 simp only[List.cons.injEq,and_true]at h
 have:=congrArg UInt8.toNat h
 simp at this
 omega
theorem LInv.get {m:Mk} {js:List Nat} (h:LInv m js) {n:Nat} {t:Tok} (ht:m.toks[n]?=some t):(qdd++js.map qPA)[n]?=some (core t):=by rw[← h.toks,List.getElem?_map,ht];rfl
theorem LInv.len {m:Mk} {js:List Nat} (h:LInv m js):m.toks.length=3+js.length:=by have:=congrArg List.length h.toks;simp at this;omega
theorem LInv.VN {m:Mk} {js:List Nat} (h:LInv m js) {j:Nat} (hj:j∈js):0≤Y6 m.toks (kG j):=by
 obtain ⟨i,hi,he⟩:=List.getElem_of_mem hj
 have hl:=h.len
 have h3:m.toks[3+i]?=some (m.toks[3+i]'(by omega)):=ge_ (by omega)
 have hg:=h.get h3
 rw[List.getElem?_append_right (by simp),show 3+i - qdd.length=i by simp,List.getElem?_map,ge_ hi,he]at hg
 simp only[Option.map_some,Option.some.injEq,Prod.mk.injEq]at hg
 refine Vn (n:=2+i) (t:=m.toks[3+i]'(by omega)) ?_ hg.1.symm ?_ (by omega)
 · rw[List.getElem?_drop,show 1+(2+i)=3+i by omega];exact h3
 · rw[← hg.2.1]
theorem LInv.tok_out {m:Mk} {js:List Nat} (h:LInv m js) {j:Nat} (hj:j ∉ js) (hj4:j<4):Y6 m.toks (kG j)= -1:=by
 refine JD fun n t ht=>?_
 rw[List.getElem?_drop]at ht
 have hg:=h.get ht
 rintro ⟨h1,h2,h3⟩
 match n,hg with
 |0,hg=>simp at hg;rw[hg.2.1]at h2;cases h2
 |1,hg=>exact absurd rfl h3
 | n +2,hg=>
   rw[List.getElem?_append_right (by simp;omega),List.getElem?_map]at hg
   cases hq:js[1+(n+2) - qdd.length]? with
   |none=>rw[hq]at hg;cases hg
   | some q=>
     rw[hq]at hg
     simp only[Option.map_some,Option.some.injEq,Prod.mk.injEq]at hg
     have hqm:=List.mem_of_getElem? hq
     have:=qlD (h.lt q hqm) hj4 (hg.1.trans h1)
     subst this;exact hj hqm
theorem LInv.own {m:Mk} {js:List Nat} (h:LInv m js) {j:Nat} (hj:j ∉ js) (hj4:j<4):qiK m.toks (qdu (kG j))= -1:=by
 refine Vh fun t ht e=>?_
 obtain ⟨n,hn⟩:=List.getElem?_of_mem ht
 rw[List.getElem?_drop]at hn
 have hg:=h.get hn
 rw[List.getElem?_append_right (by simp),List.getElem?_map]at hg
 cases hq:js[3+n - qdd.length]? with
 |none=>rw[hq]at hg;cases hg
 | some q=>
   rw[hq]at hg
   simp only[Option.map_some,Option.some.injEq,Prod.mk.injEq]at hg
   have hqm:=List.mem_of_getElem? hq
   have h4:=h.lt q hqm
   have:=(jc h4).2;have:=(jc hj4).2
   have:q=j:=by omega
   subst this;exact hj hqm
theorem Xn (k:Int):kG k=kG ((k % 4).toNat:Nat):=by
 have h1:=Int.emod_nonneg k (show (4:Int)≠0 by omega)
 unfold kG
 rw[Int.toNat_of_nonneg h1,Int.emod_emod_of_dvd k (Int.dvd_refl 4)]
theorem LInv.put {m:Mk} {js:List Nat} (h:LInv m js) (k:Int): ∃js',LInv (Zc m (kG k)).1 js'∧(∀j∈js,j∈js')∧ ∀j∈js',j∈js∨j=(k % 4).toNat:=by
 have h1:=Int.emod_nonneg k (show (4:Int)≠0 by omega)
 have h2:=Int.emod_lt_of_pos k (show (0:Int)<4 by omega)
 rw[Xn k]
 obtain ⟨j,hj⟩: ∃j:Nat,(k % 4).toNat=j:=⟨_,rfl⟩
 have hj4:j<4:=by omega
 rw[hj]
 unfold Zc
 by_cases hm:j∈js
 · rw[if_pos (h.VN hm)]
   exact⟨js,h,fun _ a=>a,fun _ a=>Or.inl a⟩
 · rw[if_neg (by rw[h.tok_out hm hj4];omega)]
   dsimp only
   rw[if_neg (by rw[h.own hm hj4];rintro ⟨_,e⟩;omega)]
   refine⟨js++[j],⟨h.e,?_,?_,fun q hq=>?_⟩,fun q hq=>List.mem_append_left _ hq,fun q hq=>?_⟩
   · dsimp only;rw[List.map_append,h.toks,List.map_append,List.append_assoc];rfl
   · rw[List.nodup_append]
     exact⟨h.nd,by simp,fun a ha b hb e=>by rw[List.mem_singleton]at hb;subst hb;subst e;exact hm ha⟩
   · rcases List.mem_append.1 hq with hq|hq
     · exact h.lt q hq
     · rw[List.mem_singleton]at hq;subst hq;exact hj4
   · rcases List.mem_append.1 hq with hq|hq
     · exact Or.inl hq
     · rw[List.mem_singleton]at hq;exact Or.inr hq
theorem LInv.non {m:Mk} {js:List Nat} (h:LInv m js) {k:Nat} (hk:k<4):Y6 m.toks {name:=K7 k}= -1:=by
 refine JD fun n t ht=>?_
 rw[List.getElem?_drop]at ht
 have hg:=h.get ht
 rintro ⟨h1,h2,h3⟩
 match n,hg with
 | 0,hg=>
   simp at hg
   rw[← hg.1]at h1
   have:=congrArg List.length h1
   simp[qGf]at this
 |1,hg=>exact absurd rfl h3
 | n +2,hg=>
   rw[List.getElem?_append_right (by simp;omega),List.getElem?_map]at hg
   cases hq:js[1+(n+2) - qdd.length]? with
   |none=>rw[hq]at hg;cases hg
   | some q=>
     rw[hq]at hg
     simp only[Option.map_some,Option.some.injEq,Prod.mk.injEq]at hg
     rw[← hg.2.1]at h2;cases h2
def qbJ (d:Decl) (is:List Nat):Prop:=(2≤d.kind∧d.kind≤4)∧d.tag=[]∧d.syms=(is.map fun i:Nat=>kG i)∧is≠[]
theorem LInv.level {m:Mk} {js:List Nat} (h:LInv m js) (n:Int):LInv {m with level:=n} js:=⟨h.e,h.toks,h.nd,h.lt⟩
theorem VJ (l:List Int): ∀n,n≤4→ ∃iss:List (List Nat),(zU l n).length=iss.length∧(∀(k:Nat) d is,(zU l n)[k]?=some d→iss[k]?=some is→qbJ d is)∧iss.flatten.Nodup∧ ∀i∈iss.flatten,i<n:=by
 intro n
 induction n with
 |zero=>intro _;exact⟨[],rfl,fun k d is h=>by simp[zU]at h,by simp,fun i h=>by simp at h⟩
 | succ n ih =>
   intro hn
   obtain ⟨iss,h1,h2,h3,h4⟩:=ih (by omega)
   have hx1:=Int.emod_nonneg (l.getD n 0) (show (8:Int)≠0 by omega)
   have hx2:=Int.emod_lt_of_pos (l.getD n 0) (show (0:Int)<8 by omega)
   have hnn:n ∉ iss.flatten:=fun h=>by have:=h4 n h;omega
   show ∃iss:List (List Nat),(xG n (l.getD n 0) (zU l n)).length=iss.length∧(∀(k:Nat) d is,(xG n (l.getD n 0) (zU l n))[k]?=some d→iss[k]?=some is→qbJ d is)∧iss.flatten.Nodup∧ ∀i∈iss.flatten,i<n+1
   unfold xG
   split
   · exact⟨iss,h1,h2,h3,fun i hi=>by have:=h4 i hi;omega⟩
   · rename_i hq
     split
     · rename_i hc
       obtain ⟨o,d,ho⟩: ∃o d,zU l n=o++[d]:=⟨_,_,(List.dropLast_concat_getLast hc.2).symm⟩
       have hie:iss≠[]:=fun e=>by rw[e,ho]at h1;simp at h1
       obtain ⟨t,u,ht⟩: ∃t u,iss=t++[u]:=⟨_,_,(List.dropLast_concat_getLast hie).symm⟩
       have hot:o.length=t.length:=by rw[ho,ht]at h1;simpa using h1
       refine⟨t++[u++[n]],?_,fun k e is a b=>?_,?_,fun i hi=>?_⟩
       · rw[ho,Qg];simp[hot]
       · rw [ho,Qg]at a
         by_cases hk:k<o.length
         · rw[List.getElem?_append_left hk]at a
           rw[List.getElem?_append_left (by omega)]at b
           exact h2 k e is (by rw[ho,List.getElem?_append_left hk];exact a) (by rw[ht,List.getElem?_append_left (by omega)];exact b)
         · by_cases hk2:k=o.length
           · subst hk2
             rw[List.getElem?_append_right (Nat.le_refl _)]at a
             rw[hot,List.getElem?_append_right (Nat.le_refl _)]at b
             simp at a b
             subst a b
             obtain ⟨q1,q2,q3,q4⟩:=h2 o.length d u (by rw[ho];simp) (by rw[ht,hot];simp)
             exact⟨q1,q2,by dsimp only;rw[q3,List.map_append];rfl,by simp⟩
           · rw[List.getElem?_eq_none (by simp;omega)]at a;cases a
       · rw[ht]at h3 hnn
         simp only[List.flatten_append,List.flatten_cons,List.flatten_nil,List.append_nil,← List.append_assoc]at h3 hnn ⊢
         rw[List.nodup_append]
         exact⟨h3,by simp,fun a ha b hb e=>by rw[List.mem_singleton]at hb;subst hb;subst e;exact hnn ha⟩
       · simp only[List.flatten_append,List.flatten_cons,List.flatten_nil,List.append_nil,← List.append_assoc]at hi
         rcases List.mem_append.1 hi with hi|hi
         · have hlt:=h4 i (by rw[ht];simpa using hi)
           omega
         · rw[List.mem_singleton]at hi;omega
     · refine⟨iss++[[n]],by simp[h1],fun k e is a b=>?_,?_,fun i hi=>?_⟩
       · by_cases hk:k<(zU l n).length
         · rw[List.getElem?_append_left hk]at a
           rw[List.getElem?_append_left (by omega)]at b
           exact h2 k e is a b
         · by_cases hk2:k=(zU l n).length
           · subst hk2
             rw[List.getElem?_append_right (Nat.le_refl _)]at a
             rw[h1,List.getElem?_append_right (Nat.le_refl _)]at b
             simp only[Nat.sub_self,List.getElem?_cons_zero,Option.some.injEq]at a b
             subst a b
             have hb:2≤1+l.getD n 0 % 8 % 4∧1+l.getD n 0 % 8 % 4≤4:=by omega
             exact⟨hb,rfl,rfl,by simp⟩
           · rw[List.getElem?_eq_none (by simp;omega)]at a;cases a
       · rw[List.flatten_append]
         simp only[List.flatten_cons,List.flatten_nil,List.append_nil]
         rw[List.nodup_append]
         exact⟨h3,by simp,fun a ha b hb e=>by rw[List.mem_singleton]at hb;subst hb;subst e;exact hnn ha⟩
       · rw[List.flatten_append]at hi
         rcases List.mem_append.1 hi with hi|hi
         · have:=h4 i hi;omega
         · simp at hi;omega

def qfm (lefts:List (List UInt8)) (x:Sym):Prop:=(∃k:Int,x=kG k)∨(x.lit=false∧x.name∈lefts)∨x={name:=qGf}
def Yr:List Part→Nat
 |[]=>0
 |w::r=>(if w.code≠[]∧r≠[]then 1 else 0)+Yr r
def qp0 (lefts:List (List UInt8)) (a:Alt):Prop:=(∀w∈a.parts,w.code≠[]∨qfm lefts w.sym)∧a.prec={}∧Yr a.parts≤1∧a.parts.length≤6
theorem Qm: ∀(n:Nat) (l:List Nat),l.Nodup→(∀x∈l,x<n)→l.length≤n
 | 0,l,_,h=>by
   cases l with
   |nil=>simp
   |cons a r=>have:=h a (by simp);omega
 | n +1,l,hn,h=>by
   by_cases hm:n∈l
   · have h1:=Qm n (l.erase n) (hn.erase n) (fun x hx=>by
      have:=h x (List.mem_of_mem_erase hx)
      have hne:x≠n:=fun e=>by subst e;exact(List.Nodup.mem_erase_iff hn).1 hx |>.1 rfl
      omega)
     rw[List.length_erase_of_mem hm]at h1
     omega
   · have h1:=Qm n l hn (fun x hx=>by
      have:=h x hx
      have hne:x≠n:=fun e=>by subst e;exact hm hx
      omega)
     omega

theorem qcE (x:GrI):1≤kI x∧kI x≤4:=by unfold kI;omega
def jJ (l:List Part):Nat:=(l.filter fun w=> !decide (w.code=[])).length
theorem Vf (l m:List Part):jJ (l++m)=jJ l+jJ m:=by simp[jJ]
theorem qa1: ∀(l:List Part),Yr l≤jJ l
 |[]=>Nat.le_refl _
 | w::r=>by
   have:=qa1 r
   have e:jJ (w::r)=(if w.code=[]then 0 else 1)+jJ r:=by
    unfold jJ;rw[List.filter_cons];by_cases h:w.code=[]<;>simp[h];omega
   unfold Yr;rw[e]
   by_cases h:w.code=[]
   · simp[h];exact this
   · rw[if_neg h];split<;>omega
theorem Yv: ∀(l:List Part) (w:Part),Yr (l++[w])≤jJ l
 |[],w=>by simp[Yr]
 | v::r,w=>by
   have:=Yv r w
   have e:jJ (v::r)=(if v.code=[]then 0 else 1)+jJ r:=by
    unfold jJ;rw[List.filter_cons];by_cases h:v.code=[]<;>simp[h];omega
   show (if v.code≠[]∧(r++[w])≠[]then 1 else 0)+Yr (r++[w])≤_
   rw[e]
   by_cases h:v.code=[]
   · simp[h];exact this
   · rw[if_neg h];split<;>omega
theorem qa3 (l:List Int) (n:Nat) (mid:Bool) (j:Nat):jJ (jR l n mid j)≤1∧(jR l n mid j).length≤j+1∧(j=0→jR l n mid j=[]):=by
 induction j with
 |zero=>exact⟨by simp[jR,jJ],by simp[jR],fun _=>rfl⟩
 | succ j ih=>
   obtain ⟨h1,h2,h3⟩:=ih
   unfold jR
   refine⟨?_,?_,fun h=>by omega⟩
   · rw[Vf,Vf]
     have e1:jJ [({sym:=qgV l n (j+1)}:Part)]=0:=by simp[jJ]
     rw[e1]
     by_cases hj:j=0
     · rw[h3 hj]
       split<;>simp[jJ,QL]
     · rw[if_neg (fun e=>hj e.1)]
       simp[jJ]at h1 ⊢;exact h1
   · rw[List.length_append,List.length_append]
     by_cases hj:j=0
     · rw[h3 hj];split<;>simp[hj]
     · rw[if_neg (fun e=>hj e.1)];simp;exact h2
theorem Vj {l:List Int} {n:Nat} {mid:Bool} {w:Part}: ∀{j:Nat},w∈jR l n mid j→(∃y:Int,w={sym:=VE y n})∨w={code:=QL}
 |0,h=>by cases h
 | j +1,h=>by
   unfold jR at h
   rcases List.mem_append.1 h with h|h
   · rcases List.mem_append.1 h with h|h
     · exact Vj h
     · rw[List.mem_singleton]at h;exact Or.inl ⟨_,h⟩
   · split at h
     · rw[List.mem_singleton]at h;exact Or.inr h
     · cases h
theorem Kb {l inner:List Int} {n i:Nat} {w:Part} (h:w∈(qdz l n inner i).parts):(∃y:Int,w={sym:=VE y n})∨w={code:=QL}∨w={code:=YH}:=by
 unfold qdz at h
 dsimp only at h
 rcases List.mem_append.1 h with h|h
 · rcases Vj h with h|h
   · exact Or.inl h
   · exact Or.inr (Or.inl h)
 · split at h
   · rw[List.mem_singleton]at h;exact Or.inr (Or.inr h)
   · cases h
theorem qgh {lefts:List (List UInt8)} {n:Nat} (hn:0<n) (hl: ∀k:Nat,k<n→K7 k∈lefts) (y:Int):qfm lefts (VE y n):=by
 have e1:=Int.emod_nonneg y (show (14:Int)≠0 by omega)
 have e3:=Int.emod_lt_of_pos (y % 14) (show (0:Int)<n by omega)
 have e4:=Int.emod_nonneg (y % 14) (show (n:Int)≠0 by omega)
 unfold VE
 split
 · have:=hl (y % 14 % n).toNat (by omega)
   rw[Int.toNat_of_nonneg e4]at this
   exact Or.inr (Or.inl ⟨rfl,this⟩)
 · split
   · exact Or.inr (Or.inr rfl)
   · exact Or.inl ⟨_,rfl⟩
theorem K5 {lefts:List (List UInt8)} {n:Nat} (hn:0<n) (hl: ∀k:Nat,k<n→K7 k∈lefts) (l inner:List Int) (i:Nat):qp0 lefts (qdz l n inner i):=by
 obtain ⟨h1,h2,_⟩:=qa3 l n (qdQ inner i) (min 4 (l.length - 1))
 refine⟨fun w hw=>?_,rfl,?_,?_⟩
 · rcases Kb hw with ⟨y,rfl⟩|rfl|rfl
   · exact Or.inr (qgh hn hl y)
   · exact Or.inl (by simp[QL])
   · exact Or.inl (by simp[YH])
 · unfold qdz;dsimp only
   split
   · exact Nat.le_trans (Yv _ _) h1
   · rw[List.append_nil];exact Nat.le_trans (qa1 _) h1
 · unfold qdz;dsimp only
   rw[List.length_append]
   split<;>simp<;>omega
theorem yQ {x:GrI} {n:Nat}: ∀{i k:Nat} {a:Alt},a∈(zG x n i).1 k→ ∃l j,a=qdz l n x.inner j
 |0,k,a,h=>by cases h
 | i + 1,k,a,h=>by
   unfold zG kR at h
   dsimp only at h
   split at h
   · exact yQ h
   · unfold qN at h
     dsimp only at h
     split at h
     · rcases List.mem_append.1 h with h|h
       · exact yQ h
       · rw[List.mem_singleton]at h;exact⟨_,_,h⟩
     · exact yQ h
theorem qcc {x:GrI} {n i k:Nat} {a:Alt} (h:a∈X0 x.bare (zG x n i) k):(∃l j,a=qdz l n x.inner j)∨a={parts:=[{sym:=kG k}]}:=by
 unfold X0 at h
 split at h
 · rcases List.mem_append.1 h with h|h
   · exact Or.inl (yQ h)
   · rw[List.mem_singleton]at h;exact Or.inr h
 · exact Or.inl (yQ h)
theorem qhc {n:Nat} (hn:0<n) (hn4:n≤4) (y:Int):qa8 (VE y n) false true=true:=by
 have e1:=Int.emod_nonneg y (show (14:Int)≠0 by omega)
 have e3:=Int.emod_lt_of_pos (y % 14) (show (0:Int)<n by omega)
 have e4:=Int.emod_nonneg (y % 14) (show (n:Int)≠0 by omega)
 have hN: ∀k:Nat,k<4→qa8 {name:=K7 k} false true=true:=by decide
 have hL: ∀k:Nat,k<4→qa8 (kG k) false true=true:=by decide
 unfold VE
 split
 · have:=hN (y % 14 % n).toNat (by omega)
   rw[Int.toNat_of_nonneg e4]at this;exact this
 · split
   · decide
   · rw[Xn];exact hL _ (by omega)
theorem JC: ∀{iss:List (List Nat)},iss.flatten.Nodup→ ∀is∈iss,is.Nodup
 |[],_,is,h=>by cases h
 | a::r,hn,is,h=>by
   rw[List.flatten_cons,List.nodup_append]at hn
   rcases List.mem_cons.1 h with rfl|h
   · exact hn.1
   · exact JC hn.2.1 is h
theorem JW (x:GrI):(qC x).Fits:=by
 obtain ⟨h1,h2⟩:=qcE x
 obtain ⟨iss,d1,d2,d3,d4⟩:=VJ x.levels (min 4 x.levels.length) (by omega)
 have hlen:(ko x.levels).length≤4:=by
  have h5:iss.length≤iss.flatten.length:=by
   have hne: ∀is∈iss,is≠[]:=fun is hi=>by
    obtain ⟨k,hk⟩:=List.getElem?_of_mem hi
    obtain ⟨d,hd⟩: ∃d,(zU x.levels (min 4 x.levels.length))[k]?=some d:=⟨_,ge_ (by have:=(List.getElem?_eq_some_iff.1 hk).1;omega)⟩
    exact(d2 k d is hd hk).2.2.2
   clear d1 d2 d3 d4
   induction iss with
   |nil=>simp
   | cons a r ih=>
     have:=ih fun is hi=>hne is (List.mem_cons_of_mem _ hi)
     have ha:=List.length_pos_iff.2 (hne a (by simp))
     rw[List.flatten_cons,List.length_append,List.length_cons];omega
  have h6:=Qm (min 4 x.levels.length) _ d3 d4
  show (zU x.levels (min 4 x.levels.length)).length≤4
  omega
 refine⟨by simp[qC],by simp[qC],by show (ko x.levels).length≤_;omega,fun d hd=>?_,by simp[qC];omega,fun r hr=>?_⟩
 · obtain ⟨k,hk⟩:=List.getElem?_of_mem hd
   have hki:k<iss.length:=by have h3:=(List.getElem?_eq_some_iff.1 hk).1;unfold qC ko at h3;dsimp only at h3;omega
   obtain ⟨q1,q2,q3,q4⟩:=d2 k d iss[k] hk (ge_ hki)
   have h6:iss[k].length≤4:=Qm 4 _ (JC d3 _ (List.getElem_mem hki)) (fun i hi=>by have:=d4 i (List.mem_flatten.2 ⟨_,List.getElem_mem hki,hi⟩);omega)
   refine⟨by simp[q2],by rw[q3,List.length_map];omega,fun y hy=>?_⟩
   rw[q3]at hy
   obtain ⟨i,hi,rfl⟩:=List.mem_map.1 hy
   have hi4:=d4 i (List.mem_flatten.2 ⟨_,List.getElem_mem hki,hi⟩)
   rw[(jc (show i<4 by omega)).1];simp
 · obtain ⟨k,hk,rfl⟩:=List.mem_map.1 hr
   have hkn:=List.mem_range.1 hk
   have hfl:(X0 x.bare (zG x (kI x) (min 9 x.rules.length)) k).length≤20:=by
    have:=Qj x (kI x) (min 9 x.rules.length) k
    unfold X0;split<;>simp<;>omega
   have hsn: ∀y:Int,(VE y (kI x)).name.length≤5:=fun y=>by
    have hg:=qhc (n:=kI x) (by omega) (by omega) y
    unfold VE
    split
    · simp
    · split
      · simp
      · rw[Xn,(jc (show ((y % 14 - 5) % 4).toNat<4 by omega)).1];simp
   refine⟨by simp,by dsimp only;omega,fun a ha=>?_⟩
   rcases qcc ha with ⟨l,j,rfl⟩|rfl
   · obtain ⟨_,_,_,g4⟩:=K5 (lefts:=(List.range (kI x)).map fun k:Nat=>K7 k) (n:=kI x) (by omega) (fun k hk=>List.mem_map.2 ⟨k,List.mem_range.2 hk,rfl⟩) l x.inner j
     refine⟨by omega,fun w hw=>?_,by simp[qdz]⟩
     rcases Kb hw with ⟨y,rfl⟩|rfl|rfl
     · exact⟨by have:=hsn y;dsimp only;omega,by simp⟩
     · exact⟨by simp,by simp[QL]⟩
     · exact⟨by simp,by simp[YH]⟩
   · refine⟨by simp,fun w hw=>?_,by simp⟩
     rw[List.mem_singleton]at hw;subst hw
     rw[Part.Fits,(jc (show k<4 by omega)).1];simp
theorem Kq (x:GrI):Small (qC x):=by
 obtain ⟨h1,h2⟩:=qcE x
 obtain ⟨f1,f2,f3,f4,f5,f6⟩:=JW x
 obtain ⟨iss,d1,d2,d3,d4⟩:=VJ x.levels (min 4 x.levels.length) (by omega)
 have hd: ∀d∈(qC x).decls,∃is:List Nat,qbJ d is∧is.length≤4∧ ∀i∈is,i<4:=fun d hd=>by
  obtain ⟨k,hk⟩:=List.getElem?_of_mem hd
  have hki:k<iss.length:=by have h3:=(List.getElem?_eq_some_iff.1 hk).1;unfold qC ko at h3;dsimp only at h3;omega
  have hi4: ∀i∈iss[k],i<4:=fun i hi=>by have:=d4 i (List.mem_flatten.2 ⟨_,List.getElem_mem hki,hi⟩);omega
  exact⟨iss[k],d2 k d iss[k] hk (ge_ hki),Qm 4 _ (JC d3 _ (List.getElem_mem hki)) hi4,hi4⟩
 have hlen:(qC x).decls.length≤4:=by
  have h5:iss.length≤iss.flatten.length:=by
   have hne: ∀is∈iss,is≠[]:=fun is hi=>by
    obtain ⟨k,hk⟩:=List.getElem?_of_mem hi
    obtain ⟨d,hd⟩: ∃d,(zU x.levels (min 4 x.levels.length))[k]?=some d:=⟨_,ge_ (by have:=(List.getElem?_eq_some_iff.1 hk).1;omega)⟩
    exact(d2 k d is hd hk).2.2.2
   clear d1 d2 d3 d4
   induction iss with
   |nil=>simp
   | cons a r ih=>
     have:=ih fun is hi=>hne is (List.mem_cons_of_mem _ hi)
     have ha:=List.length_pos_iff.2 (hne a (by simp))
     rw[List.flatten_cons,List.length_append,List.length_cons];omega
  have h6:=Qm (min 4 x.levels.length) _ d3 d4
  show (zU x.levels (min 4 x.levels.length)).length≤4
  omega
 have hsn: ∀y:Int,(VE y (kI x)).lit=true→(VE y (kI x)).name≠[]:=fun y=>by
  unfold VE
  split
  · intro e;cases e
  · split
    · intro e;cases e
    · intro _;rw[Xn,(jc (show ((y % 14 - 5) % 4).toNat<4 by omega)).1];simp
 have ha: ∀r∈(qC x).rules,r.alts.length≤20∧ ∀a∈r.alts,a.parts.length≤6∧a.prec={}∧ ∀w∈a.parts,w.sym.lit=true→w.sym.name≠[]:=fun r hr=>by
  obtain ⟨k,hk,rfl⟩:=List.mem_map.1 hr
  have hkn:=List.mem_range.1 hk
  refine⟨?_,fun a ha=>?_⟩
  · have:=Qj x (kI x) (min 9 x.rules.length) k
    dsimp only
    unfold X0;split<;>simp<;>omega
  · rcases qcc ha with ⟨l,j,rfl⟩|rfl
    · obtain ⟨_,g2,_,g4⟩:=K5 (lefts:=(List.range (kI x)).map fun k:Nat=>K7 k) (n:=kI x) (by omega) (fun k hk=>List.mem_map.2 ⟨k,List.mem_range.2 hk,rfl⟩) l x.inner j
      refine⟨g4,g2,fun w hw=>?_⟩
      rcases Kb hw with ⟨y,rfl⟩|rfl|rfl
      · exact hsn y
      · intro e;cases e
      · intro e;cases e
    · refine⟨by simp,rfl,fun w hw _=>?_⟩
      rw[List.mem_singleton]at hw;subst hw
      rw[(jc (show k<4 by omega)).1];simp
 refine⟨by omega,fun d h=>?_,fun d h=>?_,fun d h y hy _=>?_,?_,fun r hr=>?_,fun r hr a h=>?_,fun r hr a h w hw=>?_,fun r hr a h e=>?_⟩
 · obtain ⟨is,⟨q1,q2,q3,q4⟩,h5,h6⟩:=hd d h
   rw[q3,List.length_map];omega
 · obtain ⟨is,⟨q1,q2,q3,q4⟩,h5,h6⟩:=hd d h
   omega
 · obtain ⟨is,⟨q1,q2,q3,q4⟩,h5,h6⟩:=hd d h
   rw[q3]at hy
   obtain ⟨i,hi,rfl⟩:=List.mem_map.1 hy
   rw[(jc (h6 i hi)).1];simp
 · simp[qC];omega
 · have:=(ha r hr).1;omega
 · have:=((ha r hr).2 a h).1;omega
 · exact((ha r hr).2 a h).2.2 w hw
 · rw[((ha r hr).2 a h).2.1]at e;cases e
end Go.Proofs
