/- Part of a proof that a law of the given program answers true. -/
import Derived.Test.YtjdjdbkoplmjeaaGreatDoorUGC
import Derived.Test.YtjdjdbkoplmjeaaGreatDoorUJA
import Derived.Test.YtjdjdbkoplmjeaaGreatDoorUCA
set_option linter.unusedSimpArgs false
set_option linter.unusedVariables false
namespace Go.Proofs
open Go.E
def XZ (nt nn:Nat) (s:Int):Prop:=(∃t:Nat,s=t∧t<nt)∨ ∃k:Nat,s=1000+(k:Int)∧k<nn
structure GOk (g:Grammar):Prop where
 tk:3≤g.toks.length
 tk2:g.toks.length≤40
 nn:1≤g.nons.length
 nn2:g.nons.length≤24
 pl:1≤g.prods.length
 pl2:g.prods.length≤60
 left: ∀p∈g.prods,∃l:Nat,p.left=l∧l<g.nons.length
 rlen: ∀p∈g.prods,p.right.length≤8
 right: ∀p∈g.prods,∀s∈p.right,XZ g.toks.length g.nons.length s
 prec: ∀p∈g.prods,p.prec= -1∨ ∃t:Nat,p.prec=t∧t<g.toks.length
 head: ∃p r,g.prods=p::r∧p.left=0∧(∃k:Nat,p.right=[1000+(k:Int)]∧k<g.nons.length)
structure MInv (m:Mk):Prop where
 tk:3≤m.toks.length
 inn:0≤m.inner
 left: ∀p∈m.prods,0≤p.left∧p.left≤m.lefts.length+m.inner
 right: ∀p∈m.prods,∀s∈p.right,XZ m.toks.length (1+m.lefts.length+m.inner.toNat) s
 prec: ∀p∈m.prods,p.prec= -1∨(0≤p.prec∧p.prec<m.toks.length)
theorem XZ.mono {a b a' b':Nat} {s:Int} (h:XZ a b s) (h1:a≤a') (h2:b≤b'):XZ a' b' s:=by
 rcases h with ⟨t,e,l⟩|⟨k,e,l⟩
 · exact Or.inl ⟨t,e,o_⟩
 · exact Or.inr ⟨k,e,o_⟩
theorem MInv.up {m m':Mk} (h:MInv m) (hp:m'.prods=m.prods) (ht:m.toks.length≤m'.toks.length) (hl:m'.lefts=m.lefts) (hi:m.inner≤m'.inner):MInv m':=by
 have:=h.inn
 refine⟨by have:=h.tk;omega,o_,fun p hq=>?_,fun p hq s hs=>?_,fun p hq=>?_⟩
 · rw[hp]at hq;have:=h.left p hq;rw[hl];omega
 · rw[hp]at hq;rw[hl];exact(h.right p hq s hs).mono ht o_
 · rw[hp]at hq
   rcases h.prec p hq with h|⟨h1,h2⟩
   · exact Or.inl h
   · exact Or.inr ⟨h1,o_⟩
theorem MInv.put {m:Mk} (h:MInv m) {p:GPr} (h1:0≤p.left∧p.left≤m.lefts.length+m.inner) (h2: ∀s∈p.right,XZ m.toks.length (1+m.lefts.length+m.inner.toNat) s) (h3:p.prec= -1∨(0≤p.prec∧p.prec<m.toks.length)):MInv {m with prods:=m.prods++[p]}:=by
 refine⟨h.tk,h.inn,fun q hq=>?_,fun q hq=>?_,fun q hq=>?_⟩<;>rcases List.mem_append.1 hq with hq|hq
 · exact h.left q hq
 · rw[List.mem_singleton]at hq;subst hq;exact h1
 · exact h.right q hq
 · rw[List.mem_singleton]at hq;subst hq;exact h2
 · exact h.prec q hq
 · rw[List.mem_singleton]at hq;subst hq;exact h3
theorem qeQ {m:Mk} (x:Sym) (ht:3≤m.toks.length) (hi:0≤m.inner):XZ (yS m x).1.toks.length (1+m.lefts.length+m.inner.toNat) (yS m x).2∧(x.lit=true∨qE x.name m.lefts 0<0→0≤(yS m x).2∧(yS m x).2<(yS m x).1.toks.length):=by
 have hb:=qfp m x o_
 have hl:=j3 x.name m.lefts 0
 have htk:=qbb x m.toks o_
 have hf:=(zx m x.at_ x.name).1
 have tokI: ∀{n:Nat} {s:Int},0≤s→s<n→XZ n (1+m.lefts.length+m.inner.toNat) s:=fun h1 h2=>Or.inl ⟨_,(Int.toNat_of_nonneg h1).symm,o_⟩
 unfold yS
 split
 · exact⟨tokI hb.1 hb.2,fun _=>hb⟩
 · rename_i hx
   split
   · rename_i h0
     refine⟨Or.inr ⟨(1+qE x.name m.lefts 0).toNat,by dsimp only;omega,o_⟩,fun h=>?_⟩
     rcases h with h|h
     · exact absurd h hx
     · omega
   · split
     · dsimp only;rw[hf]
       exact⟨tokI o_ o_,fun _=>⟨o_,o_⟩⟩
     · dsimp only;exact⟨tokI o_ o_,fun _=>⟨o_,o_⟩⟩
theorem YK : ∀(l:List Part) (m:Mk) (p:GPr),MInv m→(∀s∈p.right,XZ m.toks.length (1+m.lefts.length+m.inner.toNat) s)→MInv (zG l (m,p)).1∧ ∀s∈(zG l (m,p)).2.right,XZ (zG l (m,p)).1.toks.length (1+(zG l (m,p)).1.lefts.length+(zG l (m,p)).1.inner.toNat) s
 |[],m,p,h,hp=>by rw[Xo];exact⟨h,hp⟩
 | w :: r, m,p,h,hp=>by
   rw[Qk]
   obtain ⟨y1,y2,y3,y4,y5,y6,y7,y8⟩:=QA m w.sym
   have hs:=(qeQ w.sym h.tk h.inn).1
   have hi:=h.inn
   split
   · refine YK r _ _ (h.up y3 y7 y2 o_) fun s hs2=>?_
     rw[y2,y6]
     rcases List.mem_append.1 hs2 with hs2|hs2
     · exact(hp s hs2).mono y7 (Nat.le_refl _)
     · rw[List.mem_singleton]at hs2;subst hs2;exact hs
   · split
     · exact⟨h,hp⟩
     · refine YK r _ _ ?_ fun s hs2=>?_
       · refine(h.up (m':={m with inner:=m.inner+1}) rfl (Nat.le_refl _) rfl (by dsimp only;omega)).put ⟨by dsimp only;omega,by dsimp only;omega⟩ (fun s hs2=>by cases hs2) (Or.inl rfl)
       · dsimp only at hs2 ⊢
         rcases List.mem_append.1 hs2 with hs2|hs2
         · exact(hp s hs2).mono (Nat.le_refl _) o_
         · rw[List.mem_singleton]at hs2
           exact Or.inr ⟨m.lefts.length+(m.inner+1).toNat,by rw[hs2];omega,o_⟩
theorem Kq (n:Nat): ∀(l:List Int) (p:Int),(∀s∈l,0≤s∧(s<1000→s<n))→(p= -1∨(0≤p∧p<n))→(x9 l p= -1∨(0≤x9 l p∧x9 l p<n))
 |[],p,_,hp=>hp
 | x::r,p,h,hp=>by
   rw[x9]
   refine Kq n r _ (fun s hs=>h s (List.mem_cons_of_mem _ hs)) ?_
   split
   · rename_i hx;have:=h x (by simp);exact Or.inr ⟨this.1,this.2 hx⟩
   · exact hp
theorem ql9 {m:Mk} (n:List UInt8) (a:Alt) (h:MInv m):MInv (XQ m n a):=by
 have hl:=j3 n m.lefts 0
 obtain ⟨g1,g2,g3,g4,g5,g6,g7,g8,g9,g10⟩:=Xf a.parts m {left:=1+qE n m.lefts 0,prec:= -1,at_:=a.at_}
 obtain ⟨h1,h2⟩:=YK a.parts m {left:=1+qE n m.lefts 0,prec:= -1,at_:=a.at_} h (fun s hs=>by cases hs)
 have hi:=h.inn
 unfold XQ
 dsimp only
 generalize zG a.parts (m,{left:=1+qE n m.lefts 0,prec:= -1,at_:=a.at_})=q at *
 have hlf:0≤q.2.left∧q.2.left≤q.1.lefts.length+q.1.inner:=by rw[g5,g1];dsimp only;omega
 obtain ⟨ff1,ff2,ff3,ff4,ff5,ff6,ff7,ff8⟩:=zx q.1 a.prec.at_ a.prec.name
 split
 · split
   · rename_i hc
     obtain ⟨y1,y2,y3,y4,y5,y6,y7,y8⟩:=QA q.1 a.prec
     have hs:=(qeQ a.prec h1.tk h1.inn).2 (by rcases hc with hc|hc<;>simp[hc])
     refine(h1.up y3 y7 y2 o_).put (by rw[y2,y6];exact hlf) (fun s hs2=>?_) (Or.inr hs)
     rw[y2,y6];exact(h2 s hs2).mono y7 (Nat.le_refl _)
   · refine(h1.up (m':=zb q.1 a.prec.at_ a.prec.name) ff5 (by rw[ff1];omega) ff3 o_).put (p:={q.2 with prec:= -1,args:=q.2.right}) (by rw[ff3,ff8];exact hlf) (fun s hs2=>by rw[ff1,ff3,ff8];exact h2 s hs2) (Or.inl rfl) |> fun hh=>?_
     rw[ff5]at hh
     exact hh
 · refine h1.put hlf h2 ?_
   refine Kq _ _ _ (fun s hs=>?_) (Or.inl rfl)
   rcases h2 s hs with ⟨t,e,l⟩|⟨k,e,l⟩
   · exact⟨o_,fun _=>by omega⟩
   · exact⟨o_,fun _=>by omega⟩
theorem Kz (n:List UInt8): ∀(l:List Alt) (m:Mk),MInv m→MInv (zL n l m)
 |[],m,h=>h
 |a::r,m,h=>by rw[vU];exact Kz n r _ (ql9 n a h)
theorem qb8: ∀(l:List Rule) (m:Mk),MInv m→MInv (vg l m)
 |[],m,h=>h
 |r::l,m,h=>by rw[Ql];exact qb8 l _ (Kz r.left r.alts m h)
def HdP (P:GPr) (m:Mk):Prop:= ∃r,m.prods=P::r
theorem Vs (P:GPr): ∀(l:List Part) (m:Mk) (p:GPr),HdP P m→HdP P (zG l (m,p)).1
 |[],m,p,h=>h
 | w ::r,m,p,h=>by
   rw[Qk]
   obtain ⟨y1,y2,y3,y4,y5,y6,y7,y8⟩:=QA m w.sym
   obtain ⟨t,ht⟩:=h
   split
   · exact Vs P r _ _ ⟨t,by rw[y3];exact ht⟩
   · split
     · exact⟨t,ht⟩
     · exact Vs P r _ _ ⟨_,by dsimp only;rw[ht];rfl⟩
theorem qkQ (P:GPr) {m:Mk} (n:List UInt8) (a:Alt) (h:HdP P m):HdP P (XQ m n a):=by
 have h1:=Vs P a.parts m {left:=1+qE n m.lefts 0,prec:= -1,at_:=a.at_} h
 unfold XQ
 dsimp only
 generalize zG a.parts (m,{left:=1+qE n m.lefts 0,prec:= -1,at_:=a.at_})=q at *
 obtain ⟨t,ht⟩:=h1
 obtain ⟨y1,y2,y3,y4,y5,y6,y7,y8⟩:=QA q.1 a.prec
 split
 · split
   · exact⟨_,by dsimp only;rw[y3,ht];rfl⟩
   · exact⟨_,by dsimp only;rw[ht];rfl⟩
 · exact⟨_,by dsimp only;rw[ht];rfl⟩
theorem qau (P:GPr) (n:List UInt8): ∀(l:List Alt) (m:Mk),HdP P m→HdP P (zL n l m)
 |[],m,h=>h
 |a::r,m,h=>by rw[vU];exact qau P n r _ (qkQ P n a h)
theorem qbH (P:GPr): ∀(l:List Rule) (m:Mk),HdP P m→HdP P (vg l m)
 |[],m,h=>h
 |r::l,m,h=>by rw[Ql];exact qbH P l _ (qau P r.left r.alts m h)
theorem JD (g:List Bool): ∀(f i:Nat) (l:List Tok) (n:Int),(VG g f i (l,n)).1.length=l.length
 |0,i,l,n=>rfl
 | f+1,i,l,n=>by
   rw[YD];split
   · exact JD g f _ _ _
   · rw[JD];simp
theorem qbg (d:Decl): ∀(l:List Sym) (m:Mk) (st:List UInt8),vK m (zT d l (m,st)).1∧m.toks.length≤(zT d l (m,st)).1.toks.length
 |[],m,st=>⟨⟨rfl,rfl,rfl,rfl⟩,Nat.le_refl _⟩
 | x ::r,m,st=>by
   rw[YA]
   obtain ⟨⟨a1,a2,a3,a4⟩,_,h2,_⟩:=qff m d x
   obtain ⟨ff1,ff2,ff3,ff4,ff5,ff6,ff7,ff8⟩:=zx m x.at_ x.name
   split
   · obtain ⟨⟨b1,b2,b3,b4⟩,k2⟩:=qbg d r (kC m d x) st
     exact⟨⟨b1.trans a1,b2.trans a2,b3.trans a3,b4.trans a4⟩,o_⟩
   · have key: ∀m',vK m m'→m.toks.length≤m'.toks.length→vK m (zT d r (m',x.name)).1∧m.toks.length≤(zT d r (m',x.name)).1.toks.length:=fun m' hm ht=>by
      obtain ⟨⟨b1,b2,b3,b4⟩,k2⟩:=qbg d r m' x.name
      exact⟨⟨b1.trans hm.1,b2.trans hm.2.1,b3.trans hm.2.2.1,b4.trans hm.2.2.2⟩,o_⟩
     split
     · exact key _ ⟨ff3,ff5,ff6,ff8⟩ (by rw[ff1];omega)
     · exact key _ ⟨rfl,rfl,rfl,rfl⟩ (Nat.le_refl _)
theorem qd2: ∀(l:List Decl) (m:Mk) (st:List UInt8),vK m (xg l (m,st)).1∧m.toks.length≤(xg l (m,st)).1.toks.length
 |[],m,st=>⟨⟨rfl,rfl,rfl,rfl⟩,Nat.le_refl _⟩
 | d::r,m,st=>by
   rw[Yu]
   have key: ∀m',vK m m'→m.toks.length≤m'.toks.length→vK m (xg r (zT d d.syms (m',st))).1∧m.toks.length≤(xg r (zT d d.syms (m',st))).1.toks.length:=fun m' hm ht=>by
    obtain ⟨⟨a1,a2,a3,a4⟩,k1⟩:=qbg d d.syms m' st
    obtain ⟨⟨b1,b2,b3,b4⟩,k2⟩:=qd2 r (zT d d.syms (m',st)).1 (zT d d.syms (m',st)).2
    exact⟨⟨b1.trans (a1.trans hm.1),b2.trans (a2.trans hm.2.1),b3.trans (a3.trans hm.2.2.1),b4.trans (a4.trans hm.2.2.2)⟩,by show m.toks.length≤(xg r ((zT d d.syms (m',st)).1,(zT d d.syms (m',st)).2)).1.toks.length;omega⟩
   split
   · exact key _ ⟨rfl,rfl,rfl,rfl⟩ (Nat.le_refl _)
   · exact key _ ⟨rfl,rfl,rfl,rfl⟩ (Nat.le_refl _)
theorem qdD: ∀(l:List Rule) (m:Mk),(yB l m).toks=m.toks∧(yB l m).inner=m.inner∧(yB l m).nons=m.nons
 |[],m=>⟨rfl,rfl,rfl⟩
 | r::l,m=>by
   rw[YI]
   obtain ⟨d1,d2,d3,d4,d5,d6⟩:=qeB m r
   obtain ⟨h1,h2,h3⟩:=qdD l (XJ (Qt m r) r.left)
   have e:(XJ (Qt m r) r.left).toks=m.toks∧(XJ (Qt m r) r.left).inner=m.inner∧(XJ (Qt m r) r.left).nons=m.nons:=by
    unfold XJ
    split
    · exact⟨d1,d6,d5⟩
    · exact⟨d1,d6,d5⟩
   exact⟨h1.trans e.1,h2.trans e.2.1,h3.trans e.2.2⟩
theorem qcB (kind:Int): ∀(l:List Sym) (m:Mk),xI m (xM kind l m)
 |[],m=>xI.rfl' m
 |x::r,m=>by rw[Xp];exact(qBe m kind x).trans' (qcB kind r _)
theorem qeS: ∀(l:List Decl) (m:Mk),xI m (Qr l m)
 |[],m=>xI.rfl' m
 |d::r,m=>by rw[Yt];exact(qcB d.kind d.syms m).trans' (qeS r _)
def qc0 (src:Source):Mk:=Qr src.decls (yB src.rules (xg src.decls ({},[])).1)
def ZR (src:Source):List UInt8:=if (xg src.decls ({},[])).2=[]then(src.rules.headD {}).left else(xg src.decls ({},[])).2
def qa9 (src:Source):GPr:={left:=0,right:=[1001+qE (ZR src) (qc0 src).lefts 0],prec:= -1}
theorem qch (src:Source):xV src=vg src.rules {qc0 src with prods:=[qa9 src]}:=rfl
theorem qzI (src:Source):3≤(qc0 src).toks.length∧(qc0 src).inner=0∧(qc0 src).nons=[]:=by
 obtain ⟨⟨a1,a2,a3,a4⟩,k1⟩:=qd2 src.decls {} []
 obtain ⟨l1,l2,l3⟩:=qdD src.rules (xg src.decls ({},[])).1
 obtain ⟨u1,u2,u3,u4,u5,u6,u7⟩:=qeS src.decls (yB src.rules (xg src.decls ({},[])).1)
 refine⟨?_,?_,?_⟩
 · show 3≤(Qr _ _).toks.length;rw[u1,l1];exact k1
 · show (Qr _ _).inner=0;rw[u7,l2];exact a4
 · show (Qr _ _).nons=[];rw[u6,l3];exact a3
theorem qfG (src:Source):MInv (xV src)∧HdP (qa9 src) (xV src):=by
 obtain ⟨h1,h2,h3⟩:=qzI src
 have hl:=j3 (ZR src) (qc0 src).lefts 0
 rw[qch]
 refine⟨qb8 _ _ ⟨h1,by dsimp only;omega,fun p hp=>?_,fun p hp s hs=>?_,fun p hp=>?_⟩,qbH _ _ _ ⟨[],rfl⟩⟩<;>(dsimp only at hp;rw[List.mem_singleton]at hp;subst hp)
 · unfold qa9;dsimp only;omega
 · unfold qa9 at hs;dsimp only at hs ⊢;rw[List.mem_singleton]at hs;subst hs
   exact Or.inr ⟨(1+qE (ZR src) (qc0 src).lefts 0).toNat,o_,o_⟩
 · exact Or.inl rfl
theorem XD (n:List UInt8): ∀(l:List Alt) (m:Mk),(zL n l m).nons=m.nons∧(zL n l m).lefts=m.lefts
 |[],m=>⟨rfl,rfl⟩
 | a::r,m=>by
   rw[vU]
   obtain ⟨h1,_,h3,_⟩:=qhc m n a
   obtain ⟨k1,k2⟩:=XD n r (XQ m n a)
   exact⟨k1.trans h3,k2.trans h1⟩
theorem Yq: ∀(l:List Rule) (m:Mk),(vg l m).nons=m.nons∧(vg l m).lefts=m.lefts
 |[],m=>⟨rfl,rfl⟩
 | r::l,m=>by
   rw[Ql]
   obtain ⟨h1,h2⟩:=XD r.left r.alts m
   obtain ⟨k1,k2⟩:=Yq l (zL r.left r.alts m)
   exact⟨k1.trans h1,k2.trans h2⟩
theorem qmC (m:Mk):(xG m).toks.length=m.toks.length∧(xG m).nons.length=1+m.lefts.length+m.inner.toNat∧(xG m).prods=m.prods:=by
 unfold xG
 dsimp only
 refine⟨JD _ _ _ _ _,?_,rfl⟩
 rw[List.length_append,List.length_append,XC,qbU];rfl
theorem qfK {src:Source} (h:K4 src=true):Yx src=true∧(xV src).e=0∧XM (xG (xV src))=false∧kE src={toks:=(xG (xV src)).toks,nons:=(xG (xV src)).nons,prods:=(xG (xV src)).prods,pro:=src.pro,tail:=src.tail}:=by
 have h:=of_decide_eq_true h
 unfold kE
 unfold ofS at *
 by_cases h1:Yx src=true
 · rw [if_pos h1]at *
   by_cases h2:(xV src).e≠0
   · rw[if_pos h2]at h;exact absurd h h2
   · rw[if_neg h2]at *
     by_cases h3:XM (xG (xV src))=true
     · rw[if_pos h3]at h;cases h
     · rw[if_neg h3]at *
       exact⟨h1,by simpa using h2,by simpa using h3,rfl⟩
 · rw[if_neg h1]at h;cases h
theorem gok {src:Source} (h:K4 src=true):GOk (kE src):=by
 obtain ⟨_,_,hl,he⟩:=qfK h
 obtain ⟨hi,r,hr⟩:=qfG src
 obtain ⟨n1,n2,n3⟩:=qmC (xV src)
 unfold XM at hl
 simp only[Bool.or_eq_false_iff,decide_eq_false_iff_not,List.any_eq_false,decide_eq_true_eq]at hl
 obtain ⟨⟨⟨l1,l2⟩,l3⟩,l4⟩:=hl
 have hinn:=hi.inn
 rw[he]
 refine⟨?_,?_,?_,?_,?_,?_,fun p hp=>?_,fun p hp=>?_,fun p hp s hs=>?_,fun p hp=>?_,?_⟩<;>dsimp only at *
 · rw[n1];exact hi.tk
 · omega
 · rw[n2];omega
 · omega
 · rw[n3,hr];simp
 · omega
 · rw[n3]at hp;have:=hi.left p hp
   exact⟨p.left.toNat,o_,o_⟩
 · have:=l4 p hp;omega
 · rw[n3]at hp;rw[n1,n2];exact hi.right p hp s hs
 · rw[n3]at hp
   rcases hi.prec p hp with h|⟨h1,h2⟩
   · exact Or.inl h
   · exact Or.inr ⟨p.prec.toNat,o_,o_⟩
 · refine⟨qa9 src,r,by rw[n3];exact hr,rfl,(1+qE (ZR src) (qc0 src).lefts 0).toNat,?_,?_⟩
   · have:=j3 (ZR src) (qc0 src).lefts 0
     unfold qa9;dsimp only
     rw[show (1001+qE (ZR src) (qc0 src).lefts 0:Int)=1000+((1+qE (ZR src) (qc0 src).lefts 0).toNat:Int) by omega]
   · have:=j3 (ZR src) (qc0 src).lefts 0
     have:=(Yq src.rules {qc0 src with prods:=[qa9 src]}).2
     rw[← qch]at this
     dsimp only at this
     rw[n2,this];omega

theorem ZK {x:Sym}: ∀{l:List Tok} {i:Nat},(∀(n:Nat) t,l[n]?=some t→ ¬ (t.name=x.name∧t.lit=x.lit∧i+n≠2))→Zd x l i= -1
 |[],i,_=>rfl
 | t::r,i,h=>by
   unfold Zd
   rw[if_neg (by have:=h 0 t rfl;simpa using this)]
   exact ZK fun n u hu=>by have:=h (n+1) u (by simpa using hu);rwa [show i+1+n=i+(n+1) by omega]
theorem X7 {x:Sym}: ∀{l:List Tok} {i n:Nat} {t:Tok},l[n]?=some t→t.name=x.name→t.lit=x.lit→i+n≠2→0≤Zd x l i
 |[],i,n,t,h,_,_,_=>by simp at h
 | u ::r,i,n,t,h,h1,h2,h3=>by
   unfold Zd
   split
   · omega
   · rename_i hne
     cases n with
     |zero=>simp at h;subst h;exact absurd ⟨h1,h2,o_⟩ hne
     |succ n=>exact X7 (l:=r) (i:=i+1) (n:=n) (t:=t) (by simpa using h) h1 h2 o_
theorem YE {n:Int}: ∀{l:List Tok} {i:Nat},(∀t∈l,t.num≠n)→qad n l i= -1
 |[],i,_=>rfl
 | t::r,i,h=>by
   unfold qad
   rw[if_neg (h t (by simp))]
   exact YE fun u hu=>h u (List.mem_cons_of_mem _ hu)
abbrev core (t:Tok):List UInt8×Bool×Int:=(t.name,t.lit,t.num)
abbrev qJW (j:Nat):List UInt8×Bool×Int:=((kz j).name,true,qdh (kz j))
abbrev qdj:List (List UInt8×Bool×Int):=[([36,101,110,100],false,0),(qxj,false,-1),([36,117,110,107],false,-1)]
structure LInv (m:Mk) (js:List Nat):Prop where
 e:m.e=0
 toks:m.toks.map core=qdj++js.map qJW
 nd:js.Nodup
 lt: ∀j∈js,j<4
theorem jk {j:Nat} (h:j<4):(kz j).name=[UInt8.ofNat (112+j)]∧qdh (kz j)=112+j:=by
 rcases j with _ | _ | _ | _ |j
 · exact⟨rfl,rfl⟩
 · exact⟨rfl,rfl⟩
 · exact⟨rfl,rfl⟩
 · exact⟨rfl,rfl⟩
 · omega
theorem qjx {i j:Nat} (hi:i<4) (hj:j<4) (h:(kz i).name=(kz j).name):i=j:=by
 have h1:=(jk hi).1
 have h2:=(jk hj).1
 rw[h1,h2]at h
 simp only[List.cons.injEq,and_true]at h
 have:=congrArg UInt8.toNat h
 simp at this
 omega
theorem LInv.get {m:Mk} {js:List Nat} (h:LInv m js) {n:Nat} {t:Tok} (ht:m.toks[n]?=some t):(qdj++js.map qJW)[n]?=some (core t):=by rw[← h.toks,List.getElem?_map,ht];rfl
theorem LInv.len {m:Mk} {js:List Nat} (h:LInv m js):m.toks.length=3+js.length:=by have:=congrArg List.length h.toks;simp at this;omega
theorem LInv.tok_in {m:Mk} {js:List Nat} (h:LInv m js) {j:Nat} (hj:j∈js):0≤Kc m.toks (kz j):=by
 obtain ⟨i,hi,he⟩:=List.getElem_of_mem hj
 have hl:=h.len
 have h3:m.toks[3+i]?=some (m.toks[3+i]' o_):=ge_ o_
 have hg:=h.get h3
 rw[List.getElem?_append_right (by simp),show 3+i - qdj.length=i by simp,List.getElem?_map,ge_ hi,he]at hg
 simp only[Option.map_some,Option.some.injEq,Prod.mk.injEq]at hg
 refine X7 (n:=2+i) (t:=m.toks[3+i]' o_) ?_ hg.1.symm ?_ o_
 · rw[List.getElem?_drop,show 1+(2+i)=3+i by omega];exact h3
 · rw[← hg.2.1]
theorem LInv.tok_out {m:Mk} {js:List Nat} (h:LInv m js) {j:Nat} (hj:j ∉ js) (hj4:j<4):Kc m.toks (kz j)= -1:=by
 refine ZK fun n t ht=>?_
 rw[List.getElem?_drop]at ht
 have hg:=h.get ht
 rintro ⟨h1,h2,h3⟩
 match n,hg with
 |0,hg=>simp at hg;rw[hg.2.1]at h2;cases h2
 |1,hg=>exact absurd rfl h3
 | n +2,hg=>
   rw[List.getElem?_append_right (by simp;omega),List.getElem?_map]at hg
   cases hq:js[1+(n+2) - qdj.length]? with
   |none=>rw[hq]at hg;cases hg
   | some q=>
     rw[hq]at hg
     simp only[Option.map_some,Option.some.injEq,Prod.mk.injEq]at hg
     have hqm:=List.mem_of_getElem? hq
     have:=qjx (h.lt q hqm) hj4 (hg.1.trans h1)
     subst this;exact hj hqm
theorem LInv.own {m:Mk} {js:List Nat} (h:LInv m js) {j:Nat} (hj:j ∉ js) (hj4:j<4):qih m.toks (qdh (kz j))= -1:=by
 refine YE fun t ht e=>?_
 obtain ⟨n,hn⟩:=List.getElem?_of_mem ht
 rw[List.getElem?_drop]at hn
 have hg:=h.get hn
 rw[List.getElem?_append_right (by simp),List.getElem?_map]at hg
 cases hq:js[3+n - qdj.length]? with
 |none=>rw[hq]at hg;cases hg
 | some q=>
   rw[hq]at hg
   simp only[Option.map_some,Option.some.injEq,Prod.mk.injEq]at hg
   have hqm:=List.mem_of_getElem? hq
   have h4:=h.lt q hqm
   have:=(jk h4).2;have:=(jk hj4).2
   have:q=j:=o_
   subst this;exact hj hqm
theorem Jt (k:Int):kz k=kz ((k % 4).toNat:Nat):=by
 have h1:=Int.emod_nonneg k (show (4:Int)≠0 by omega)
 unfold kz
 rw[Int.toNat_of_nonneg h1,Int.emod_emod_of_dvd k (Int.dvd_refl 4)]
theorem LInv.put {m:Mk} {js:List Nat} (h:LInv m js) (k:Int): ∃js',LInv (ZN m (kz k)).1 js'∧(∀j∈js,j∈js')∧ ∀j∈js',j∈js∨j=(k % 4).toNat:=by
 have h1:=Int.emod_nonneg k (show (4:Int)≠0 by omega)
 have h2:=Int.emod_lt_of_pos k (show (0:Int)<4 by omega)
 rw[Jt k]
 obtain ⟨j,hj⟩: ∃j:Nat,(k % 4).toNat=j:=⟨_,rfl⟩
 have hj4:j<4:=o_
 rw[hj]
 unfold ZN
 by_cases hm:j∈js
 · rw[if_pos (h.tok_in hm)]
   exact⟨js,h,fun _ a=>a,fun _ a=>Or.inl a⟩
 · rw[if_neg (by rw[h.tok_out hm hj4];omega)]
   dsimp only
   rw[if_neg (by rw[h.own hm hj4];rintro ⟨_,e⟩;omega)]
   refine⟨js++[j],⟨h.e,?_,?_,fun q hq=>?_⟩,fun q hq=>List.mem_append_left _ hq,fun q hq=>?_⟩
   · dsimp only;rw[List.map_append,h.toks,List.map_append,List.append_assoc];rfl
   · rw[List.nodup_append]
     exact⟨h.nd,by simp,fun a ha b hb e=>by rw[List.mem_singleton]at hb;subst hb;subst e;exact hm ha⟩
   · rcases List.mem_append.1 hq with hq|hq
     · exact h.lt q hq
     · rw[List.mem_singleton]at hq;subst hq;exact hj4
   · rcases List.mem_append.1 hq with hq|hq
     · exact Or.inl hq
     · rw[List.mem_singleton]at hq;exact Or.inr hq
theorem LInv.non {m:Mk} {js:List Nat} (h:LInv m js) {k:Nat} (hk:k<4):Kc m.toks {name:=KH k}= -1:=by
 refine ZK fun n t ht=>?_
 rw[List.getElem?_drop]at ht
 have hg:=h.get ht
 rintro ⟨h1,h2,h3⟩
 match n,hg with
 | 0,hg=>
   simp at hg
   rw[← hg.1]at h1
   have:=congrArg List.length h1
   simp[qxj]at this
 |1,hg=>exact absurd rfl h3
 | n +2,hg=>
   rw[List.getElem?_append_right (by simp;omega),List.getElem?_map]at hg
   cases hq:js[1+(n+2) - qdj.length]? with
   |none=>rw[hq]at hg;cases hg
   | some q=>
     rw[hq]at hg
     simp only[Option.map_some,Option.some.injEq,Prod.mk.injEq]at hg
     rw[← hg.2.1]at h2;cases h2
def qaL (d:Decl) (is:List Nat):Prop:=(2≤d.kind∧d.kind≤4)∧d.tag=[]∧d.syms=(is.map fun i:Nat=>kz i)∧is≠[]
theorem LInv.level {m:Mk} {js:List Nat} (h:LInv m js) (n:Int):LInv {m with level:=n} js:=⟨h.e,h.toks,h.nd,h.lt⟩
theorem Ym (l:List Int): ∀n,n≤4→ ∃iss:List (List Nat),(zU l n).length=iss.length∧(∀(k:Nat) d is,(zU l n)[k]?=some d→iss[k]?=some is→qaL d is)∧iss.flatten.Nodup∧ ∀i∈iss.flatten,i<n:=by
 intro n
 induction n with
 |zero=>intro _;exact⟨[],rfl,fun k d is h=>by simp[zU]at h,by simp,fun i h=>by simp at h⟩
 | succ n ih =>
   intro hn
   obtain ⟨iss,h1,h2,h3,h4⟩:=ih o_
   have hx1:=Int.emod_nonneg (l.getD n 0) (show (8:Int)≠0 by omega)
   have hx2:=Int.emod_lt_of_pos (l.getD n 0) (show (0:Int)<8 by omega)
   have hnn:n ∉ iss.flatten:=fun h=>by have:=h4 n h;omega
   show ∃iss:List (List Nat),(xL n (l.getD n 0) (zU l n)).length=iss.length∧(∀(k:Nat) d is,(xL n (l.getD n 0) (zU l n))[k]?=some d→iss[k]?=some is→qaL d is)∧iss.flatten.Nodup∧ ∀i∈iss.flatten,i<n+1
   unfold xL
   split
   · exact⟨iss,h1,h2,h3,fun i hi=>by have:=h4 i hi;omega⟩
   · rename_i hq
     split
     · rename_i hc
       obtain ⟨o,d,ho⟩: ∃o d,zU l n=o++[d]:=⟨_,_,(List.dropLast_concat_getLast hc.2).symm⟩
       have hie:iss≠[]:=fun e=>by rw[e,ho]at h1;simp at h1
       obtain ⟨t,u,ht⟩: ∃t u,iss=t++[u]:=⟨_,_,(List.dropLast_concat_getLast hie).symm⟩
       have hot:o.length=t.length:=by rw[ho,ht]at h1;simpa using h1
       refine⟨t++[u++[n]],?_,fun k e is a b=>?_,?_,fun i hi=>?_⟩
       · rw[ho,Qc];simp[hot]
       · rw [ho,Qc]at a
         by_cases hk:k<o.length
         · rw[List.getElem?_append_left hk]at a
           rw[List.getElem?_append_left o_]at b
           exact h2 k e is (by rw[ho,List.getElem?_append_left hk];exact a) (by rw[ht,List.getElem?_append_left o_];exact b)
         · by_cases hk2:k=o.length
           · subst hk2
             rw[List.getElem?_append_right (Nat.le_refl _)]at a
             rw[hot,List.getElem?_append_right (Nat.le_refl _)]at b
             simp at a b
             subst a b
             obtain ⟨q1,q2,q3,q4⟩:=h2 o.length d u (by rw[ho];simp) (by rw[ht,hot];simp)
             exact⟨q1,q2,by dsimp only;rw[q3,List.map_append];rfl,by simp⟩
           · rw[List.getElem?_eq_none (by simp;omega)]at a;cases a
       · rw[ht]at h3 hnn
         simp only[List.flatten_append,List.flatten_cons,List.flatten_nil,List.append_nil,← List.append_assoc]at h3 hnn ⊢
         rw[List.nodup_append]
         exact⟨h3,by simp,fun a ha b hb e=>by rw[List.mem_singleton]at hb;subst hb;subst e;exact hnn ha⟩
       · simp only[List.flatten_append,List.flatten_cons,List.flatten_nil,List.append_nil,← List.append_assoc]at hi
         rcases List.mem_append.1 hi with hi|hi
         · have hlt:=h4 i (by rw[ht];simpa using hi)
           omega
         · rw[List.mem_singleton]at hi;omega
     · refine⟨iss++[[n]],by simp[h1],fun k e is a b=>?_,?_,fun i hi=>?_⟩
       · by_cases hk:k<(zU l n).length
         · rw[List.getElem?_append_left hk]at a
           rw[List.getElem?_append_left o_]at b
           exact h2 k e is a b
         · by_cases hk2:k=(zU l n).length
           · subst hk2
             rw[List.getElem?_append_right (Nat.le_refl _)]at a
             rw[h1,List.getElem?_append_right (Nat.le_refl _)]at b
             simp only[Nat.sub_self,List.getElem?_cons_zero,Option.some.injEq]at a b
             subst a b
             have hb:2≤1+l.getD n 0 % 8 % 4∧1+l.getD n 0 % 8 % 4≤4:=o_
             exact⟨hb,rfl,rfl,by simp⟩
           · rw[List.getElem?_eq_none (by simp;omega)]at a;cases a
       · rw[List.flatten_append]
         simp only[List.flatten_cons,List.flatten_nil,List.append_nil]
         rw[List.nodup_append]
         exact⟨h3,by simp,fun a ha b hb e=>by rw[List.mem_singleton]at hb;subst hb;subst e;exact hnn ha⟩
       · rw[List.flatten_append]at hi
         rcases List.mem_append.1 hi with hi|hi
         · have:=h4 i hi;omega
         · simp at hi;omega

def qft (lefts:List (List UInt8)) (x:Sym):Prop:=(∃k:Int,x=kz k)∨(x.lit=false∧x.name∈lefts)∨x={name:=qxj}
def Xu:List Part→Nat
 |[]=>0
 |w::r=>(if w.code≠[]∧r≠[]then 1 else 0)+Xu r
def qkH (lefts:List (List UInt8)) (a:Alt):Prop:=(∀w∈a.parts,w.code≠[]∨qft lefts w.sym)∧a.prec={}∧Xu a.parts≤1∧a.parts.length≤6
theorem Qp: ∀(n:Nat) (l:List Nat),l.Nodup→(∀x∈l,x<n)→l.length≤n
 | 0,l,_,h=>by
   cases l with
   |nil=>simp
   |cons a r=>have:=h a (by simp);omega
 | n +1,l,hn,h=>by
   by_cases hm:n∈l
   · have h1:=Qp n (l.erase n) (hn.erase n) (fun x hx=>by
      have:=h x (List.mem_of_mem_erase hx)
      have hne:x≠n:=fun e=>by subst e;exact(List.Nodup.mem_erase_iff hn).1 hx |>.1 rfl
      omega)
     rw[List.length_erase_of_mem hm]at h1
     omega
   · have h1:=Qp n l hn (fun x hx=>by
      have:=h x hx
      have hne:x≠n:=fun e=>by subst e;exact hm hx
      omega)
     omega

theorem qca (x:GrI):1≤kG x∧kG x≤4:=by unfold kG;omega
def jK (l:List Part):Nat:=(l.filter fun w=> !decide (w.code=[])).length
theorem Yv (l m:List Part):jK (l++m)=jK l+jK m:=by simp[jK]
theorem KD: ∀(l:List Part),Xu l≤jK l
 |[]=>Nat.le_refl _
 | w::r=>by
   have:=KD r
   have e:jK (w::r)=(if w.code=[]then 0 else 1)+jK r:=by
    unfold jK;rw[List.filter_cons];by_cases h:w.code=[]<;>simp[h];omega
   unfold Xu;rw[e]
   by_cases h:w.code=[]
   · simp[h];exact this
   · rw[if_neg h];split<;>omega
theorem JO: ∀(l:List Part) (w:Part),Xu (l++[w])≤jK l
 |[],w=>by simp[Xu]
 | v::r,w=>by
   have:=JO r w
   have e:jK (v::r)=(if v.code=[]then 0 else 1)+jK r:=by
    unfold jK;rw[List.filter_cons];by_cases h:v.code=[]<;>simp[h];omega
   show (if v.code≠[]∧(r++[w])≠[]then 1 else 0)+Xu (r++[w])≤_
   rw[e]
   by_cases h:v.code=[]
   · simp[h];exact this
   · rw[if_neg h];split<;>omega
theorem qax (l:List Int) (n:Nat) (mid:Bool) (j:Nat):jK (jW l n mid j)≤1∧(jW l n mid j).length≤j+1∧(j=0→jW l n mid j=[]):=by
 induction j with
 |zero=>exact⟨by simp[jW,jK],by simp[jW],fun _=>rfl⟩
 | succ j ih=>
   obtain ⟨h1,h2,h3⟩:=ih
   unfold jW
   refine⟨?_,?_,fun h=>by omega⟩
   · rw[Yv,Yv]
     have e1:jK [({sym:=qgS l n (j+1)}:Part)]=0:=by simp[jK]
     rw[e1]
     by_cases hj:j=0
     · rw[h3 hj]
       split<;>simp[jK,QO]
     · rw[if_neg (fun e=>hj e.1)]
       simp[jK]at h1 ⊢;exact h1
   · rw[List.length_append,List.length_append]
     by_cases hj:j=0
     · rw[h3 hj];split<;>simp[hj]
     · rw[if_neg (fun e=>hj e.1)];simp;exact h2
theorem X0 {l:List Int} {n:Nat} {mid:Bool} {w:Part}: ∀{j:Nat},w∈jW l n mid j→(∃y:Int,w={sym:=Yb y n})∨w={code:=QO}
 |0,h=>by cases h
 | j +1,h=>by
   unfold jW at h
   rcases List.mem_append.1 h with h|h
   · rcases List.mem_append.1 h with h|h
     · exact X0 h
     · rw[List.mem_singleton]at h;exact Or.inl ⟨_,h⟩
   · split at h
     · rw[List.mem_singleton]at h;exact Or.inr h
     · cases h
theorem VQ {l inner:List Int} {n i:Nat} {w:Part} (h:w∈(qde l n inner i).parts):(∃y:Int,w={sym:=Yb y n})∨w={code:=QO}∨w={code:=JE}:=by
 unfold qde at h
 dsimp only at h
 rcases List.mem_append.1 h with h|h
 · rcases X0 h with h|h
   · exact Or.inl h
   · exact Or.inr (Or.inl h)
 · split at h
   · rw[List.mem_singleton]at h;exact Or.inr (Or.inr h)
   · cases h
theorem qdP {lefts:List (List UInt8)} {n:Nat} (hn:0<n) (hl: ∀k:Nat,k<n→KH k∈lefts) (y:Int):qft lefts (Yb y n):=by
 have e1:=Int.emod_nonneg y (show (14:Int)≠0 by omega)
 have e3:=Int.emod_lt_of_pos (y % 14) (show (0:Int)<n by omega)
 have e4:=Int.emod_nonneg (y % 14) (show (n:Int)≠0 by omega)
 unfold Yb
 split
 · have:=hl (y % 14 % n).toNat o_
   rw[Int.toNat_of_nonneg e4]at this
   exact Or.inr (Or.inl ⟨rfl,this⟩)
 · split
   · exact Or.inr (Or.inr rfl)
   · exact Or.inl ⟨_,rfl⟩
theorem qay {lefts:List (List UInt8)} {n:Nat} (hn:0<n) (hl: ∀k:Nat,k<n→KH k∈lefts) (l inner:List Int) (i:Nat):qkH lefts (qde l n inner i):=by
 obtain ⟨h1,h2,_⟩:=qax l n (qdx inner i) (min 4 (l.length - 1))
 refine⟨fun w hw=>?_,rfl,?_,?_⟩
 · rcases VQ hw with ⟨y,rfl⟩|rfl|rfl
   · exact Or.inr (qdP hn hl y)
   · exact Or.inl (by simp[QO])
   · exact Or.inl (by simp[JE])
 · unfold qde;dsimp only
   split
   · exact Nat.le_trans (JO _ _) h1
   · rw[List.append_nil];exact Nat.le_trans (KD _) h1
 · unfold qde;dsimp only
   rw[List.length_append]
   split<;>simp<;>omega
theorem yT {x:GrI} {n:Nat}: ∀{i k:Nat} {a:Alt},a∈(zI x n i).1 k→ ∃l j,a=qde l n x.inner j
 |0,k,a,h=>by cases h
 | i + 1,k,a,h=>by
   unfold zI kW at h
   dsimp only at h
   split at h
   · exact yT h
   · unfold qC at h
     dsimp only at h
     split at h
     · rcases List.mem_append.1 h with h|h
       · exact yT h
       · rw[List.mem_singleton]at h;exact⟨_,_,h⟩
     · exact yT h
theorem qbR {x:GrI} {n i k:Nat} {a:Alt} (h:a∈JS x.bare (zI x n i) k):(∃l j,a=qde l n x.inner j)∨a={parts:=[{sym:=kz k}]}:=by
 unfold JS at h
 split at h
 · rcases List.mem_append.1 h with h|h
   · exact Or.inl (yT h)
   · rw[List.mem_singleton]at h;exact Or.inr h
 · exact Or.inl (yT h)
theorem qf2 {n:Nat} (hn:0<n) (hn4:n≤4) (y:Int):qaC (Yb y n) false true=true:=by
 have e1:=Int.emod_nonneg y (show (14:Int)≠0 by omega)
 have e3:=Int.emod_lt_of_pos (y % 14) (show (0:Int)<n by omega)
 have e4:=Int.emod_nonneg (y % 14) (show (n:Int)≠0 by omega)
 have hN: ∀k:Nat,k<4→qaC {name:=KH k} false true=true:=by decide
 have hL: ∀k:Nat,k<4→qaC (kz k) false true=true:=by decide
 unfold Yb
 split
 · have:=hN (y % 14 % n).toNat o_
   rw[Int.toNat_of_nonneg e4]at this;exact this
 · split
   · decide
   · rw[Jt];exact hL _ o_
theorem ZJ: ∀{iss:List (List Nat)},iss.flatten.Nodup→ ∀is∈iss,is.Nodup
 |[],_,is,h=>by cases h
 | a::r,hn,is,h=>by
   rw[List.flatten_cons,List.nodup_append]at hn
   rcases List.mem_cons.1 h with rfl|h
   · exact hn.1
   · exact ZJ hn.2.1 is h
theorem ZV (x:GrI):(zK x).Fits:=by
 obtain ⟨h1,h2⟩:=qca x
 obtain ⟨iss,d1,d2,d3,d4⟩:=Ym x.levels (min 4 x.levels.length) o_
 have hlen:(vY x.levels).length≤4:=by
  have h5:iss.length≤iss.flatten.length:=by
   have hne: ∀is∈iss,is≠[]:=fun is hi=>by
    obtain ⟨k,hk⟩:=List.getElem?_of_mem hi
    obtain ⟨d,hd⟩: ∃d,(zU x.levels (min 4 x.levels.length))[k]?=some d:=⟨_,ge_ (by have:=(List.getElem?_eq_some_iff.1 hk).1;omega)⟩
    exact(d2 k d is hd hk).2.2.2
   clear d1 d2 d3 d4
   induction iss with
   |nil=>simp
   | cons a r ih=>
     have:=ih fun is hi=>hne is (List.mem_cons_of_mem _ hi)
     have ha:=List.length_pos_iff.2 (hne a (by simp))
     rw[List.flatten_cons,List.length_append,List.length_cons];omega
  have h6:=Qp (min 4 x.levels.length) _ d3 d4
  show (zU x.levels (min 4 x.levels.length)).length≤4
  omega
 refine⟨by simp[zK],by simp[zK],by show (vY x.levels).length≤_;omega,fun d hd=>?_,by simp[zK];omega,fun r hr=>?_⟩
 · obtain ⟨k,hk⟩:=List.getElem?_of_mem hd
   have hki:k<iss.length:=by have h3:=(List.getElem?_eq_some_iff.1 hk).1;unfold zK vY at h3;dsimp only at h3;omega
   obtain ⟨q1,q2,q3,q4⟩:=d2 k d iss[k] hk (ge_ hki)
   have h6:iss[k].length≤4:=Qp 4 _ (ZJ d3 _ (List.getElem_mem hki)) (fun i hi=>by have:=d4 i (List.mem_flatten.2 ⟨_,List.getElem_mem hki,hi⟩);omega)
   refine⟨by simp[q2],by rw[q3,List.length_map];omega,fun y hy=>?_⟩
   rw[q3]at hy
   obtain ⟨i,hi,rfl⟩:=List.mem_map.1 hy
   have hi4:=d4 i (List.mem_flatten.2 ⟨_,List.getElem_mem hki,hi⟩)
   rw[(jk (show i<4 by omega)).1];simp
 · obtain ⟨k,hk,rfl⟩:=List.mem_map.1 hr
   have hkn:=List.mem_range.1 hk
   have hfl:(JS x.bare (zI x (kG x) (min 9 x.rules.length)) k).length≤20:=by
    have:=Qo x (kG x) (min 9 x.rules.length) k
    unfold JS;split<;>simp<;>omega
   have hsn: ∀y:Int,(Yb y (kG x)).name.length≤5:=fun y=>by
    have hg:=qf2 (n:=kG x) o_ o_ y
    unfold Yb
    split
    · simp
    · split
      · simp
      · rw[Jt,(jk (show ((y % 14 - 5) % 4).toNat<4 by omega)).1];simp
   refine⟨by simp,by dsimp only;omega,fun a ha=>?_⟩
   rcases qbR ha with ⟨l,j,rfl⟩|rfl
   · obtain ⟨_,_,_,g4⟩:=qay (lefts:=(List.range (kG x)).map fun k:Nat=>KH k) (n:=kG x) o_ (fun k hk=>List.mem_map.2 ⟨k,List.mem_range.2 hk,rfl⟩) l x.inner j
     refine⟨o_,fun w hw=>?_,by simp[qde]⟩
     rcases VQ hw with ⟨y,rfl⟩|rfl|rfl
     · exact⟨by have:=hsn y;dsimp only;omega,by simp⟩
     · exact⟨by simp,by simp[QO]⟩
     · exact⟨by simp,by simp[JE]⟩
   · refine⟨by simp,fun w hw=>?_,by simp⟩
     rw[List.mem_singleton]at hw;subst hw
     rw[Part.Fits,(jk (show k<4 by omega)).1];simp
theorem Vl (x:GrI):Small (zK x):=by
 obtain ⟨h1,h2⟩:=qca x
 obtain ⟨f1,f2,f3,f4,f5,f6⟩:=ZV x
 obtain ⟨iss,d1,d2,d3,d4⟩:=Ym x.levels (min 4 x.levels.length) o_
 have hd: ∀d∈(zK x).decls,∃is:List Nat,qaL d is∧is.length≤4∧ ∀i∈is,i<4:=fun d hd=>by
  obtain ⟨k,hk⟩:=List.getElem?_of_mem hd
  have hki:k<iss.length:=by have h3:=(List.getElem?_eq_some_iff.1 hk).1;unfold zK vY at h3;dsimp only at h3;omega
  have hi4: ∀i∈iss[k],i<4:=fun i hi=>by have:=d4 i (List.mem_flatten.2 ⟨_,List.getElem_mem hki,hi⟩);omega
  exact⟨iss[k],d2 k d iss[k] hk (ge_ hki),Qp 4 _ (ZJ d3 _ (List.getElem_mem hki)) hi4,hi4⟩
 have hlen:(zK x).decls.length≤4:=by
  have h5:iss.length≤iss.flatten.length:=by
   have hne: ∀is∈iss,is≠[]:=fun is hi=>by
    obtain ⟨k,hk⟩:=List.getElem?_of_mem hi
    obtain ⟨d,hd⟩: ∃d,(zU x.levels (min 4 x.levels.length))[k]?=some d:=⟨_,ge_ (by have:=(List.getElem?_eq_some_iff.1 hk).1;omega)⟩
    exact(d2 k d is hd hk).2.2.2
   clear d1 d2 d3 d4
   induction iss with
   |nil=>simp
   | cons a r ih=>
     have:=ih fun is hi=>hne is (List.mem_cons_of_mem _ hi)
     have ha:=List.length_pos_iff.2 (hne a (by simp))
     rw[List.flatten_cons,List.length_append,List.length_cons];omega
  have h6:=Qp (min 4 x.levels.length) _ d3 d4
  show (zU x.levels (min 4 x.levels.length)).length≤4
  omega
 have hsn: ∀y:Int,(Yb y (kG x)).lit=true→(Yb y (kG x)).name≠[]:=fun y=>by
  unfold Yb
  split
  · intro e;cases e
  · split
    · intro e;cases e
    · intro _;rw[Jt,(jk (show ((y % 14 - 5) % 4).toNat<4 by omega)).1];simp
 have ha: ∀r∈(zK x).rules,r.alts.length≤20∧ ∀a∈r.alts,a.parts.length≤6∧a.prec={}∧ ∀w∈a.parts,w.sym.lit=true→w.sym.name≠[]:=fun r hr=>by
  obtain ⟨k,hk,rfl⟩:=List.mem_map.1 hr
  have hkn:=List.mem_range.1 hk
  refine⟨?_,fun a ha=>?_⟩
  · have:=Qo x (kG x) (min 9 x.rules.length) k
    dsimp only
    unfold JS;split<;>simp<;>omega
  · rcases qbR ha with ⟨l,j,rfl⟩|rfl
    · obtain ⟨_,g2,_,g4⟩:=qay (lefts:=(List.range (kG x)).map fun k:Nat=>KH k) (n:=kG x) o_ (fun k hk=>List.mem_map.2 ⟨k,List.mem_range.2 hk,rfl⟩) l x.inner j
      refine⟨g4,g2,fun w hw=>?_⟩
      rcases VQ hw with ⟨y,rfl⟩|rfl|rfl
      · exact hsn y
      · intro e;cases e
      · intro e;cases e
    · refine⟨by simp,rfl,fun w hw _=>?_⟩
      rw[List.mem_singleton]at hw;subst hw
      rw[(jk (show k<4 by omega)).1];simp
 refine⟨o_,fun d h=>?_,fun d h=>?_,fun d h y hy _=>?_,?_,fun r hr=>?_,fun r hr a h=>?_,fun r hr a h w hw=>?_,fun r hr a h e=>?_⟩
 · obtain ⟨is,⟨q1,q2,q3,q4⟩,h5,h6⟩:=hd d h
   rw[q3,List.length_map];omega
 · obtain ⟨is,⟨q1,q2,q3,q4⟩,h5,h6⟩:=hd d h
   omega
 · obtain ⟨is,⟨q1,q2,q3,q4⟩,h5,h6⟩:=hd d h
   rw[q3]at hy
   obtain ⟨i,hi,rfl⟩:=List.mem_map.1 hy
   rw[(jk (h6 i hi)).1];simp
 · simp[zK];omega
 · have:=(ha r hr).1;omega
 · have:=((ha r hr).2 a h).1;omega
 · exact((ha r hr).2 a h).2.2 w hw
 · rw[((ha r hr).2 a h).2.1]at e;cases e

set_option maxHeartbeats 4000000
def qW (token:Bool) (h:Nat→Bool) (l:List Int):Bool:=l.all fun s=>if s<1000 then token else h (s - 1000).toNat
def yw (g:Grammar) (token:Bool) (E:Nat→Bool):Prop:= ∀p∈g.prods,qW token E p.right=true→E p.left.toNat=true
structure IsGrow (g:Grammar) (token:Bool) (E:Nat→Bool):Prop where
 closed:yw g token E
 least: ∀F,yw g token F→ ∀k,E k=true→F k=true
theorem IsGrow.uniq {g:Grammar} {token:Bool} {E F:Nat→Bool} (h:IsGrow g token E) (k:IsGrow g token F):E=F:=by
 funext n
 rw[Bool.eq_iff_iff]
 exact⟨h.least F k.closed n,k.least E h.closed n⟩
theorem Qi {token:Bool} {h F:Nat→Bool} (hh: ∀k,h k=true→F k=true) {l:List Int} (hl:qW token h l=true):qW token F l=true:=by
 unfold qW at *
 rw[List.all_eq_true]at *
 intro s hs
 have:=hl s hs
 split
 · rename_i h1;rwa [if_pos h1]at this
 · rename_i h1;rw[if_neg h1]at this;exact hh _ this
theorem YJ {token:Bool} {h:Nat→Bool} {l:List Int} {i:Nat} (hi:i<l.length) (ht: ∀s∈l.take i,(if s<1000 then token else h (s - 1000).toNat)=true):(if l[i]<1000 then token else h (l[i] - 1000).toNat)=false→qW token h l=false:=fun hf=>
 List.all_eq_false.2 ⟨l[i],List.getElem_mem hi,by rw[hf];exact Bool.false_ne_true⟩
def cf (h:Nat→Bool):Nat→Nat
 |0=>0
 |n+1=>cf h n+if h n=true then 0 else 1
theorem qcm {h:Nat→Bool} {k:Nat} (hk:h k=false): ∀n,(n≤k→cf (qC h k true) n=cf h n)∧(k<n→cf (qC h k true) n+1=cf h n)
 |0=>⟨fun _=>rfl,fun h=>by omega⟩
 | n +1=>by
   obtain ⟨h1,h2⟩:=qcm hk n
   unfold cf
   by_cases e:n=k
   · subst e
     have e2:qC h n true n=true:=by unfold qC;rw[if_pos rfl]
     rw[e2,h1 (Nat.le_refl _),hk]
     exact⟨fun h=>by omega,fun _=>by simp⟩
   · have e2:qC h k true n=h n:=by unfold qC;rw[if_neg e]
     rw[e2]
     exact⟨fun h=>by rw[h1 o_],fun h=>by have:=h2 o_;omega⟩
theorem JR (n:Nat) (h:Nat→Bool):Cls' (xX n h):=inferInstanceAs (Cls' (List.map _ _))
theorem qEh {P:Program} [Glob P] {cls:Cls} {id:Nat} {s:St} {K:V→St→Prop} {f a:Opd} {fid:FuncId} {caps as':List V} {x res:V} (hf:ev s f=.fn fid caps) (ha:ev s a=x) (hc:(cls == .r)=false) (hE:Ers true s.H (x::caps) as') (hp:Pure P fid as' res) (hfl:Flat res) (hk:K res s):qg P cls id s K (.call f [a]):=by
 show (match ev s f with
  | .fn fid caps=>
    (∃bor as' res,(cls=.r→bor=false)∧Ers bor s.H ([a].map (ev s)++caps) as'∧Pure P fid as' res∧(bor=true→Flat res)∧K res s)∨
    (qEI cls=true∧zy P fid ([a].map (ev s)++caps) s.H s.next fun v H' next'=>qa7 cls s.next s.H H' next'∧K v {s with H:=H',next:=next'})
  | _=>False)
 rw[hf]
 subst ha
 exact Or.inl ⟨true,as',res,fun e=>(by subst e;cases hc),hE,hp,fun _=>hfl,hk⟩
theorem qbk {p:GPr} {token:Bool} {h:Nat→Bool} {n:Nat} (hr: ∀s∈p.right,s<1000∨ ∃k:Nat,s=1000+(k:Int)∧k<n) (hl:p.right.length≤1000000) (hn:n≤1000000):Pure Tryz.prog 70 [p.V,.iptr 1 (.bool token) 0,.iptr 1 (.sl 1 false (xX n h)) 0] (.bool (qW token h p.right)):=by
 refine pure_intro Tryz.func70 qq5 qoA (by show 3≤33;decide) ?_
 show ewp _ qho _ _
 repeat' with_reducible first
  |refine s_ ?_
  |simp -implicitDefEqProofs only[wZZ,seval]
  |refine t_ ?_
 refine qf ?nx1 (fun(i:Nat) s=>s.f 1=?v1_1∧s.f 2=?v1_2∧s.f 8=?v1_8∧s.f 9=?v1_9∧s.f 10=vi i∧(i≤p.right.length)∧(∀s∈p.right.take i,(if s<1000 then token else h (s - 1000).toNat)=true)) (fun i=>p.right.length - i) (0) wj_ (by refine⟨?_,?_,?_,?_,?_,wo_,wo_⟩<;>first|(simp -implicitDefEqProofs only[wL,wM,wN,wX,seval,Option.some.injEq]<;>exact wt_)|rfl|exact⟨_,rfl⟩) ?_
 intro i s hnx ⟨g1,g2,g8,g9,g10,k1_0,k1_1⟩
 have hz:=w1_ i
 by_cases hi:i<p.right.length
 · have hst:=YJ hi k1_1
   have hnx:(if p.right[i]<1000 then token else h (p.right[i] - 1000).toNat)=true→ ∀s∈p.right.take (i+1),(if s<1000 then token else h (s - 1000).toNat)=true:=fun hh s hs=>by
    rw[List.take_add_one,ge_ hi]at hs
    rcases List.mem_append.1 hs with hs|hs
    · exact k1_1 s hs
    · simp at hs;subst hs;exact hh
   rcases hr _ (List.getElem_mem hi)with hs|⟨k,hk,hkn⟩
   · rw [if_pos hs]at hst hnx
     cases token with
     | true=>
       repeat' with_reducible first
        |refine s_ ?_
        |simp -implicitDefEqProofs only[wZZ,seval,g1,g2,g8,g9,g10,hz]
        |(first|apply qc|apply qi|apply qj)<;>intro h h_<;>(try simp only[wD,reduceCtorEq]at h_)<;>(try exact wb_)<;>(try simp only[h])
        |refine t_ ?_
       refine⟨wk_,i+1,o_,?_⟩
       refine⟨?_,?_,?_,?_,?_,?_,?_⟩
       iterate 5 (focus(first|(simp -implicitDefEqProofs only[wL,wM,wN,wX,seval,Option.some.injEq,g1,g2,g8,g9,g10]<;>exact wt_)|rfl|exact⟨_,rfl⟩))
       all_goals try omega
       exact hnx rfl
     | false=>
       rw[hst rfl]
       repeat' with_reducible first
        |refine s_ ?_
        |simp -implicitDefEqProofs only[wZZ,seval,g1,g2,g8,g9,g10,hz]
        |(first|apply qc|apply qi|apply qj)<;>intro h h_<;>(try simp only[wD,reduceCtorEq]at h_)<;>(try exact wb_)<;>(try simp only[h])
        |refine t_ ?_
       refine qA rfl (Or.inr rfl) ?_
       simp -implicitDefEqProofs only[wL,seval,g1,g2,g8,g9,g10]
       refine er_ ?_
       try(with_reducible rfl)
   · have hz2:IntKind.i64.wrap (1000+(k:Int) - 1000)=(k:Int):=by rw[wrap64 o_ o_];omega
     rw[if_neg o_,hk,show ((1000+(k:Int)) - 1000).toNat=k by omega]at hst hnx
     have hbg:=jV (h:=h) hkn
     cases hb:h k with
     | true=>
       repeat' with_reducible first
        |refine s_ ?_
        |simp -implicitDefEqProofs only[wZZ,seval,g1,g2,g8,g9,g10,hz,hk,hz2,hb]
        |(first|apply qc|apply qi|apply qj)<;>intro h h_<;>(try simp only[wD,reduceCtorEq]at h_)<;>(try exact wb_)<;>(try simp only[h])
        |(apply jw (Zt o_ (by with_unfolding_all exact hbg)))
        |refine t_ ?_
       refine⟨wk_,i+1,o_,?_⟩
       refine⟨?_,?_,?_,?_,?_,?_,?_⟩
       iterate 5 (focus(first|(simp -implicitDefEqProofs only[wL,wM,wN,wX,seval,Option.some.injEq,g1,g2,g8,g9,g10]<;>exact wt_)|rfl|exact⟨_,rfl⟩))
       all_goals try omega
       exact hnx hb
     | false=>
       rw[hst hb]
       repeat' with_reducible first
        |refine s_ ?_
        |simp -implicitDefEqProofs only[wZZ,seval,g1,g2,g8,g9,g10,hz,hk,hz2,hb]
        |(first|apply qc|apply qi|apply qj)<;>intro h h_<;>(try simp only[wD,reduceCtorEq]at h_)<;>(try exact wb_)<;>(try simp only[h])
        |(apply jw (Zt o_ (by with_unfolding_all exact hbg)))
        |refine t_ ?_
       refine qA rfl (Or.inr rfl) ?_
       simp -implicitDefEqProofs only[wL,seval,g1,g2,g8,g9,g10]
       refine er_ ?_
       try(with_reducible rfl)
 · rw[List.take_of_length_le o_]at k1_1
   have e:qW token h p.right=true:=List.all_eq_true.2 k1_1
   rw[e]
   repeat' with_reducible first
    |refine s_ ?_
    |simp -implicitDefEqProofs only[wZZ,seval,g1,g2,g8,g9,g10]
    |apply qc<;>intro h h_<;>(try simp only[wD,reduceCtorEq]at h_)<;>(try exact wb_)<;>(try simp only[h])
   refine qA rfl (Or.inr rfl) ?_
   simp -implicitDefEqProofs only[wL,seval,g1,g2,g8,g9,g10]
   refine er_ ?_
   try(with_reducible rfl)

theorem qdZ {H:Nat→Option MObj} {id sz:Nat} {ro:Bool} {e e':V} (hH:H id=some (.own sz [e] ro)) (h:Er true H e e'):Er true H (.ptr id 0 0) (.iptr sz e' 0):= .ptr id 0 0 sz _ ro _ _ rfl hH rfl h
theorem JI {H:Nat→Option MObj} {id n:Nat} {ro:Bool} {h:Nat→Bool} (hH:H id=some (.own 1 (xX n h) ro)):Er true H (.msl id 1 0 n) (.sl 1 false (xX n h)):=by
 have:=JR n h
 exact zV hH (by rw[yj];omega) (by rw[List.drop_zero];exact List.take_of_length_le (by rw[yj];omega))
instance gpr_cl (p:GPr):Cl p.V:=⟨fun b H=>ErL.agg (.cons (.int _ _) (.cons qm (.cons (.int _ _) (.cons (.str _) (.cons qm (.cons (.int _ _) .nil))))))⟩
theorem GOk.rt {g:Grammar} (h:GOk g) {p:GPr} (hp:p∈g.prods): ∀s∈p.right,s<1000∨ ∃k:Nat,s=1000+(k:Int)∧k<g.nons.length:=fun s hs=>by
 rcases h.right p hp s hs with ⟨t,e,l⟩|⟨k,e,l⟩
 · have:=h.tk2;exact Or.inl o_
 · exact Or.inr ⟨k,e,l⟩
theorem Zi {g:Grammar} {token:Bool} (hg:GOk g): ∃E,IsGrow g token E∧Pure Tryz.prog 37 [g.V,.bool token] (.sl 1 false (xX g.nons.length E)):=by
 have hh:=qfc (G:=fun v=> ∃E,v=.sl 1 false (xX g.nons.length E)∧IsGrow g token E) (args:=[g.V,.bool token]) Tryz.func37 qsG qlf (by show 2≤40;decide) ?_
 · obtain ⟨v,⟨E,rfl,h⟩,h2⟩:=hh
   exact⟨E,h,h2⟩
 show ewp _ qd0 _ _
 have hnl:=hg.nn2;have hpl:=hg.pl2
 have hb0:=qb7 g.nons.length
 repeat' with_reducible first
  |refine s_ ?_
  |simp -implicitDefEqProofs only[wZZ,seval]
  |refine t_ ?_
  |apply qly;exact wu_;exact wu_;exact wu_
  |apply Jh;exact wf_;exact wf_;(focus(unfold maxLen;first|omega|(simp only[wZ]<;>omega)))
 rw[hb0]
 refine qf ?nx1 (fun(q:(Nat→Bool)×Bool) s=>s.f 2=?v1_2∧s.f 5=?v1_5∧s.f 6=?v1_6∧s.H 0=some (MObj.own 5 [g.V] false)∧s.H 1=some (MObj.own 1 [.bool token] false)∧s.H 7=some (MObj.own 1 [.msl 6 1 0 g.nons.length] false)∧s.f 7=.bool q.2∧((s.H 6=some (MObj.own 1 (xX g.nons.length q.1) false)))∧((∀F,yw g token F→ ∀k,q.1 k=true→F k=true))∧((q.2=false→yw g token q.1))) (fun q=>2 *cf q.1 g.nons.length+(if q.2=true then 1 else 0)) ((fun _=>false,true)) wj_ (by refine⟨?_,?_,?_,?_,?_,?_,?_,wc_,(by intro F _ k h;cases h),(by intro h;cases h)⟩<;>first|(simp -implicitDefEqProofs only[wL,wM,wN,wX,seval,Option.some.injEq]<;>exact wt_)|rfl|exact⟨_,rfl⟩) ?_
 intro q s hnx ⟨g2,g5,g6,o0,o1,o2,g7,k1_0,k1_1,k1_2⟩
 obtain ⟨h,b⟩:=q
 dsimp only at *
 cases b with
 | false=>
   have hcl:=k1_2 rfl
   repeat' with_reducible first
    |refine s_ ?_
    |simp -implicitDefEqProofs only[wZZ,seval,g2,g5,g6,g7,o0,o1,o2,k1_0]
    |apply qbc;exact wu_
   refine⟨_,⟨h,rfl,hcl,k1_1⟩,Or.inr rfl,.msl 6 1 0 g.nons.length,?_,JI (ro:=false) ?_⟩
   · show qfB _ [.inl 4]=_
     simp[qfB,qdy,one,wL]
   · (simp only[wM];(repeat first|rw[if_pos trivial]|rw[if_pos rfl]|rw[if_neg o_]));exact k1_0
 | true =>
   repeat' with_reducible first
    |refine s_ ?_
    |simp -implicitDefEqProofs only[wZZ,seval,g2,g5,g6,g7,o0,o1,o2,k1_0]
    |refine t_ ?_
   refine qf ?nx2 (fun(r:Nat×(Nat→Bool)×Bool) s=>s.f 2=?v2_2∧s.f 5=?v2_5∧s.f 6=?v2_6∧s.f 17=?v2_17∧s.f 18=?v2_18∧s.H 0=some (MObj.own 5 [g.V] false)∧s.H 1=some (MObj.own 1 [.bool token] false)∧s.H 7=some (MObj.own 1 [.msl 6 1 0 g.nons.length] false)∧s.f 7=.bool r.2.2∧s.f 19=vi r.1∧(r.1≤g.prods.length)∧((s.H 6=some (MObj.own 1 (xX g.nons.length r.2.1) false)))∧((∀F,yw g token F→ ∀k,r.2.1 k=true→F k=true))∧((r.2.2=false→r.2.1=h∧ ∀p∈g.prods.take r.1,qW token h p.right=true→h p.left.toNat=true))∧((r.2.2=true→cf r.2.1 g.nons.length<cf h g.nons.length))) (fun r=>g.prods.length - r.1) ((0,h,false)) wj_ (by refine⟨?_,?_,?_,?_,?_,?_,?_,?_,?_,?_,wo_,(by(simp only[wM];(repeat first|rw[if_pos trivial]|rw[if_pos rfl]|rw[if_neg o_]));exact k1_0),(by exact k1_1),(by exact fun _=>⟨rfl,fun p hp=>by simp at hp⟩),(by intro h;cases h)⟩<;>first|(simp -implicitDefEqProofs only[wL,wM,wN,wX,seval,Option.some.injEq,g2,g5,g6,g7,o0,o1,o2]<;>exact wt_)|rfl|exact⟨_,rfl⟩) ?_
   intro r s hnx ⟨g2,g5,g6,g17,g18,o0,o1,o2,g7,g19,k2_0,k2_1,k2_2,k2_3,k2_4⟩
   obtain ⟨i,h',b'⟩:=r
   dsimp only at *
   have hz:=w1_ i
   by_cases hi:i<g.prods.length
   · have hmem:=List.getElem_mem hi
     obtain ⟨lf,hl1,hl2⟩:=hg.left _ hmem
     have hrt:=hg.rt hmem
     have hrl:=hg.rlen _ hmem
     have htk:g.prods.take (i+1)=g.prods.take i++[g.prods[i]]:=by rw[List.take_add_one,ge_ hi];rfl
     generalize hp:g.prods[i]=p at *
     have hcl:=qbk (p:=p) (token:=token) (h:=h') (n:=g.nons.length) hrt o_ o_
     have hgp:g.prods[i]?=some p:=by rw[ge_ hi,hp]
     have hpm:p∈g.prods:=hp ▸ List.getElem_mem hi
     clear hp
     obtain ⟨pl,pr,pc,pco,pa,pat⟩:=p
     dsimp only at hl1 hrt hrl hcl
     subst hl1
     have hnew:(b'=false→h'=h∧ ∀p∈g.prods.take i,qW token h p.right=true→h p.left.toNat=true)→(qW token h' pr=true→h' lf=true)→(b'=false→h'=h∧ ∀p∈g.prods.take (i+1),qW token h p.right=true→h p.left.toNat=true):=fun q1 q2 hb=>by
      obtain ⟨e1,e2⟩:=q1 hb
      refine⟨e1,fun p hp hf=>?_⟩
      rw[htk]at hp
      rcases List.mem_append.1 hp with hp|hp
      · exact e2 p hp hf
      · rw[List.mem_singleton]at hp;subst hp
        subst e1
        exact q2 hf
     repeat' with_reducible first
      |refine s_ ?_
      |simp -implicitDefEqProofs only[wZZ,seval,g2,g5,g6,g17,g18,g7,g19,o0,o1,o2,k2_1,hz]
      |(first|apply qc|apply qi|apply qj)<;>intro h h_<;>(try simp only[wD,reduceCtorEq]at h_)<;>(try exact wb_)<;>(try simp only[h])
      |(refine ldB hl2 ?_)
      |refine t_ ?_
      |apply qbc;exact wu_
      |simp -implicitDefEqProofs (disch:=omega) only[w64,if_neg]
     · refine qEh (fid:=70) (caps:=[.ptr 1 0 0,.ptr 7 0 0]) (as':=[GPr.V {left:=lf,right:=pr,prec:=pc,code:=pco,args:=pa,at_:=pat},.iptr 1 (.bool token) 0,.iptr 1 (.sl 1 false (xX g.nons.length h')) 0]) (x:=GPr.V {left:=lf,right:=pr,prec:=pc,code:=pco,args:=pa,at_:=pat}) (by rfl) (by rfl) rfl ?_ hcl (Flat.bool _) ?_
       · refine zk qm (zk (qdZ (ro:=false) (by(simp only[wM];(repeat first|rw[if_pos trivial]|rw[if_pos rfl]|rw[if_neg o_]));exact o1) (.bool _)) (zk (qdZ (ro:=false) (by(simp only[wM];(repeat first|rw[if_pos trivial]|rw[if_pos rfl]|rw[if_neg o_]));exact o2) (JI (ro:=false) (by(simp only[wM];(repeat first|rw[if_pos trivial]|rw[if_pos rfl]|rw[if_neg o_]));exact k2_1))) xO))
       cases hfit:qW token h' pr with
       | true=>
         repeat' with_reducible first
          |refine s_ ?_
          |simp -implicitDefEqProofs only[wZZ,seval,g2,g5,g6,g17,g18,g7,g19,o0,o1,o2,k2_1,hz]
          |(refine stB hl2 ?_)
          |refine t_ ?_
          |apply qbc;exact wu_
          |simp -implicitDefEqProofs (disch:=omega) only[w64,if_neg]
         refine⟨wg_,(i+1,qC h' lf true,true),by dsimp only;omega,trivial,trivial,trivial,trivial,trivial,trivial,trivial,trivial,rfl,rfl,by dsimp only;omega,rfl,fun F hF k hk=>?_,fun e=>(by cases e),fun _=>?_⟩
         · dsimp only at hk
           unfold qC at hk
           split at hk
           · rename_i e;subst e
             exact hF _ hpm (Qi (k2_2 F hF) hfit)
           · exact k2_2 F hF k hk
         · have:=(qcm (h:=h') (k:=lf) (by assumption) g.nons.length).2 hl2
           show cf (qC h' lf true) g.nons.length<_
           cases b' with
           |false=>have e:=(k2_3 rfl).1;subst e;omega
           |true=>have:=k2_4 rfl;omega
       | false=>
         repeat' with_reducible first
          |refine s_ ?_
          |simp -implicitDefEqProofs only[wZZ,seval,g2,g5,g6,g17,g18,g7,g19,o0,o1,o2,k2_1,hz]
          |simp -implicitDefEqProofs (disch:=omega) only[w64,if_neg]
         refine⟨wg_,(i+1,h',b'),by dsimp only;omega,trivial,trivial,trivial,trivial,trivial,trivial,trivial,trivial,rfl,rfl,by dsimp only;omega,rfl,k2_2,hnew k2_3 (fun e=>by rw[hfit]at e;cases e),k2_4⟩
     · refine⟨wg_,(i+1,h',b'),by dsimp only;omega,trivial,trivial,trivial,trivial,trivial,trivial,trivial,trivial,rfl,rfl,by dsimp only;omega,rfl,k2_2,hnew k2_3 (fun _=>by assumption),k2_4⟩
   · have e:i=g.prods.length:=o_
     subst e
     rw[List.take_length]at k2_3
     repeat' with_reducible first
      |refine s_ ?_
      |simp -implicitDefEqProofs only[wZZ,seval,g2,g5,g6,g17,g18,g7,g19,o0,o1,o2,k2_1]
     refine⟨wg_,(h',b'),?_,trivial,trivial,trivial,trivial,trivial,trivial,rfl,rfl,k2_2,fun hb=>?_⟩
     · dsimp only
       cases b' with
       |false=>have e:=(k2_3 rfl).1;subst e;simp
       |true=>have:=k2_4 rfl;simp;omega
     · obtain ⟨e1,e2⟩:=k2_3 hb
       dsimp only
       rw[e1];exact e2
end Go.Proofs
