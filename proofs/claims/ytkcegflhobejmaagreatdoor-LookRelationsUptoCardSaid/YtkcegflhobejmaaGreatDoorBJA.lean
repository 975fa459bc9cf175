/- Part of a proof that a law of the given program answers true. -/
import Derived.Test.YtkcegflhobejmaaGreatDoorBGC
import Derived.Test.YtkcegflhobejmaaGreatDoorBFA
set_option maxRecDepth 20000
set_option linter.unusedSimpArgs false
set_option linter.unusedVariables false
namespace Go.Proofs
open Go.E
def vH (nt nn:Nat) (s:Int):Prop:=(∃t:Nat,s=t∧t<nt)∨ ∃k:Nat,s=1000+(k:Int)∧k<nn
structure GOk (g:Grammar):Prop where
 tk:3≤g.toks.length
 tk2:g.toks.length≤40
 nn:1≤g.nons.length
 nn2:g.nons.length≤24
 pl:1≤g.prods.length
 pl2:g.prods.length≤60
 left: ∀p∈g.prods,∃l:Nat,p.left=l∧l<g.nons.length
 rlen: ∀p∈g.prods,p.right.length≤8
 right: ∀p∈g.prods,∀s∈p.right,vH g.toks.length g.nons.length s
 prec: ∀p∈g.prods,p.prec= -1∨ ∃t:Nat,p.prec=t∧t<g.toks.length
 head: ∃p r,g.prods=p::r∧p.left=0∧(∃k:Nat,p.right=[1000+(k:Int)]∧k<g.nons.length)
structure MInv (m:Mk):Prop where
 tk:3≤m.toks.length
 inn:0≤m.inner
 left: ∀p∈m.prods,0≤p.left∧p.left≤m.lefts.length+m.inner
 right: ∀p∈m.prods,∀s∈p.right,vH m.toks.length (1+m.lefts.length+m.inner.toNat) s
 prec: ∀p∈m.prods,p.prec= -1∨(0≤p.prec∧p.prec<m.toks.length)
theorem vH.mono {a b a' b':Nat} {s:Int} (h:vH a b s) (h1:a≤a') (h2:b≤b'):vH a' b' s:=by
 rcases h with ⟨t,e,l⟩|⟨k,e,l⟩
 · exact Or.inl ⟨t,e,o_⟩
 · exact Or.inr ⟨k,e,o_⟩
theorem MInv.up {m m':Mk} (h:MInv m) (hp:m'.prods=m.prods) (ht:m.toks.length≤m'.toks.length) (hl:m'.lefts=m.lefts) (hi:m.inner≤m'.inner):MInv m':=by
 have:=h.inn
 refine⟨by have:=h.tk;omega,o_,fun p hq=>?_,fun p hq s hs=>?_,fun p hq=>?_⟩
 · rw[hp]at hq;have:=h.left p hq;rw[hl];omega
 · rw[hp]at hq;rw[hl];exact(h.right p hq s hs).mono ht o_
 · rw[hp]at hq
   rcases h.prec p hq with h|⟨h1,h2⟩
   · exact Or.inl h
   · exact Or.inr ⟨h1,o_⟩
theorem MInv.put {m:Mk} (h:MInv m) {p:GPr} (h1:0≤p.left∧p.left≤m.lefts.length+m.inner) (h2: ∀s∈p.right,vH m.toks.length (1+m.lefts.length+m.inner.toNat) s) (h3:p.prec= -1∨(0≤p.prec∧p.prec<m.toks.length)):MInv {m with prods:=m.prods++[p]}:=by
 refine⟨h.tk,h.inn,fun q hq=>?_,fun q hq=>?_,fun q hq=>?_⟩<;>rcases List.mem_append.1 hq with hq|hq
 · exact h.left q hq
 · rw[List.mem_singleton]at hq;subst hq;exact h1
 · exact h.right q hq
 · rw[List.mem_singleton]at hq;subst hq;exact h2
 · exact h.prec q hq
 · rw[List.mem_singleton]at hq;subst hq;exact h3
theorem qeV {m:Mk} (x:Sym) (ht:3≤m.toks.length) (hi:0≤m.inner):vH (xY m x).1.toks.length (1+m.lefts.length+m.inner.toNat) (xY m x).2∧(x.lit=true∨qC x.name m.lefts 0<0→0≤(xY m x).2∧(xY m x).2<(xY m x).1.toks.length):=by
 have hb:=qeK m x o_
 have hl:=jI x.name m.lefts 0
 have htk:=qby x m.toks o_
 have hf:=(zf m x.at_ x.name).1
 have tokI: ∀{n:Nat} {s:Int},0≤s→s<n→vH n (1+m.lefts.length+m.inner.toNat) s:=fun h1 h2=>Or.inl ⟨_,(Int.toNat_of_nonneg h1).symm,o_⟩
 unfold xY
 split
 · exact⟨tokI hb.1 hb.2,fun _=>hb⟩
 · rename_i hx
   split
   · rename_i h0
     refine⟨Or.inr ⟨(1+qC x.name m.lefts 0).toNat,by dsimp only;omega,o_⟩,fun h=>?_⟩
     rcases h with h|h
     · exact absurd h hx
     · omega
   · split
     · dsimp only;rw[hf]
       exact⟨tokI o_ o_,fun _=>⟨o_,o_⟩⟩
     · dsimp only;exact⟨tokI o_ o_,fun _=>⟨o_,o_⟩⟩
theorem Vv : ∀(l:List Part) (m:Mk) (p:GPr),MInv m→(∀s∈p.right,vH m.toks.length (1+m.lefts.length+m.inner.toNat) s)→MInv (zq l (m,p)).1∧ ∀s∈(zq l (m,p)).2.right,vH (zq l (m,p)).1.toks.length (1+(zq l (m,p)).1.lefts.length+(zq l (m,p)).1.inner.toNat) s
 |[],m,p,h,hp=>by rw[JP];exact⟨h,hp⟩
 | w :: r, m,p,h,hp=>by
   rw[Qa]
   obtain ⟨y1,y2,y3,y4,y5,y6,y7,y8⟩:=Qp m w.sym
   have hs:=(qeV w.sym h.tk h.inn).1
   have hi:=h.inn
   split
   · refine Vv r _ _ (h.up y3 y7 y2 o_) fun s hs2=>?_
     rw[y2,y6]
     rcases List.mem_append.1 hs2 with hs2|hs2
     · exact(hp s hs2).mono y7 (Nat.le_refl _)
     · rw[List.mem_singleton]at hs2;subst hs2;exact hs
   · split
     · exact⟨h,hp⟩
     · refine Vv r _ _ ?_ fun s hs2=>?_
       · refine(h.up (m':={m with inner:=m.inner+1}) rfl (Nat.le_refl _) rfl (by dsimp only;omega)).put ⟨by dsimp only;omega,by dsimp only;omega⟩ (fun s hs2=>by cases hs2) (Or.inl rfl)
       · dsimp only at hs2 ⊢
         rcases List.mem_append.1 hs2 with hs2|hs2
         · exact(hp s hs2).mono (Nat.le_refl _) o_
         · rw[List.mem_singleton]at hs2
           exact Or.inr ⟨m.lefts.length+(m.inner+1).toNat,by rw[hs2];omega,o_⟩
theorem qar (n:Nat): ∀(l:List Int) (p:Int),(∀s∈l,0≤s∧(s<1000→s<n))→(p= -1∨(0≤p∧p<n))→(xE l p= -1∨(0≤xE l p∧xE l p<n))
 |[],p,_,hp=>hp
 | x::r,p,h,hp=>by
   rw[xE]
   refine qar n r _ (fun s hs=>h s (List.mem_cons_of_mem _ hs)) ?_
   split
   · rename_i hx;have:=h x (by simp);exact Or.inr ⟨this.1,this.2 hx⟩
   · exact hp
theorem qlx {m:Mk} (n:List UInt8) (a:Alt) (h:MInv m):MInv (Yi m n a):=by
 have hl:=jI n m.lefts 0
 obtain ⟨g1,g2,g3,g4,g5,g6,g7,g8,g9,g10⟩:=XL a.parts m {left:=1+qC n m.lefts 0,prec:= -1,at_:=a.at_}
 obtain ⟨h1,h2⟩:=Vv a.parts m {left:=1+qC n m.lefts 0,prec:= -1,at_:=a.at_} h (fun s hs=>by cases hs)
 have hi:=h.inn
 unfold Yi
 dsimp only
 generalize zq a.parts (m,{left:=1+qC n m.lefts 0,prec:= -1,at_:=a.at_})=q at *
 have hlf:0≤q.2.left∧q.2.left≤q.1.lefts.length+q.1.inner:=by rw[g5,g1];dsimp only;omega
 obtain ⟨ff1,ff2,ff3,ff4,ff5,ff6,ff7,ff8⟩:=zf q.1 a.prec.at_ a.prec.name
 split
 · split
   · rename_i hc
     obtain ⟨y1,y2,y3,y4,y5,y6,y7,y8⟩:=Qp q.1 a.prec
     have hs:=(qeV a.prec h1.tk h1.inn).2 (by rcases hc with hc|hc<;>simp[hc])
     refine(h1.up y3 y7 y2 o_).put (by rw[y2,y6];exact hlf) (fun s hs2=>?_) (Or.inr hs)
     rw[y2,y6];exact(h2 s hs2).mono y7 (Nat.le_refl _)
   · refine(h1.up (m':=qU q.1 a.prec.at_ a.prec.name) ff5 (by rw[ff1];omega) ff3 o_).put (p:={q.2 with prec:= -1,args:=q.2.right}) (by rw[ff3,ff8];exact hlf) (fun s hs2=>by rw[ff1,ff3,ff8];exact h2 s hs2) (Or.inl rfl) |> fun hh=>?_
     rw[ff5]at hh
     exact hh
 · refine h1.put hlf h2 ?_
   refine qar _ _ _ (fun s hs=>?_) (Or.inl rfl)
   rcases h2 s hs with ⟨t,e,l⟩|⟨k,e,l⟩
   · exact⟨o_,fun _=>by omega⟩
   · exact⟨o_,fun _=>by omega⟩
theorem qaD (n:List UInt8): ∀(l:List Alt) (m:Mk),MInv m→MInv (zC n l m)
 |[],m,h=>h
 |a::r,m,h=>by rw[yY];exact qaD n r _ (qlx n a h)
theorem qbR: ∀(l:List Rule) (m:Mk),MInv m→MInv (yK l m)
 |[],m,h=>h
 |r::l,m,h=>by rw[Qh];exact qbR l _ (qaD r.left r.alts m h)
def HdP (P:GPr) (m:Mk):Prop:= ∃r,m.prods=P::r
theorem Vn (P:GPr): ∀(l:List Part) (m:Mk) (p:GPr),HdP P m→HdP P (zq l (m,p)).1
 |[],m,p,h=>h
 | w ::r,m,p,h=>by
   rw[Qa]
   obtain ⟨y1,y2,y3,y4,y5,y6,y7,y8⟩:=Qp m w.sym
   obtain ⟨t,ht⟩:=h
   split
   · exact Vn P r _ _ ⟨t,by rw[y3];exact ht⟩
   · split
     · exact⟨t,ht⟩
     · exact Vn P r _ _ ⟨_,by dsimp only;rw[ht];rfl⟩
theorem qrm (P:GPr) {m:Mk} (n:List UInt8) (a:Alt) (h:HdP P m):HdP P (Yi m n a):=by
 have h1:=Vn P a.parts m {left:=1+qC n m.lefts 0,prec:= -1,at_:=a.at_} h
 unfold Yi
 dsimp only
 generalize zq a.parts (m,{left:=1+qC n m.lefts 0,prec:= -1,at_:=a.at_})=q at *
 obtain ⟨t,ht⟩:=h1
 obtain ⟨y1,y2,y3,y4,y5,y6,y7,y8⟩:=Qp q.1 a.prec
 split
 · split
   · exact⟨_,by dsimp only;rw[y3,ht];rfl⟩
   · exact⟨_,by dsimp only;rw[ht];rfl⟩
 · exact⟨_,by dsimp only;rw[ht];rfl⟩
theorem KP (P:GPr) (n:List UInt8): ∀(l:List Alt) (m:Mk),HdP P m→HdP P (zC n l m)
 |[],m,h=>h
 |a::r,m,h=>by rw[yY];exact KP P n r _ (qrm P n a h)
theorem qbW (P:GPr): ∀(l:List Rule) (m:Mk),HdP P m→HdP P (yK l m)
 |[],m,h=>h
 |r::l,m,h=>by rw[Qh];exact qbW P l _ (KP P r.left r.alts m h)
theorem JV (g:List Bool): ∀(f i:Nat) (l:List Tok) (n:Int),(VU g f i (l,n)).1.length=l.length
 |0,i,l,n=>rfl
 | f+1,i,l,n=>by
   rw[Y0];split
   · exact JV g f _ _ _
   · rw[JV];simp
theorem qaK (d:Decl): ∀(l:List Sym) (m:Mk) (st:List UInt8),yZ m (zI d l (m,st)).1∧m.toks.length≤(zI d l (m,st)).1.toks.length
 |[],m,st=>⟨⟨rfl,rfl,rfl,rfl⟩,Nat.le_refl _⟩
 | x ::r,m,st=>by
   rw[YO]
   obtain ⟨⟨a1,a2,a3,a4⟩,_,h2,_⟩:=qfe m d x
   obtain ⟨ff1,ff2,ff3,ff4,ff5,ff6,ff7,ff8⟩:=zf m x.at_ x.name
   split
   · obtain ⟨⟨b1,b2,b3,b4⟩,k2⟩:=qaK d r (vJ m d x) st
     exact⟨⟨b1.trans a1,b2.trans a2,b3.trans a3,b4.trans a4⟩,o_⟩
   · have key: ∀m',yZ m m'→m.toks.length≤m'.toks.length→yZ m (zI d r (m',x.name)).1∧m.toks.length≤(zI d r (m',x.name)).1.toks.length:=fun m' hm ht=>by
      obtain ⟨⟨b1,b2,b3,b4⟩,k2⟩:=qaK d r m' x.name
      exact⟨⟨b1.trans hm.1,b2.trans hm.2.1,b3.trans hm.2.2.1,b4.trans hm.2.2.2⟩,o_⟩
     split
     · exact key _ ⟨ff3,ff5,ff6,ff8⟩ (by rw[ff1];omega)
     · exact key _ ⟨rfl,rfl,rfl,rfl⟩ (Nat.le_refl _)
theorem qfH: ∀(l:List Decl) (m:Mk) (st:List UInt8),yZ m (jL l (m,st)).1∧m.toks.length≤(jL l (m,st)).1.toks.length
 |[],m,st=>⟨⟨rfl,rfl,rfl,rfl⟩,Nat.le_refl _⟩
 | d::r,m,st=>by
   rw[Y6]
   have key: ∀m',yZ m m'→m.toks.length≤m'.toks.length→yZ m (jL r (zI d d.syms (m',st))).1∧m.toks.length≤(jL r (zI d d.syms (m',st))).1.toks.length:=fun m' hm ht=>by
    obtain ⟨⟨a1,a2,a3,a4⟩,k1⟩:=qaK d d.syms m' st
    obtain ⟨⟨b1,b2,b3,b4⟩,k2⟩:=qfH r (zI d d.syms (m',st)).1 (zI d d.syms (m',st)).2
    exact⟨⟨b1.trans (a1.trans hm.1),b2.trans (a2.trans hm.2.1),b3.trans (a3.trans hm.2.2.1),b4.trans (a4.trans hm.2.2.2)⟩,by show m.toks.length≤(jL r ((zI d d.syms (m',st)).1,(zI d d.syms (m',st)).2)).1.toks.length;omega⟩
   split
   · exact key _ ⟨rfl,rfl,rfl,rfl⟩ (Nat.le_refl _)
   · exact key _ ⟨rfl,rfl,rfl,rfl⟩ (Nat.le_refl _)
theorem qgy: ∀(l:List Rule) (m:Mk),(xL l m).toks=m.toks∧(xL l m).inner=m.inner∧(xL l m).nons=m.nons
 |[],m=>⟨rfl,rfl,rfl⟩
 | r::l,m=>by
   rw[YB]
   obtain ⟨d1,d2,d3,d4,d5,d6⟩:=qf1 m r
   obtain ⟨h1,h2,h3⟩:=qgy l (Ye (Qk m r) r.left)
   have e:(Ye (Qk m r) r.left).toks=m.toks∧(Ye (Qk m r) r.left).inner=m.inner∧(Ye (Qk m r) r.left).nons=m.nons:=by
    unfold Ye
    split
    · exact⟨d1,d6,d5⟩
    · exact⟨d1,d6,d5⟩
   exact⟨h1.trans e.1,h2.trans e.2.1,h3.trans e.2.2⟩
theorem qcr (kind:Int): ∀(l:List Sym) (m:Mk),j5 m (jZ kind l m)
 |[],m=>j5.rfl' m
 |x::r,m=>by rw[Xi];exact(qyH m kind x).trans' (qcr kind r _)
theorem qec: ∀(l:List Decl) (m:Mk),j5 m (Ql l m)
 |[],m=>j5.rfl' m
 |d::r,m=>by rw[Y9];exact(qcr d.kind d.syms m).trans' (qec r _)
def qds (src:Source):Mk:=Ql src.decls (xL src.rules (jL src.decls ({},[])).1)
def Jk (src:Source):List UInt8:=if (jL src.decls ({},[])).2=[]then(src.rules.headD {}).left else(jL src.decls ({},[])).2
def qbx (src:Source):GPr:={left:=0,right:=[1001+qC (Jk src) (qds src).lefts 0],prec:= -1}
theorem qbF (src:Source):xC src=yK src.rules {qds src with prods:=[qbx src]}:=rfl
theorem qyo (src:Source):3≤(qds src).toks.length∧(qds src).inner=0∧(qds src).nons=[]:=by
 obtain ⟨⟨a1,a2,a3,a4⟩,k1⟩:=qfH src.decls {} []
 obtain ⟨l1,l2,l3⟩:=qgy src.rules (jL src.decls ({},[])).1
 obtain ⟨u1,u2,u3,u4,u5,u6,u7⟩:=qec src.decls (xL src.rules (jL src.decls ({},[])).1)
 refine⟨?_,?_,?_⟩
 · show 3≤(Ql _ _).toks.length;rw[u1,l1];exact k1
 · show (Ql _ _).inner=0;rw[u7,l2];exact a4
 · show (Ql _ _).nons=[];rw[u6,l3];exact a3
theorem qhX (src:Source):MInv (xC src)∧HdP (qbx src) (xC src):=by
 obtain ⟨h1,h2,h3⟩:=qyo src
 have hl:=jI (Jk src) (qds src).lefts 0
 rw[qbF]
 refine⟨qbR _ _ ⟨h1,by dsimp only;omega,fun p hp=>?_,fun p hp s hs=>?_,fun p hp=>?_⟩,qbW _ _ _ ⟨[],rfl⟩⟩<;>(dsimp only at hp;rw[List.mem_singleton]at hp;subst hp)
 · unfold qbx;dsimp only;omega
 · unfold qbx at hs;dsimp only at hs ⊢;rw[List.mem_singleton]at hs;subst hs
   exact Or.inr ⟨(1+qC (Jk src) (qds src).lefts 0).toNat,o_,o_⟩
 · exact Or.inl rfl
theorem XG (n:List UInt8): ∀(l:List Alt) (m:Mk),(zC n l m).nons=m.nons∧(zC n l m).lefts=m.lefts
 |[],m=>⟨rfl,rfl⟩
 | a::r,m=>by
   rw[yY]
   obtain ⟨h1,_,h3,_⟩:=qj8 m n a
   obtain ⟨k1,k2⟩:=XG n r (Yi m n a)
   exact⟨k1.trans h3,k2.trans h1⟩
theorem YX: ∀(l:List Rule) (m:Mk),(yK l m).nons=m.nons∧(yK l m).lefts=m.lefts
 |[],m=>⟨rfl,rfl⟩
 | r::l,m=>by
   rw[Qh]
   obtain ⟨h1,h2⟩:=XG r.left r.alts m
   obtain ⟨k1,k2⟩:=YX l (zC r.left r.alts m)
   exact⟨k1.trans h1,k2.trans h2⟩
theorem qp0 (m:Mk):(j6 m).toks.length=m.toks.length∧(j6 m).nons.length=1+m.lefts.length+m.inner.toNat∧(j6 m).prods=m.prods:=by
 unfold j6
 dsimp only
 refine⟨JV _ _ _ _ _,?_,rfl⟩
 rw[List.length_append,List.length_append,Xc,qbS];rfl
theorem qh3 {src:Source} (h:qbq src=true):Yn src=true∧(xC src).e=0∧Yh (j6 (xC src))=false∧vU src={toks:=(j6 (xC src)).toks,nons:=(j6 (xC src)).nons,prods:=(j6 (xC src)).prods,pro:=src.pro,tail:=src.tail}:=by
 have h:=of_decide_eq_true h
 unfold vU
 unfold ofS at *
 by_cases h1:Yn src=true
 · rw [if_pos h1]at *
   by_cases h2:(xC src).e≠0
   · rw[if_pos h2]at h;exact absurd h h2
   · rw[if_neg h2]at *
     by_cases h3:Yh (j6 (xC src))=true
     · rw[if_pos h3]at h;cases h
     · rw[if_neg h3]at *
       exact⟨h1,by simpa using h2,by simpa using h3,rfl⟩
 · rw[if_neg h1]at h;cases h
theorem gok {src:Source} (h:qbq src=true):GOk (vU src):=by
 obtain ⟨_,_,hl,he⟩:=qh3 h
 obtain ⟨hi,r,hr⟩:=qhX src
 obtain ⟨n1,n2,n3⟩:=qp0 (xC src)
 unfold Yh at hl
 simp only[Bool.or_eq_false_iff,decide_eq_false_iff_not,List.any_eq_false,decide_eq_true_eq]at hl
 obtain ⟨⟨⟨l1,l2⟩,l3⟩,l4⟩:=hl
 have hinn:=hi.inn
 rw[he]
 refine⟨?_,?_,?_,?_,?_,?_,fun p hp=>?_,fun p hp=>?_,fun p hp s hs=>?_,fun p hp=>?_,?_⟩<;>dsimp only at *
 · rw[n1];exact hi.tk
 · omega
 · rw[n2];omega
 · omega
 · rw[n3,hr];simp
 · omega
 · rw[n3]at hp;have:=hi.left p hp
   exact⟨p.left.toNat,o_,o_⟩
 · have:=l4 p hp;omega
 · rw[n3]at hp;rw[n1,n2];exact hi.right p hp s hs
 · rw[n3]at hp
   rcases hi.prec p hp with h|⟨h1,h2⟩
   · exact Or.inl h
   · exact Or.inr ⟨p.prec.toNat,o_,o_⟩
 · refine⟨qbx src,r,by rw[n3];exact hr,rfl,(1+qC (Jk src) (qds src).lefts 0).toNat,?_,?_⟩
   · have:=jI (Jk src) (qds src).lefts 0
     unfold qbx;dsimp only
     rw[show (1001+qC (Jk src) (qds src).lefts 0:Int)=1000+((1+qC (Jk src) (qds src).lefts 0).toNat:Int) by omega]
   · have:=jI (Jk src) (qds src).lefts 0
     have:=(YX src.rules {qds src with prods:=[qbx src]}).2
     rw[← qbF]at this
     dsimp only at this
     rw[n2,this];omega

set_option maxHeartbeats 4000000
abbrev itV (x:Int):V:= .agg [vi (x / 16),vi (x % 16)]
abbrev prV (p:Int×Int):V:= .agg [vi p.1,vi p.2]
def JK (g:Grammar) (x:Int):Prop:=0≤x∧ ∃p,g.prods[(x / 16).toNat]?=some p∧(x % 16).toNat≤p.right.length
def nxt (g:Grammar) (x:Int):Int:=((g.prods[(x / 16).toNat]?).bind fun p=>p.right[(x % 16).toNat]?).getD (-1)
theorem qJf (p d:Nat) (hd:d<16):((16 *(p:Int)+d) / 16)=p∧((16 *(p:Int)+d) % 16)=d:=o_
def qTc (g:Grammar) (l:List Int) (D:Int→Prop):Prop:=(∀x∈l,D x)∧ ∀x,D x→ ∀(m:Nat) p,g.prods[m]?=some p→1000≤nxt g x→p.left=nxt g x - 1000→D (16 *(m:Int))
structure IsCl (g:Grammar) (l c:List Int):Prop where
 rise:xD c
 clo:qTc g l (· ∈c)
 least: ∀D,qTc g l D→ ∀x∈c,D x
theorem IsCl.uniq {g:Grammar} {l c c':List Int} (h:IsCl g l c) (h':IsCl g l c'):c=c':=
 JF h.rise h'.rise fun x=>⟨h.least _ h'.clo x,h'.least _ h.clo x⟩
theorem qeD {g:Grammar} {m:Nat} {p:GPr} (h:g.prods[m]?=some p):JK g (16 *(m:Int)):=by
 have e:(16 *(m:Int)) / 16=m:=o_
 have e2:(16 *(m:Int)) % 16=0:=o_
 exact⟨o_,p,by rw[e];exact h,by rw[e2];exact Nat.zero_le _⟩
theorem IsCl.ok {g:Grammar} {l c:List Int} (h:IsCl g l c) (hl: ∀x∈l,JK g x): ∀x∈c,JK g x:=
 h.least _ ⟨hl,fun x hx m p hp _ _=>qeD hp⟩
theorem IsCl.cases {g:Grammar} {l c:List Int} (h:IsCl g l c): ∀x∈c,x∈l∨ ∃y∈c,∃(m:Nat) (p:GPr),x=16 *(m:Int)∧g.prods[m]?=some p∧1000≤nxt g y∧p.left=nxt g y - 1000:=by
 have:=h.least (fun x=>x∈c∧(x∈l∨ ∃y∈c,∃(m:Nat) (p:GPr),x=16 *(m:Int)∧g.prods[m]?=some p∧1000≤nxt g y∧p.left=nxt g y - 1000)) ⟨fun x hx=>⟨h.clo.1 x hx,Or.inl hx⟩,fun x hx m p hp h1 h2=>⟨h.clo.2 x hx.1 m p hp h1 h2,Or.inr ⟨x,hx.1,m,p,rfl,hp,h1,h2⟩⟩⟩
 exact fun x hx=>(this x hx).2
def qGB (g:Grammar) (s:Int) (o:List Int):List Int:=(List.range g.prods.length).foldl (fun o (m:Nat)=>if 1000≤s∧(g.prods[m]?.map (·.left)).getD 0=s - 1000 then jo o (16 *(m:Int))else o) o
def Vj (g:Grammar) (c:List Int):List Int:=c.foldl (fun o x=>qGB g (nxt g x) o) c
def qcj (g:Grammar):Nat→List Int→List Int
 |0,c=>c
 |n+1,c=>if Vj g c=c then c else qcj g n (Vj g c)
theorem XE {α β:Type} {P:β→Prop} {f:β→α→β}: ∀(l:List α) (b:β),P b→(∀b a,a∈l→P b→P (f b a))→P (l.foldl f b)
 |[],b,h,_=>h
 |a::l,b,h,hf=>XE l (f b a) (hf b a (by simp) h) fun b x hx=>hf b x (List.mem_cons_of_mem _ hx)
theorem qic {g:Grammar} {s:Int} {o:List Int}: ∀x,x∈qGB g s o↔x∈o∨ ∃(m:Nat) (p:GPr),x=16 *(m:Int)∧g.prods[m]?=some p∧1000≤s∧p.left=s - 1000:=by
 have key : ∀(k:Nat) (o:List Int),k≤g.prods.length→ ∀x,x∈(List.range k).foldl (fun o (m:Nat)=>if 1000≤s∧(g.prods[m]?.map (·.left)).getD 0=s - 1000 then jo o (16 *(m:Int))else o) o↔x∈o∨ ∃(m:Nat) (p:GPr),m<k∧x=16 *(m:Int)∧g.prods[m]?=some p∧1000≤s∧p.left=s - 1000:=by
  intro k
  induction k with
  |zero=>intro o _ x;simp
  | succ k ih=>
    intro o hk x
    rw[List.range_succ,List.foldl_append,List.foldl_cons,List.foldl_nil]
    have hgp:g.prods[k]?=some g.prods[k]:=ge_ o_
    by_cases hc:1000≤s∧(g.prods[k]?.map (·.left)).getD 0=s - 1000
    · rw [if_pos hc,zH,ih o o_]
      rw[hgp]at hc
      constructor
      · rintro ((h|⟨m,p,h1,h2⟩)|h)
        · exact Or.inl h
        · exact Or.inr ⟨m,p,o_,h2⟩
        · exact Or.inr ⟨k,_,o_,h,hgp,hc.1,hc.2⟩
      · rintro (h|⟨m,p,h1,h2,h3⟩)
        · exact Or.inl (Or.inl h)
        · by_cases e:m=k
          · subst e;exact Or.inr h2
          · exact Or.inl (Or.inr ⟨m,p,o_,h2,h3⟩)
    · rw [if_neg hc,ih o o_]
      constructor
      · rintro (h|⟨m,p,h1,h2⟩)
        · exact Or.inl h
        · exact Or.inr ⟨m,p,o_,h2⟩
      · rintro (h|⟨m,p,h1,h2,h3,h4⟩)
        · exact Or.inl h
        · by_cases e:m=k
          · subst e;rw[h3]at hc;exact absurd h4 hc
          · exact Or.inr ⟨m,p,o_,h2,h3,h4⟩
 intro x
 unfold qGB
 rw[key _ o (Nat.le_refl _)]
 constructor
 · rintro (h|⟨m,p,_,h⟩)
   · exact Or.inl h
   · exact Or.inr ⟨m,p,h⟩
 · rintro (h|⟨m,p,h1,h2,h3⟩)
   · exact Or.inl h
   · exact Or.inr ⟨m,p,(List.getElem?_eq_some_iff.1 h2).1,h1,h2,h3⟩
theorem qfn {g:Grammar} {s:Int} {o:List Int} (h:xD o):xD (qGB g s o):=
 XE _ _ h fun b a _ hb=>by split;exact jG hb;exact hb
theorem QW {g:Grammar} {c:List Int}: ∀x,x∈Vj g c↔x∈c∨ ∃y∈c,∃(m:Nat) (p:GPr),x=16 *(m:Int)∧g.prods[m]?=some p∧1000≤nxt g y∧p.left=nxt g y - 1000:=by
 have key: ∀(l o:List Int) x,x∈l.foldl (fun o x=>qGB g (nxt g x) o) o↔x∈o∨ ∃y∈l,∃(m:Nat) (p:GPr),x=16 *(m:Int)∧g.prods[m]?=some p∧1000≤nxt g y∧p.left=nxt g y - 1000:=by
  intro l
  induction l with
  |nil=>intro o x;simp
  | cons a l ih=>
    intro o x
    rw[List.foldl_cons,ih,qic]
    constructor
    · rintro ((h|h)|⟨y,h1,h2⟩)
      · exact Or.inl h
      · exact Or.inr ⟨a,by simp,h⟩
      · exact Or.inr ⟨y,List.mem_cons_of_mem _ h1,h2⟩
    · rintro (h|⟨y,h1,h2⟩)
      · exact Or.inl (Or.inl h)
      · rcases List.mem_cons.1 h1 with rfl|h1
        · exact Or.inl (Or.inr h2)
        · exact Or.inr ⟨y,h1,h2⟩
 exact fun x=>key c c x
theorem YP {g:Grammar} {c:List Int} (h:xD c):xD (Vj g c):=XE _ _ h fun b a _ hb=>qfn hb
theorem yU {N:Nat}: ∀{l:List Int} {a:Int},xD l→(∀x∈l,a≤x∧x<a+N)→l.length≤N:=by
 intro l
 induction l generalizing N with
 |nil=>intros;exact Nat.zero_le _
 | cons x l ih=>
   intro a h hb
   have h':=List.pairwise_cons.1 h
   have h1:=hb x (by simp)
   cases N with
   |zero=>omega
   | succ N=>
     have:=ih (N:=N) (a:=a+1) h'.2 fun y hy=>by
      have:=h'.1 y hy;have:=hb y (List.mem_cons_of_mem _ hy);omega
     rw[List.length_cons];omega
theorem VB {a b:List Int} (ha:xD a) (hb:xD b) (h: ∀x∈a,x∈b) (hl:b.length≤a.length):a=b:=by
 have hs:a.Sublist b:=by
  clear hl
  induction b generalizing a with
  | nil=>
    cases a with
    |nil=>exact List.Sublist.slnil
    |cons x a=>exact absurd (h x (by simp)) (by simp)
  | cons y b ih=>
    have hb':=List.pairwise_cons.1 hb
    cases a with
    |nil=>exact List.nil_sublist _
    | cons x a=>
      have ha':=List.pairwise_cons.1 ha
      rcases List.mem_cons.1 (h x (by simp))with e|e
      · subst e
        refine List.Sublist.cons_cons _ (ih ha'.2 hb'.2 fun z hz=>?_)
        rcases List.mem_cons.1 (h z (List.mem_cons_of_mem _ hz))with e|e
        · subst e;have:=ha'.1 z hz;omega
        · exact e
      · refine List.Sublist.cons _ (ih ha hb'.2 fun z hz=>?_)
        rcases List.mem_cons.1 (h z hz)with e2|e2
        · subst e2
          have h1:=hb'.1 x e
          rcases List.mem_cons.1 hz with e3|e3
          · omega
          · have:=ha'.1 z e3;omega
        · exact e2
 exact hs.eq_of_length_le hl
theorem Xh {g:Grammar} {l:List Int} (hlen:g.prods.length≤60) (hrl: ∀p∈g.prods,p.right.length≤8) (hl: ∀x∈l,JK g x): ∀(n:Nat) (c:List Int),xD c→(∀x∈l,x∈c)→(∀D,qTc g l D→ ∀x∈c,D x)→(∀x∈c,JK g x)→961≤c.length+n→IsCl g l (qcj g n c)
 | n, c, hr,h1,h2,h3,hn=>by
   have hb: ∀x∈c,0≤x∧x<0+(960:Nat):=fun x hx=>by
    obtain ⟨h0,p,hp,_⟩:=h3 x hx
    have:=(List.getElem?_eq_some_iff.1 hp).1
    omega
   have hc:=yU hr hb
   match n with
   |0=>omega
   | n + 1=>
     unfold qcj
     have up: ∀x∈c,x∈Vj g c:=fun x hx=>(QW x).2 (Or.inl hx)
     split
     · rename_i e
       exact⟨hr,⟨h1,fun x hx m p hp h4 h5=>by rw[← e];exact(QW _).2 (Or.inr ⟨x,hx,m,p,rfl,hp,h4,h5⟩)⟩,h2⟩
     · rename_i e
       refine Xh hlen hrl hl n _ (YP hr) (fun x hx=>up x (h1 x hx)) (fun D hD x hx=>?_) (fun x hx=>?_) ?_
       · rcases (QW x).1 hx with h|⟨y,hy,m,p,rfl,hp,h4,h5⟩
         · exact h2 D hD x h
         · exact hD.2 y (h2 D hD y hy) m p hp h4 h5
       · rcases (QW x).1 hx with h|⟨y,hy,m,p,rfl,hp,h4,h5⟩
         · exact h3 x h
         · exact qeD hp
       · have: ¬ (Vj g c).length≤c.length:=fun h=>e (VB hr (YP hr) up h).symm
         omega
def zX (g:Grammar) (l:List Int):List Int:=qcj g 961 l
theorem KL {g:Grammar} {l:List Int} (hlen:g.prods.length≤60) (hrl: ∀p∈g.prods,p.right.length≤8) (hl: ∀x∈l,JK g x) (hr:xD l):IsCl g l (zX g l):=
 Xh hlen hrl hl 961 l hr (fun _ h=>h) (fun D hD=>hD.1) hl o_

theorem VL {H:Nat→Option MObj} {id z n:Nat} {es es':List V} {ro:Bool} (hH:H id=some (.own z es ro)) (he:ErL true H es es') (hn:es.length=n):Er true H (.msl id z 0 n) (.sl z false es'):=by
 obtain ⟨h1,h2⟩:=he.get
 refine .msl id z 0 n es ro es' rfl hH o_ o_ fun i c c' h3 h4=>?_
 rw[Nat.zero_add]at h3
 exact h2 i c c' h3 h4
theorem KZ {K:V→Prop} {k z off:Nat} {es cs:List V} {ro:Bool} {c:V} (hx:es[k]?=some (.agg cs)) (hc:cs[off]?=some c) (hk:K c):onS (ldQ (some (.own z es ro)) false 1 k off) K:=by
 have e:ldQ (some (.own z es ro)) false 1 k off=some c:=by
  simp only[ldQ,hx,jw]
  rw[if_neg (by simp[V.isAgg])]
  simp[x9,V.cells,hc]
 rw[e];exact hk
theorem Km {K:St→Prop} {s:St} {id k z off:Nat} {es cs:List V} {v:V} (hx:es[k]?=some (.agg cs)) (hv:v.cells=[v]) (hc:v.okCell=true) (ha:v.isAgg=false) (ho:off<cs.length)
 (hk:K (s.setO id (some (.own z (es.set k (.agg (cs.set off v))) false)))):onS (stQ s (some (.own z es false)) 1 id k off v) K:=by
 have e0:jf 1 z (.agg cs) v off=some (.agg (cs.set off v)):=by
  unfold jf
  rw[if_neg (by rw[ha];simp[V.isAgg])]
  cases v<;>simp_all [V.isAgg]
 have e:stQ s (some (.own z es false)) 1 id k off v=some (s.setO id (some (.own z (es.set k (.agg (cs.set off v))) false))):=by
  simp only[stQ,hx,e0,hv,hc,List.length_singleton,and_self,if_true,Option.map_some]
 rw[e];exact hk
theorem qfl {K:St→Prop} {s:St} {id k z off:Nat} {es cs:List V} {v:V} {o:Option MObj} (hO:o=some (.own z es false)) (hx:es[k]?=some (.agg cs)) (hv:v.cells=[v]) (hc:v.okCell=true) (ha:v.isAgg=false) (ho:off<cs.length)
 (hk:K (s.setO id (some (.own z (es.set k (.agg (cs.set off v))) false)))):onS (stQ s o 1 id k off v) K:=by subst hO;exact Km hx hv hc ha ho hk
theorem XU {K:V→Prop} {k z off:Nat} {es cs:List V} {ro:Bool} {c:V} {o:Option MObj} (hO:o=some (.own z es ro)) (hx:es[k]?=some (.agg cs)) (hc:cs[off]?=some c) (hk:K c):onS (ldQ o false 1 k off) K:=by subst hO;exact KZ hx hc hk
theorem Gr.ok {H:Nat→Option MObj} {next z:Nat} {es:List V} {v:V} (h:Gr H next z es v):v.cells=[v]∧v.okCell=true∧v.isAgg=false:=by
 rcases h with rfl|⟨id,f,rfl,_⟩<;>exact⟨rfl,rfl,rfl⟩
theorem Kz {cls:Cls} {id:Nat} {s:St} {K:V→St→Prop} {z bytes:Nat} {vy:V} {ys:List V} (hcl:(cls == .t)=false) (hs:qP s.H z ys vy)
 (hb:ys.length *bytes≤140737488355328) (hl:ys.length≤maxLen)
 (hk:K (.msl id z 0 ys.length) (s.setO id (some (.own z ys false)))):Kh cls id s K true z bytes (.sl z true []) vy:=by
 unfold Kh
 rw[hs.1 s rfl]
 refine⟨fun e=>(by subst e;cases hcl),?_⟩
 have e:qE id s true z (.sl z true []) ys=some (.msl id z 0 ys.length,s.setO id (some (.own z ys false)),ys.length):=by simp[qE]
 rw[e]
 exact⟨hb,hl,hk⟩
def VI (s:Sym):List Decl→List Decl
 |[]=>[]
 |[d]=>[{d with syms:=d.syms++[s]}]
 |d::e::r=>d::VI s (e::r)
theorem kQ (s:Sym) (o:List Decl) (d:Decl):VI s (o++[d])=o++[{d with syms:=d.syms++[s]}]:=by
 induction o with
 |nil=>rfl
 | cons a o ih=>
   cases o with
   |nil=>rfl
   |cons b o=>show a::VI s (b::o++[d])=_;rw[ih];rfl
def j3 (i:Nat) (x:Int) (out:List Decl):List Decl:=
 if x % 8 % 4=0 then out else if 4<x % 8∧out≠[]then VI (vI i) out else out++[{kind:=1+x % 8 % 4,syms:=[vI i]}]
def zL (l:List Int):Nat→List Decl
 |0=>[]
 |i+1=>j3 i (l.getD i 0) (zL l i)
def vv (l:List Int):List Decl:=zL l (min 4 l.length)
def DI (H:Nat→Option MObj) (next:Nat) (v:V) (out:List Decl):Prop:=
 (out=[]∧v=.sl 4 true [])∨ ∃id es k vS ss,∃(o:List Decl) (sy:List Sym),v=.msl id 4 0 (es.length+1)∧H id=some (.own 4 (es++[.agg [vi k,.str [],vS,vi 0]]) false)∧id<next∧Gr H next 4 ss vS∧ZM es (o.map Decl.V)∧ZM ss (sy.map Sym.V)∧out=o++[{kind:=k,syms:=sy}]∧es.length≤4∧ss.length≤4
theorem DI.mono {H H':Nat→Option MObj} {next next':Nat} {v:V} {out:List Decl} (h:DI H next v out) (hn:next≤next') (hH: ∀j,j<next→H' j=H j):DI H' next' v out:=by
 rcases h with h|⟨id,es,k,vS,ss,o,sy,h1,h2,h3,h4,h5⟩
 · exact Or.inl h
 · exact Or.inr ⟨id,es,k,vS,ss,o,sy,h1,by rw[hH id h3];exact h2,o_,h4.mono hn (fun j _ hj=>hH j hj),h5⟩
theorem vZ {l :List Int} (hl:l.length≤1099511627776):Pure Tryz.prog 46 [.sl 1 false (l.map (V.int .i64))] (.sl 4 false ((vv l).map Decl.V)):=by
 refine pure_intro Tryz.func46 nm_ qH5 (by show 1≤59;decide) ?_
 show ewp _ qkL _ _
 repeat' with_reducible first
  |refine s_ ?_
  |simp -implicitDefEqProofs only[wZZ,seval]
 refine qc ?nx1 (fun(i:Nat) s=>s.f 0=?v1_0∧s.f 4=vi i∧(i≤l.length)∧(i≤4)∧((∃v,s.f 3=v∧DI s.H s.next v (zL l i)∧(zL l i).length≤i∧ ∀d∈zL l i,d.syms.length≤i))) (fun i=>l.length - i) (0) wj_ (by refine⟨?_,?_,wo_,wo_,(by exact⟨_,by simp -implicitDefEqProofs only[wL,seval],Or.inl ⟨rfl,rfl⟩,Nat.le_refl _,fun d h=>by cases h⟩)⟩<;>first|(simp -implicitDefEqProofs only[wL,wM,wN,wX,seval,Option.some.injEq]<;>exact wt_)|rfl|exact⟨_,rfl⟩) ?_
 intro i s hnx ⟨g0,g4,k1_0,k1_1,k1_2⟩
 obtain ⟨v3,g3,hD,hln,hsy⟩:=k1_2
 have hzi:=w1_ i
 by_cases hi:i<l.length∧i<4
 · obtain ⟨hi1,hi4⟩:=hi
   obtain ⟨q,hq⟩: ∃q:Nat,l[i] % 8=q:=⟨(l[i] % 8).toNat,o_⟩
   have hq8:q<8:=o_
   have hm:(q:Int).tmod 4=((q % 4:Nat):Int):=by rw[Int.tmod_eq_emod_of_nonneg o_];omega
   have hst:zL l (i+1)=j3 i l[i] (zL l i):=by show j3 i (l.getD i 0) _=_;rw[List.getD_eq_getElem?_getD,ge_ hi1];rfl
   unfold j3 at hst
   rw[hq]at hst
   by_cases h0:q % 4=0
   · rw[if_pos o_]at hst
     repeat' with_reducible first
      |refine s_ ?_
      |simp -implicitDefEqProofs only[wZZ,seval,g0,g4,g3,hq,hm,hzi]
      |(first|apply qa|apply qw|apply qp)<;>intro h h_<;>(try simp only[wD,reduceCtorEq]at h_)<;>(try exact wb_)<;>(try simp only[h])
      |refine t_ ?_
      |refine jq we_ we_ (qL wf_ wf_) ?_
     refine⟨wk_,i+1,o_,?_⟩
     refine⟨?_,?_,?_,?_,?_⟩
     iterate 2 (focus(first|(simp -implicitDefEqProofs only[wL,wM,wN,wX,seval,Option.some.injEq,g0,g4]<;>exact wt_)|rfl|exact⟨_,rfl⟩))
     all_goals try omega
     exact⟨v3,rfl,by rw[hst];exact hD.mono o_ (fun _ _=>rfl),by rw[hst];omega,fun d hd=>by rw[hst]at hd;have:=hsy d hd;omega⟩
   · rw [if_neg o_]at hst
     have hqm:0<q % 4:=o_
     have hz1:IntKind.i64.wrap (1+((q % 4:Nat):Int))=1+((q % 4:Nat):Int):=wrap64 o_ o_
     rcases hD with ⟨h1,rfl⟩|⟨id,es,k,vS,ss,o,sy,rfl,h2,h3,h4,h5,h6,h7,h8,h9⟩
     · rw[h1,if_neg (by simp)]at hst
       repeat' with_reducible first
        |refine s_ ?_
        |simp -implicitDefEqProofs only[wZZ,seval,g0,g4,g3,hq,hm,hzi,hz1]
        |(first|apply qa|apply qw|apply qp)<;>intro h h_<;>(try simp only[wD,reduceCtorEq]at h_)<;>(try exact wb_)<;>(try simp only[h])
        |(refine Kz rfl qP.sl (by simp only[wZ]<;>omega) (by unfold maxLen;simp only[wZ]<;>omega) ?_)
        |refine t_ ?_
        |refine jq we_ we_ (qL wf_ wf_) ?_
        |refine jF we_ (jk wf_ wf_) ?_
       all_goals
        refine⟨by(try simp only[wN])<;>omega,i+1,o_,trivial,rfl,o_,o_,_,rfl,?_,by rw[hst];simp,fun d hd=>by rw[hst]at hd;simp at hd;subst hd;simp⟩
        rw[hst]
        refine Or.inr ⟨_,[],1+((q % 4:Nat):Int),.sl 4 true [(vI i).V],[(vI i).V],[],[vI i],rfl,?_,by(try simp only[wN])<;>omega,Gr.clip,.nil,.cons qf .nil,by simp,by simp,by simp⟩
        simp only[wM]
        repeat(first|rw[if_pos trivial]|rw[if_pos rfl]|rw[if_neg o_])
        rfl
     · have hol:o.length=es.length:=by have:=h5.len;simpa using this
       have hdl:(zL l i).length=o.length+1:=by rw[h7];simp
       have hzl:IntKind.i64.wrap (((es.length+1:Nat):Int) - 1)=(es.length:Int):=by rw[wrap64 o_ o_];omega
       by_cases hq4:4<q
       · rw [if_pos ⟨o_,by rw[h7];simp⟩,h7,kQ]at hst
         have hg1:(es++[V.agg [vi k,.str [],vS,vi 0]])[es.length]?=some (V.agg [vi k,.str [],vS,vi 0]):=by simp
         have hne:gid vS≠some id:=h4.ne (fun f e=>by rw[h2]at e;cases e)
         repeat' with_reducible first
          |refine s_ ?_
          |simp -implicitDefEqProofs only[wZZ,seval,g0,g4,g3,hq,hm,hzi,hz1,hzl,h2,qb hne]
          |(first|apply qa|apply qw|apply qp)<;>intro h h_<;>(try simp only[wD,reduceCtorEq]at h_)<;>(try exact wb_)<;>(try simp only[h])
          |apply qZ rfl (h4.mono (Nat.le_refl _) (fun id h1 h2=>by(try simp only[wM]);(repeat rw[if_neg o_])));(focus(first|exact qP.sl|exact qP.asl));(focus(simp only[wZ]<;>omega));(focus(unfold maxLen;simp only[wZ]<;>omega))
          |(refine KZ hg1 rfl ?_)
          |apply Km hg1;exact wu_;exact wu_;exact wu_;(focus(simp only[wZ]<;>omega))
          |refine t_ ?_
          |refine jq we_ we_ (qL wf_ wf_) ?_
          |refine jF we_ (jk wf_ wf_) ?_
          |simp -implicitDefEqProofs (disch:=omega) only[w64,if_neg]
         have hsl:(es++[V.agg [vi k,.str [],vS,vi 0]]).length=es.length+1:=by simp
         all_goals
          refine⟨by(try simp only[wN])<;>omega,i+1,o_,trivial,rfl,o_,o_,_,rfl,?_,?_,fun d hd=>?_⟩
          · rw[hst]
            refine Or.inr ⟨id,es,k,.asl (s.next+8+6+3+3+6+12) (ss.length+1) 4 (ss++[(vI i).V]),ss++[(vI i).V],o,sy++[vI i],rfl,?_,by(try simp only[wN])<;>omega,Gr.tok (fin:=ss.length+1) ?_ ?_,h5,?_,rfl,h8,?_⟩
            · simp only[wM]
              repeat(first|rw[if_pos trivial]|rw[if_pos rfl]|rw[if_neg o_])
              simp
            · simp only[wM]
              repeat(first|rw[if_pos trivial]|rw[if_pos rfl]|rw[if_neg o_])
            · (try simp only[wN])<;>omega
            · rw[List.map_append];exact h6.snoc qf
            · have:=hsy _ (show ({kind:=k,syms:=sy}:Decl)∈zL l i by rw[h7];simp)
              have:=h6.len
              simp at *;omega
          · rw[hst];simp;omega
          · rw[hst]at hd
            rcases List.mem_append.1 hd with hd|hd
            · have:=hsy d (by rw[h7];exact List.mem_append_left _ hd);omega
            · rw[List.mem_singleton]at hd
              have:=hsy _ (show ({kind:=k,syms:=sy}:Decl)∈zL l i by rw[h7];simp)
              subst hd;simp at this ⊢;omega
       · rw [if_neg o_,h7]at hst
         repeat' with_reducible first
          |refine s_ ?_
          |simp -implicitDefEqProofs only[wZZ,seval,g0,g4,g3,hq,hm,hzi,hz1,hzl,h2]
          |(first|apply qa|apply qw|apply qp)<;>intro h h_<;>(try simp only[wD,reduceCtorEq]at h_)<;>(try exact wb_)<;>(try simp only[h])
          |(refine QZ (es:=es++[V.agg [vi k,.str [],vS,vi 0]]) rfl (by simp only[wM];exact h2) (by simp) qP.sl (by simp only[wZ]<;>omega) (by unfold maxLen;simp only[wZ]<;>omega) ?_)
          |refine t_ ?_
          |refine jq we_ we_ (qL wf_ wf_) ?_
          |refine jF we_ (jk wf_ wf_) ?_
         all_goals
          refine⟨by(try simp only[wN])<;>omega,i+1,o_,trivial,rfl,o_,o_,_,rfl,?_,?_,fun d hd=>?_⟩
          · rw[hst]
            refine Or.inr ⟨_,es++[V.agg [vi k,.str [],vS,vi 0]],1+((q % 4:Nat):Int),.sl 4 true [(vI i).V],[(vI i).V],o++[{kind:=k,syms:=sy}],[vI i],rfl,?_,by(try simp only[wN])<;>omega,Gr.clip,?_,.cons qf .nil,by simp,?_,by simp⟩
            · simp only[wM]
              repeat(first|rw[if_pos trivial]|rw[if_pos rfl]|rw[if_neg o_])
            · rw[List.map_append];exact h5.snoc (ErL.agg (.cons (.int _ _) (.cons (.str _) (.cons (h4.erL h6.up) (.cons (.int _ _) .nil)))))
            · simp;omega
          · rw[hst];simp;omega
          · rw[hst]at hd
            rcases List.mem_append.1 hd with hd|hd
            · have:=hsy d (by rw[h7];exact hd);omega
            · rw[List.mem_singleton]at hd
              subst hd;simp
 · have e:zL l i=vv l:=by unfold vv;rw[show i=min 4 l.length by omega]
   rcases hD with ⟨h1,rfl⟩|⟨id,es,k,vS,ss,o,sy,rfl,h2,h3,h4,h5,h6,h7,h8,h9⟩
   · repeat' with_reducible first
      |refine s_ ?_
      |simp -implicitDefEqProofs only[wZZ,seval,g0,g4,g3]
      |(first|apply qa|apply qw|apply qp)<;>intro h h_<;>(try simp only[wD,reduceCtorEq]at h_)<;>(try exact wb_)<;>(try simp only[h])
     rw[← e,h1]
     all_goals refine qx rfl (Or.inr rfl) ?_
     all_goals(try simp -implicitDefEqProofs only[wL,seval,g0,g4])
     all_goals refine er_ ?_
     all_goals(try(with_reducible rfl))
     all_goals first|rfl|(rw[← e,h1];rfl)
   · repeat' with_reducible first
      |refine s_ ?_
      |simp -implicitDefEqProofs only[wZZ,seval,g0,g4,g3]
      |(first|apply qa|apply qw|apply qp)<;>intro h h_<;>(try simp only[wD,reduceCtorEq]at h_)<;>(try exact wb_)<;>(try simp only[h])
     all_goals(rw[← e,h7,List.map_append])
     all_goals(refine qx (t:=2) rfl (Or.inr rfl) ?_)
     all_goals(simp -implicitDefEqProofs only[wL,wM,seval])
     all_goals(refine VL h2 (ErL.snoc h5.up (ErL.agg ?_)) (by simp))
     all_goals exact .cons (.int _ _) (.cons (.str _) (.cons (h4.erL h6.up) (.cons (.int _ _) .nil)))

structure GrI where
 nons:Int:=0
 rules:List (List Int):=[]
 levels:List Int:=[]
 inner:List Int:=[]
 bare:Bool:=false
 deriving DecidableEq,Inhabited
abbrev yQ (l:List Int):V:= .sl 1 false (l.map (V.int .i64))
@[reducible] def GrI.V (x:GrI):V:= .agg [vi x.nons,.sl 1 false (x.rules.map yQ),yQ x.levels,yQ x.inner,.bool x.bare]
def QB:List UInt8:=[123,36,36,32,61,32,36,49,125]
def XD:List UInt8:=[123,102,40,36,36,41,125]
def qzy:List UInt8:=[101,114,114,111,114]
abbrev qhI (l:List Int) (n:Nat) (j:Nat):Sym:=YL (l.getD j 0) n
def qdG (inner:List Int) (i:Nat):Bool:=decide (i<inner.length) && decide ((inner.getD i 0).tmod 3=1)
def qGd (inner:List Int) (i:Nat):Bool:=decide (i<inner.length) && !decide ((inner.getD i 0).tmod 2=0)
def jB (l:List Int) (n:Nat) (mid:Bool):Nat→List Part
 |0=>[]
 |j+1=>jB l n mid j++[{sym:=qhI l n (j+1)}]++(if j=0∧mid=true then[{code:=QB}]else[])
def J8 (l:List Int) (n:Nat):Nat→Bool
 |0=>true
 |j+1=>J8 l n j && ((qhI l n (j+1)).lit || decide ((qhI l n (j+1)).name=qzy))
def qdj (l:List Int) (n:Nat) (inner:List Int) (i:Nat):Alt:=
 {parts:=jB l n (qdG inner i) (min 4 (l.length - 1))++(if qGd inner i=true then[{code:=XD}]else[])}
def Kv (l:List Int) (n:Nat):Bool:=J8 l n (min 4 (l.length - 1))
theorem qdt (l:List Int) (n:Nat) (mid:Bool) (j:Nat):(jB l n mid j).length≤2 *j:=by
 induction j with
 |zero=>simp[jB]
 |succ j ih=>unfold jB;simp only[List.length_append,List.length_cons,List.length_nil];split<;>simp<;>omega
theorem getD_some {α:Type} {l:List α} {i:Nat} {d:α} (h:i<l.length):l[i]?=some (l.getD i d):=by rw[List.getD_eq_getElem?_getD,ge_ h];rfl
structure AltAt (s:St) (s0:St) (a:Nat) (ps:List Part) (pl:Bool):Prop where
 ex: ∃vP es,s.H a=some (.own 6 [.agg [vP,.str [],.bool false,vi 0,vi 0,vi 0]] false)∧Gr s.H s.next 6 es vP∧ZM es (ps.map Part.V)∧ ∀j,gid vP=some j→s0.next≤j
 pl:s.f 10=.bool pl
 fr: ∀t,t<10→s.f t=s0.f t
 hp: ∀j,j<s0.next→j≠a→s.H j=s0.H j
 nx:s0.next≤s.next
theorem AltAt.mk1 {s s0:St} {a:Nat} {ps:List Part} {pl:Bool} {vP:V} {es:List V} (h1:s.H a=some (.own 6 [.agg [vP,.str [],.bool false,vi 0,vi 0,vi 0]] false)) (h2:Gr s.H s.next 6 es vP) (h3:ZM es (ps.map Part.V)) (h4: ∀j,gid vP=some j→s0.next≤j)
 (h5:s.f 10=.bool pl) (h6: ∀t,t<10→s.f t=s0.f t) (h7: ∀j,j<s0.next→j≠a→s.H j=s0.H j) (h8:s0.next≤s.next):AltAt s s0 a ps pl:=⟨⟨vP,es,h1,h2,h3,h4⟩,h5,h6,h7,h8⟩
theorem qZn {s0:St} {x:GrI} {n i a xb:Nat} {E:EC} {Q:Exit→St→Prop} (hn:0<n) (hn4:n≤4) (hi:i<x.rules.length) (hi9:i<9) (hne:(x.rules.getD i [])≠[]) (hb:(x.rules.getD i []).length≤1099511627776) (hib:x.inner.length≤1099511627776)
 (f1:s0.f 1=.ptr xb 0 0) (f3:s0.f 3=vi n) (f7:s0.f 7=vi i) (f9:s0.f 9=.ptr a 0 0) (f10:s0.f 10=.bool true) (hx:s0.H xb=some (.own 5 [x.V] false)) (ha:s0.H a=some (.own 6 [.agg [.sl 6 true [],.str [],.bool false,vi 0,vi 0,vi 0]] false))
 (lx:xb<s0.next) (la:a<s0.next) (hax:a≠xb)
 (hQ: ∀s',AltAt s' s0 a (qdj (x.rules.getD i []) n x.inner i).parts (Kv (x.rules.getD i []) n)→ewp Tryz.prog E Q s'):ewp Tryz.prog (.seq qcF (.seq qca E)) Q s0:=by
 have hg:=getD_some (d:=[]) hi
 generalize x.rules.getD i []=l at *
 have hll:0<l.length:=List.length_pos_iff.2 hne
 repeat' with_reducible first
  |refine s_ ?_
  |simp -implicitDefEqProofs only[wZZ,seval,f1,f3,f7,f9,f10]
 refine qc ?nx3 (fun(j:Nat) s=>s.f 1=?v3_1∧s.f 2=?v3_2∧s.f 3=?v3_3∧s.f 4=?v3_4∧s.f 5=?v3_5∧s.f 7=?v3_7∧s.f 8=?v3_8∧s.f 9=?v3_9∧s.f 11=vi ((j+1:Nat):Int)∧(j+1≤l.length)∧(j≤4)∧(AltAt s s0 a (jB l n (qdG x.inner i) j) (J8 l n j))) (fun j=>l.length - j) (0) wj_ (by refine⟨?_,?_,?_,?_,?_,?_,?_,?_,?_,wo_,wo_,(by exact⟨⟨.sl 6 true [],[],by(simp only[wM];(repeat first|rw[if_pos trivial]|rw[if_pos rfl]|rw[if_neg o_]));exact ha,Gr.nil,.nil,fun j h=>by cases h⟩,by(simp -implicitDefEqProofs only[wL,seval]);exact f10,fun t ht=>by simp only[wL];repeat(first|rw[if_pos rfl]|rw[if_neg o_]),fun j h1 h2=>by simp only[wM],wg_⟩)⟩<;>first|(simp -implicitDefEqProofs only[wL,wM,wN,wX,seval,Option.some.injEq]<;>exact wt_)|rfl|exact⟨_,rfl⟩) ?_
 intro j s hnx ⟨g1,g2,g3,g4,g5,g7,g8,g9,g11,k3_0,k3_1,k3_2⟩
 obtain ⟨⟨vP,es,o1,GP,eP,hfr⟩,hpl,hfl,hhp,hnx2⟩:=k3_2
 have hx1:s.H xb=some (.own 5 [x.V] false):=by rw[hhp xb lx o_];exact hx
 have q1:=hfl 1 o_;have q3:=hfl 3 o_;have q7:=hfl 7 o_;have q9:=hfl 9 o_
 rw[f1]at q1;rw[f3]at q3;rw[f7]at q7;rw[f9]at q9
 have hzj:IntKind.i64.wrap ((j+1+1:Nat):Int)=((j+1+1:Nat):Int):=wrap64 o_ o_
 have hPa:gid vP≠some a:=GP.ne (fun f e=>by rw[o1]at e;cases e)
 have hPx:gid vP≠some xb:=GP.ne (fun f e=>by rw[hx1]at e;cases e)
 have hle:=eP.len
 have hle2:=qdt l n (qdG x.inner i) j
 rw[List.length_map]at hle
 by_cases hj:j+1<l.length∧j<4
 · have hgj:=getD_some (d:=(0:Int)) hj.1
   have hsym:=Vi (x:=l.getD (j+1) 0) (nons:=n) o_ o_
   have hps:jB l n (qdG x.inner i) (j+1)=jB l n (qdG x.inner i) j++[{sym:=qhI l n (j+1)}]++(if j=0∧qdG x.inner i=true then[{code:=QB}]else[]):=rfl
   have hpp:J8 l n (j+1)=(J8 l n j && ((qhI l n (j+1)).lit || decide ((qhI l n (j+1)).name=qzy))):=rfl
   have hpl2:=hpl
   have hy:YL (l.getD (j+1) 0) n=qhI l n (j+1):=rfl
   rw[hy]at hsym
   generalize qhI l n (j+1)=y at *
   generalize J8 l n j=pl at *
   obtain ⟨ynm,ylt,ynu,yat⟩:=y
   by_cases hmid:i<x.inner.length∧j=0∧(x.inner.getD i 0).tmod 3=1
   · have hgi:=getD_some (d:=(0:Int)) hmid.1
     have hmb:qdG x.inner i=true:=by unfold qdG;rw[Bool.and_eq_true,decide_eq_true_eq,decide_eq_true_eq];exact⟨hmid.1,hmid.2.2⟩
     rw[if_pos ⟨hmid.2.1,hmb⟩]at hps
     cases pl<;>cases ylt
     all_goals
      repeat' with_reducible first
       |refine s_ ?_
       |simp -implicitDefEqProofs only[wZZ,seval,g1,g2,g3,g4,g5,g7,g8,g9,g11,f1,f3,f7,f9,hpl2,hx1,o1,hzj,qb hPa,qb hPx]
       |(first|apply qa|apply qw|apply qp)<;>intro h h_<;>(try simp only[wD,reduceCtorEq]at h_)<;>(try exact wb_)<;>(try simp only[h])
       |refine t_ ?_
       |refine cq2 hsym qf qf ?_
       |apply qZ rfl (GP.mono (Nat.le_refl _) (fun id h1 h2=>by(try simp only[wM]);(repeat rw[if_neg o_])));(focus(first|exact qP.sl|exact qP.asl));(focus(simp only[wZ]<;>omega));(focus(unfold maxLen;simp only[wZ]<;>omega))
       |apply qkJ;(focus((try simp only[wM]);(repeat first|rw[if_pos trivial]|rw[if_pos rfl]|rw[if_neg o_]);(try rfl)));exact qP.sl;(focus(simp only[wZ]<;>omega));(focus(unfold maxLen;simp only[wZ]<;>omega))
       |simp -implicitDefEqProofs (disch:=omega) only[w64,if_neg]
     all_goals
      refine⟨by(try simp only[wN])<;>omega,j+1,o_,trivial,trivial,trivial,trivial,trivial,trivial,trivial,trivial,rfl,o_,o_,?_⟩
      apply AltAt.mk1
      · simp only[wM];(repeat first|rw[if_pos trivial]|rw[if_pos rfl]|rw[if_neg o_]);(try exact rfl)
      · exact Gr.tok wc_ wg_
      · rw[hps];(repeat rw[List.map_append]);refine(eP.snoc ?_).snoc ?_<;>exact qf
      · intro q hq;cases hq;omega
      · (simp -implicitDefEqProofs only[wL,seval]);rw[hpp];exact rfl
      · intro t ht;simp only[wL];(repeat first|rw[if_pos rfl]|rw[if_neg o_]);exact hfl t ht
      · intro q h1 h2;simp only[wM];(repeat first|rw[if_pos trivial]|rw[if_pos rfl]|rw[if_neg o_]|rw[qb (fun e=>by have:=hfr _ e;omega)]);(try simp only[wM]);(repeat first|rw[if_pos trivial]|rw[if_pos rfl]|rw[if_neg o_]);exact hhp q h1 h2
      · ((try simp only[wN])<;>omega)
   · have hnm: ¬ (j=0∧qdG x.inner i=true):=fun e=>hmid (by
      have:=e.2
      unfold qdG at this
      rw[Bool.and_eq_true,decide_eq_true_eq,decide_eq_true_eq]at this
      exact⟨this.1,e.1,this.2⟩)
     rw[if_neg hnm,List.append_nil]at hps
     by_cases hin:i<x.inner.length
     · have hgi:=getD_some (d:=(0:Int)) hin
       by_cases hj0:j=0
       · have htm: ¬ (x.inner.getD i 0).tmod 3=1:=fun e=>hmid ⟨hin,hj0,e⟩
         clear hmid hnm
         cases pl<;>cases ylt
         all_goals
          repeat' with_reducible first
           |refine s_ ?_
           |simp -implicitDefEqProofs only[wZZ,seval,g1,g2,g3,g4,g5,g7,g8,g9,g11,f1,f3,f7,f9,hpl2,hx1,o1,hzj,qb hPa,qb hPx]
           |(first|apply qa|apply qw|apply qp)<;>intro h h_<;>(try simp only[wD,reduceCtorEq]at h_)<;>(try exact wb_)<;>(try simp only[h])
           |refine t_ ?_
           |refine cq2 hsym qf qf ?_
           |apply qZ rfl (GP.mono (Nat.le_refl _) (fun id h1 h2=>by(try simp only[wM]);(repeat rw[if_neg o_])));(focus(first|exact qP.sl|exact qP.asl));(focus(simp only[wZ]<;>omega));(focus(unfold maxLen;simp only[wZ]<;>omega))
           |simp -implicitDefEqProofs (disch:=omega) only[w64,if_neg]
         all_goals
          refine⟨by(try simp only[wN])<;>omega,j+1,o_,trivial,trivial,trivial,trivial,trivial,trivial,trivial,trivial,rfl,o_,o_,?_⟩
          apply AltAt.mk1
          · simp only[wM];(repeat first|rw[if_pos trivial]|rw[if_pos rfl]|rw[if_neg o_]);(try exact rfl)
          · exact Gr.tok wc_ wg_
          · rw[hps];(repeat rw[List.map_append]);refine eP.snoc ?_<;>exact qf
          · intro q hq;cases hq;omega
          · (simp -implicitDefEqProofs only[wL,seval]);rw[hpp];exact rfl
          · intro t ht;simp only[wL];(repeat first|rw[if_pos rfl]|rw[if_neg o_]);exact hfl t ht
          · intro q h1 h2;simp only[wM];(repeat first|rw[if_pos trivial]|rw[if_pos rfl]|rw[if_neg o_]|rw[qb (fun e=>by have:=hfr _ e;omega)]);(try simp only[wM]);(repeat first|rw[if_pos trivial]|rw[if_pos rfl]|rw[if_neg o_]);exact hhp q h1 h2
          · ((try simp only[wN])<;>omega)
       · clear hmid hnm
         cases pl<;>cases ylt
         all_goals
          repeat' with_reducible first
           |refine s_ ?_
           |simp -implicitDefEqProofs only[wZZ,seval,g1,g2,g3,g4,g5,g7,g8,g9,g11,f1,f3,f7,f9,hpl2,hx1,o1,hzj,qb hPa,qb hPx]
           |(first|apply qa|apply qw|apply qp)<;>intro h h_<;>(try simp only[wD,reduceCtorEq]at h_)<;>(try exact wb_)<;>(try simp only[h])
           |refine t_ ?_
           |refine cq2 hsym qf qf ?_
           |apply qZ rfl (GP.mono (Nat.le_refl _) (fun id h1 h2=>by(try simp only[wM]);(repeat rw[if_neg o_])));(focus(first|exact qP.sl|exact qP.asl));(focus(simp only[wZ]<;>omega));(focus(unfold maxLen;simp only[wZ]<;>omega))
           |simp -implicitDefEqProofs (disch:=omega) only[w64,if_neg]
         all_goals
          refine⟨by(try simp only[wN])<;>omega,j+1,o_,trivial,trivial,trivial,trivial,trivial,trivial,trivial,trivial,rfl,o_,o_,?_⟩
          apply AltAt.mk1
          · simp only[wM];(repeat first|rw[if_pos trivial]|rw[if_pos rfl]|rw[if_neg o_]);(try exact rfl)
          · exact Gr.tok wc_ wg_
          · rw[hps];(repeat rw[List.map_append]);refine eP.snoc ?_<;>exact qf
          · intro q hq;cases hq;omega
          · (simp -implicitDefEqProofs only[wL,seval]);rw[hpp];exact rfl
          · intro t ht;simp only[wL];(repeat first|rw[if_pos rfl]|rw[if_neg o_]);exact hfl t ht
          · intro q h1 h2;simp only[wM];(repeat first|rw[if_pos trivial]|rw[if_pos rfl]|rw[if_neg o_]|rw[qb (fun e=>by have:=hfr _ e;omega)]);(try simp only[wM]);(repeat first|rw[if_pos trivial]|rw[if_pos rfl]|rw[if_neg o_]);exact hhp q h1 h2
          · ((try simp only[wN])<;>omega)
     · have hgi:x.inner[i]?=none:=List.getElem?_eq_none o_
       clear hmid hnm
       cases pl<;>cases ylt
       all_goals
        repeat' with_reducible first
         |refine s_ ?_
         |simp -implicitDefEqProofs only[wZZ,seval,g1,g2,g3,g4,g5,g7,g8,g9,g11,f1,f3,f7,f9,hpl2,hx1,o1,hzj,qb hPa,qb hPx]
         |(first|apply qa|apply qw|apply qp)<;>intro h h_<;>(try simp only[wD,reduceCtorEq]at h_)<;>(try exact wb_)<;>(try simp only[h])
         |refine t_ ?_
         |refine cq2 hsym qf qf ?_
         |apply qZ rfl (GP.mono (Nat.le_refl _) (fun id h1 h2=>by(try simp only[wM]);(repeat rw[if_neg o_])));(focus(first|exact qP.sl|exact qP.asl));(focus(simp only[wZ]<;>omega));(focus(unfold maxLen;simp only[wZ]<;>omega))
         |simp -implicitDefEqProofs (disch:=omega) only[w64,if_neg]
       all_goals
        refine⟨by(try simp only[wN])<;>omega,j+1,o_,trivial,trivial,trivial,trivial,trivial,trivial,trivial,trivial,rfl,o_,o_,?_⟩
        apply AltAt.mk1
        · simp only[wM];(repeat first|rw[if_pos trivial]|rw[if_pos rfl]|rw[if_neg o_]);(try exact rfl)
        · exact Gr.tok wc_ wg_
        · rw[hps];(repeat rw[List.map_append]);refine eP.snoc ?_<;>exact qf
        · intro q hq;cases hq;omega
        · (simp -implicitDefEqProofs only[wL,seval]);rw[hpp];exact rfl
        · intro t ht;simp only[wL];(repeat first|rw[if_pos rfl]|rw[if_neg o_]);exact hfl t ht
        · intro q h1 h2;simp only[wM];(repeat first|rw[if_pos trivial]|rw[if_pos rfl]|rw[if_neg o_]|rw[qb (fun e=>by have:=hfr _ e;omega)]);(try simp only[wM]);(repeat first|rw[if_pos trivial]|rw[if_pos rfl]|rw[if_neg o_]);exact hhp q h1 h2
        · ((try simp only[wN])<;>omega)
 · have hjm:j=min 4 (l.length - 1):=o_
   have hpl2:=hpl
   have hps:(qdj l n x.inner i).parts=jB l n (qdG x.inner i) j++(if qGd x.inner i=true then[{code:=XD}]else[]):=by unfold qdj;rw[hjm]
   have hpp:Kv l n=J8 l n j:=by unfold Kv;rw[hjm]
   rw[hpp]at hQ
   by_cases hend:qGd x.inner i=true
   · have h2:=hend
     unfold qGd at h2
     rw[Bool.and_eq_true,decide_eq_true_eq,Bool.not_eq_true',decide_eq_false_iff_not]at h2
     have hin:=h2.1
     have htm:=h2.2
     have hgi:=getD_some (d:=(0:Int)) hin
     rw[if_pos hend]at hps
     repeat' with_reducible first
      |refine s_ ?_
      |simp -implicitDefEqProofs only[wZZ,seval,g1,g2,g3,g4,g5,g7,g8,g9,g11,f1,f3,f7,f9,hpl2,hx1,o1,hzj,qb hPa,qb hPx]
      |(first|apply qa|apply qw|apply qp)<;>intro h h_<;>(try simp only[wD,reduceCtorEq]at h_)<;>(try exact wb_)<;>(try simp only[h])
      |refine t_ ?_
      |apply qZ rfl (GP.mono (Nat.le_refl _) (fun id h1 h2=>by(try simp only[wM]);(repeat rw[if_neg o_])));(focus(first|exact qP.sl|exact qP.asl));(focus(simp only[wZ]<;>omega));(focus(unfold maxLen;simp only[wZ]<;>omega))
      |simp -implicitDefEqProofs (disch:=omega) only[w64,if_neg]
     all_goals
      refine hQ _ ?_
      apply AltAt.mk1
      · simp only[wM];(repeat first|rw[if_pos trivial]|rw[if_pos rfl]|rw[if_neg o_]);(try exact rfl)
      · exact Gr.tok wc_ wg_
      · rw[hps];(repeat rw[List.map_append]);refine eP.snoc ?_<;>exact qf
      · intro q hq;cases hq;omega
      · (simp -implicitDefEqProofs only[wL,seval,hpl])
      · intro t ht;simp only[wL];(repeat first|rw[if_pos rfl]|rw[if_neg o_]);exact hfl t ht
      · intro q h1 h2;simp only[wM];(repeat first|rw[if_pos trivial]|rw[if_pos rfl]|rw[if_neg o_]|rw[qb (fun e=>by have:=hfr _ e;omega)]);(try simp only[wM]);(repeat first|rw[if_pos trivial]|rw[if_pos rfl]|rw[if_neg o_]);exact hhp q h1 h2
      · ((try simp only[wN])<;>omega)
   · have h2:=hend
     rw[if_neg hend,List.append_nil]at hps
     by_cases hin:i<x.inner.length
     · have hgi:=getD_some (d:=(0:Int)) hin
       have htm:(x.inner.getD i 0).tmod 2=0:=by
        refine Classical.byContradiction fun h=>hend ?_
        unfold qGd
        rw[Bool.and_eq_true,decide_eq_true_eq,Bool.not_eq_true',decide_eq_false_iff_not]
        exact⟨hin,h⟩
       repeat' with_reducible first
        |refine s_ ?_
        |simp -implicitDefEqProofs only[wZZ,seval,g1,g2,g3,g4,g5,g7,g8,g9,g11,f1,f3,f7,f9,hpl2,hx1,o1,hzj,qb hPa,qb hPx]
        |(first|apply qa|apply qw|apply qp)<;>intro h h_<;>(try simp only[wD,reduceCtorEq]at h_)<;>(try exact wb_)<;>(try simp only[h])
        |refine t_ ?_
       all_goals
        refine hQ _ ?_
        apply AltAt.mk1
        · simp only[wM];exact o1
        · exact GP.mono wg_ (fun q _ _=>by simp only[wM])
        · rw[hps];exact eP
        · exact hfr
        · (simp -implicitDefEqProofs only[wL,seval,hpl])
        · intro t ht;simp only[wL];(repeat first|rw[if_pos rfl]|rw[if_neg o_]);exact hfl t ht
        · intro q h1 h2;simp only[wM];exact hhp q h1 h2
        · ((try simp only[wN])<;>omega)
     · repeat' with_reducible first
        |refine s_ ?_
        |simp -implicitDefEqProofs only[wZZ,seval,g1,g2,g3,g4,g5,g7,g8,g9,g11,f1,f3,f7,f9,hpl2,hx1,o1,hzj,qb hPa,qb hPx]
        |(first|apply qa|apply qw|apply qp)<;>intro h h_<;>(try simp only[wD,reduceCtorEq]at h_)<;>(try exact wb_)<;>(try simp only[h])
        |refine t_ ?_
       all_goals
        refine hQ _ ?_
        apply AltAt.mk1
        · simp only[wM];exact o1
        · exact GP.mono wg_ (fun q _ _=>by simp only[wM])
        · rw[hps];exact eP
        · exact hfr
        · (simp -implicitDefEqProofs only[wL,seval,hpl])
        · intro t ht;simp only[wL];(repeat first|rw[if_pos rfl]|rw[if_neg o_]);exact hfl t ht
        · intro q h1 h2;simp only[wM];exact hhp q h1 h2
        · ((try simp only[wN])<;>omega)

@[reducible] def qYF (vA:Nat→V) (k:Nat):V:= .agg [.str (qat k),vA k,vi 0]
def qcG (n:Nat) (vA:Nat→V):List V:=(List.range n).map (qYF vA)
theorem kW (n:Nat) (vA:Nat→V):(qcG n vA).length=n:=by simp[qcG]
theorem xG {n k:Nat} {vA:Nat→V} (h:k<n):(qcG n vA)[k]?=some (.agg [.str (qat k),vA k,vi 0]):=by simp[qcG,h]
theorem qbL {n k:Nat} {vA:Nat→V} {v:V} (h:k<n):(qcG n vA).set k (.agg [.str (qat k),v,vi 0])=qcG n (qJ vA k v):=by
 refine List.ext_getElem? fun i=>?_
 rw[List.getElem?_set]
 by_cases hi:i<n
 · rw[xG hi,kW,xG hi]
   by_cases e:k=i
   · subst e;simp[hi,qJ]
   · simp[e,qJ,Ne.symm e]
 · rw[List.getElem?_eq_none (by rw[kW];omega),List.getElem?_eq_none (by rw[kW];omega)]
   rw[kW];simp;omega
theorem qgQ (n:Nat) (vA:Nat→V):qcG (n+1) vA=qcG n vA++[qYF vA n]:=by unfold qcG;rw[List.range_succ,List.map_append];rfl
def vV (n:Nat) (h:Nat→Bool):List V:=(List.range n).map fun k=>V.bool (h k)
theorem yH (n:Nat) (h:Nat→Bool):(vV n h).length=n:=by simp[vV]
theorem Qe {n k:Nat} {h:Nat→Bool} (hk:k<n):(vV n h)[k]?=some (.bool (h k)):=by simp[vV,hk]
theorem qir {n k:Nat} {h:Nat→Bool} {v:Bool} (hk:k<n):(vV n h).set k (.bool v)=vV n (qJ h k v):=by
 refine List.ext_getElem? fun i=>?_
 rw[List.getElem?_set]
 by_cases hi:i<n
 · rw[Qe hi,yH,Qe hi]
   by_cases e:k=i
   · subst e;simp[hi,qJ]
   · simp[e,qJ,Ne.symm e]
 · rw[List.getElem?_eq_none (by rw[yH];omega),List.getElem?_eq_none (by rw[yH];omega)]
   rw[yH];simp;omega
theorem qgO (n:Nat):List.replicate n (V.bool false)=vV n (fun _=>false):=by
 refine List.ext_getElem? fun i=>?_
 by_cases h:i<n
 · rw[Qe h];simp[h]
 · rw[List.getElem?_eq_none (by simp;omega),List.getElem?_eq_none (by rw[yH];omega)]
theorem ldB {K:V→Prop} {nn k:Nat} {S:Nat→Bool} {ro:Bool} (h:k<nn) (hk:K (.bool (S k))):onS (ldQ (some (.own 1 (vV nn S) ro)) false 1 k 0) K:=by
 have e:ldQ (some (.own 1 (vV nn S) ro)) false 1 k 0=some (.bool (S k)):=by simp[ldQ,Qe h,jw,V.isAgg]
 rw[e];exact hk
theorem stB {K:St→Prop} {s:St} {nn k id:Nat} {x:Bool} {S:Nat→Bool} (h:k<nn) (hk:K (s.setO id (some (.own 1 (vV nn (qJ S k x)) false)))):onS (stQ s (some (.own 1 (vV nn S) false)) 1 id k 0 (.bool x)) K:=by
 have e:stQ s (some (.own 1 (vV nn S) false)) 1 id k 0 (.bool x)=some (s.setO id (some (.own 1 (vV nn (qJ S k x)) false))):=by
  rw[← qir h]
  simp[stQ,Qe h,V.cells,V.okCell,jf,V.isAgg]
 rw[e];exact hk
structure RW (H:Nat→Option MObj) (next rid n:Nat) (vA:Nat→V) (als:Nat→List V) (alts:Nat→List Alt):Prop where
 ho:H rid=some (.own 3 (qcG n vA) false)
 lr:rid<next
 gr: ∀k,k<n→Gr H next 6 (als k) (vA k)
 ep: ∀k,k<n→ZM (als k) ((alts k).map Alt.V)
 sep: ∀j k,j<n→k<n→j≠k→Sep (vA j) (vA k)
 len: ∀k,k<n→(als k).length≤100
theorem RW.mono {H H':Nat→Option MObj} {next next' rid n:Nat} {vA:Nat→V} {als:Nat→List V} {alts:Nat→List Alt} (h:RW H next rid n vA als alts) (hn:next≤next') (hr:H' rid=H rid) (hH: ∀k,k<n→ ∀j,gid (vA k)=some j→j<next→H' j=H j):RW H' next' rid n vA als alts:=
 ⟨by rw[hr];exact h.ho,by have:=h.lr;omega,fun k hk=>(h.gr k hk).mono hn (hH k hk),h.ep,h.sep,h.len⟩
theorem RW.ne {H:Nat→Option MObj} {next rid n:Nat} {vA:Nat→V} {als:Nat→List V} {alts:Nat→List Alt} (h:RW H next rid n vA als alts) {j:Nat} (hj: ∀f,H j≠some (.tok f)) {k:Nat} (hk:k<n):gid (vA k)≠some j:=(h.gr k hk).ne hj
theorem RW.put {H H':Nat→Option MObj} {next next' rid n k id:Nat} {vA:Nat→V} {als:Nat→List V} {alts:Nat→List Alt} {v:V} {a:Alt} (h:RW H next rid n vA als alts) (hk:k<n) (hv:ErP v a.V)
 (hl:(als k).length<100) (hid:next≤id) (hid2:id<next') (hr:H' rid=some (.own 3 (qcG n (qJ vA k (.asl id ((als k).length+1) 6 (als k++[v])))) false)) (ht:H' id=some (.tok ((als k).length+1)))
 (hH: ∀q,q<n→q≠k→ ∀j,gid (vA q)=some j→j<next→H' j=H j):
 RW H' next' rid n (qJ vA k (.asl id ((als k).length+1) 6 (als k++[v]))) (qJ als k (als k++[v])) (qJ alts k (alts k++[a])):=by
 refine⟨hr,by have:=h.lr;omega,fun q hq=>?_,fun q hq=>?_,fun j q hj hq hjq=>?_,fun q hq=>?_⟩
 · unfold qJ
   by_cases e:q=k
   · subst e;simp only[if_true];exact Gr.tok ht hid2
   · simp only[if_neg e];exact(h.gr q hq).mono o_ (hH q hq e)
 · unfold qJ
   by_cases e:q=k
   · subst e;simp only[if_true];rw[List.map_append];exact(h.ep q hq).snoc hv
   · simp only[if_neg e];exact h.ep q hq
 · unfold qJ
   by_cases e:j=k
   · subst e;simp only[if_true,if_neg (Ne.symm hjq)];exact Sep.newL (h.gr q hq) hid
   · by_cases e2:q=k
     · subst e2;simp only[if_true,if_neg hjq];exact Sep.newR (h.gr j hj) hid
     · simp only[if_neg e,if_neg e2];exact h.sep j q hj hq hjq
 · unfold qJ
   by_cases e:q=k
   · subst e;simp only[if_true,List.length_append,List.length_cons,List.length_nil];omega
   · simp only[if_neg e];exact h.len q hq
def kJ (x:GrI) (n:Nat) (i:Nat) (q:(Nat→List Alt)×(Nat→Bool)):(Nat→List Alt)×(Nat→Bool):=
 let l:=x.rules.getD i []
 if l=[]then q else
  let k:=(l.getD 0 0 % n).toNat
  (qJ q.1 k (q.1 k++[qdj l n x.inner i]),qJ q.2 k (q.2 k || Kv l n))
def zu (x:GrI) (n:Nat):Nat→(Nat→List Alt)×(Nat→Bool)
 |0=>(fun _=>[],fun _=>false)
 |i+1=>kJ x n i (zu x n i)
def Xp (bare:Bool) (q:(Nat→List Alt)×(Nat→Bool)) (k:Nat):List Alt:=if q.1 k=[]∨(q.2 k=false∧bare=false)then q.1 k++[{parts:=[{sym:=vI k}]}]else q.1 k
def vQ (x:GrI):Nat:=(1+x.nons % 4).toNat
def zw (x:GrI):Source:=
 {decls:=vv x.levels,rules:=(List.range (vQ x)).map fun(k:Nat)=>{left:=qat k,alts:=Xp x.bare (zu x (vQ x) (min 9 x.rules.length)) k}}

def zT (token:Bool) (h:Nat→Bool) (l:List Int):Bool:=l.all fun s=>if s<1000 then token else h (s - 1000).toNat
def vX (g:Grammar) (token:Bool) (E:Nat→Bool):Prop:= ∀p∈g.prods,zT token E p.right=true→E p.left.toNat=true
structure IsGrow (g:Grammar) (token:Bool) (E:Nat→Bool):Prop where
 closed:vX g token E
 least: ∀F,vX g token F→ ∀k,E k=true→F k=true
theorem IsGrow.uniq {g:Grammar} {token:Bool} {E F:Nat→Bool} (h:IsGrow g token E) (k:IsGrow g token F):E=F:=by
 funext n
 rw[Bool.eq_iff_iff]
 exact⟨h.least F k.closed n,k.least E h.closed n⟩
theorem YE {token:Bool} {h F:Nat→Bool} (hh: ∀k,h k=true→F k=true) {l:List Int} (hl:zT token h l=true):zT token F l=true:=by
 unfold zT at *
 rw[List.all_eq_true]at *
 intro s hs
 have:=hl s hs
 split
 · rename_i h1;rwa [if_pos h1]at this
 · rename_i h1;rw[if_neg h1]at this;exact hh _ this
theorem qdx {token:Bool} {h:Nat→Bool} {l:List Int} {i:Nat} (hi:i<l.length) (ht: ∀s∈l.take i,(if s<1000 then token else h (s - 1000).toNat)=true):(if l[i]<1000 then token else h (l[i] - 1000).toNat)=false→zT token h l=false:=fun hf=>
 List.all_eq_false.2 ⟨l[i],List.getElem_mem hi,by rw[hf];exact Bool.false_ne_true⟩
def cf (h:Nat→Bool):Nat→Nat
 |0=>0
 |n+1=>cf h n+if h n=true then 0 else 1
theorem qgK {h:Nat→Bool} {k:Nat} (hk:h k=false): ∀n,(n≤k→cf (qJ h k true) n=cf h n)∧(k<n→cf (qJ h k true) n+1=cf h n)
 |0=>⟨fun _=>rfl,fun h=>by omega⟩
 | n +1=>by
   obtain ⟨h1,h2⟩:=qgK hk n
   unfold cf
   by_cases e:n=k
   · subst e
     have e2:qJ h n true n=true:=by unfold qJ;rw[if_pos rfl]
     rw[e2,h1 (Nat.le_refl _),hk]
     exact⟨fun h=>by omega,fun _=>by simp⟩
   · have e2:qJ h k true n=h n:=by unfold qJ;rw[if_neg e]
     rw[e2]
     exact⟨fun h=>by rw[h1 o_],fun h=>by have:=h2 o_;omega⟩
theorem Y2 (n:Nat) (h:Nat→Bool):Cls' (vV n h):=inferInstanceAs (Cls' (List.map _ _))
theorem qjf {P:Program} [Glob P] {cls:Cls} {id:Nat} {s:St} {K:V→St→Prop} {f a:Opd} {fid:FuncId} {caps as':List V} {x res:V} (hf:ev s f=.fn fid caps) (ha:ev s a=x) (hc:(cls == .r)=false) (hE:Ers true s.H (x::caps) as') (hp:Pure P fid as' res) (hfl:Flat res) (hk:K res s):qd P cls id s K (.call f [a]):=by
 show (match funArgs (ev s f) ([a].map (ev s))with
  | some (fid,w0)=>
    (∃bor as' res,(cls=.r→bor=false)∧Ers bor s.H w0 as'∧Pure P fid as' res∧(bor=true→Flat res)∧K res s)∨
    (qnx cls=true∧zl P fid w0 s.H s.next fun v H' next'=>Yo cls s.next s.H H' next'∧K v {s with H:=H',next:=next'})
  |none=>False)
 rw[hf]
 subst ha
 exact Or.inl ⟨true,as',res,fun e=>(by subst e;cases hc),hE,hp,fun _=>hfl,hk⟩
theorem qaJ {p:GPr} {token:Bool} {h:Nat→Bool} {n:Nat} (hr: ∀s∈p.right,s<1000∨ ∃k:Nat,s=1000+(k:Int)∧k<n) (hl:p.right.length≤1000000) (hn:n≤1000000):Pure Tryz.prog 136 [p.V,.iptr 1 (.bool token) 0,.iptr 1 (.sl 1 false (vV n h)) 0] (.bool (zT token h p.right)):=by
 refine pure_intro Tryz.func136 nm_ qfQ (by show 3≤33;decide) ?_
 show ewp _ qgv _ _
 repeat' with_reducible first
  |refine s_ ?_
  |simp -implicitDefEqProofs only[wZZ,seval]
  |refine t_ ?_
 refine qc ?nx1 (fun(i:Nat) s=>s.f 1=?v1_1∧s.f 2=?v1_2∧s.f 8=?v1_8∧s.f 9=?v1_9∧s.f 10=vi i∧(i≤p.right.length)∧(∀s∈p.right.take i,(if s<1000 then token else h (s - 1000).toNat)=true)) (fun i=>p.right.length - i) (0) wj_ (by refine⟨?_,?_,?_,?_,?_,wo_,wo_⟩<;>first|(simp -implicitDefEqProofs only[wL,wM,wN,wX,seval,Option.some.injEq]<;>exact wt_)|rfl|exact⟨_,rfl⟩) ?_
 intro i s hnx ⟨g1,g2,g8,g9,g10,k1_0,k1_1⟩
 have hz:=w1_ i
 by_cases hi:i<p.right.length
 · have hst:=qdx hi k1_1
   have hnx:(if p.right[i]<1000 then token else h (p.right[i] - 1000).toNat)=true→ ∀s∈p.right.take (i+1),(if s<1000 then token else h (s - 1000).toNat)=true:=fun hh s hs=>by
    rw[List.take_add_one,ge_ hi]at hs
    rcases List.mem_append.1 hs with hs|hs
    · exact k1_1 s hs
    · simp at hs;subst hs;exact hh
   rcases hr _ (List.getElem_mem hi)with hs|⟨k,hk,hkn⟩
   · rw [if_pos hs]at hst hnx
     cases token with
     | true=>
       repeat' with_reducible first
        |refine s_ ?_
        |simp -implicitDefEqProofs only[wZZ,seval,g1,g2,g8,g9,g10,hz]
        |(first|apply qa|apply qw|apply qp)<;>intro h h_<;>(try simp only[wD,reduceCtorEq]at h_)<;>(try exact wb_)<;>(try simp only[h])
        |refine t_ ?_
       refine⟨wk_,i+1,o_,?_⟩
       refine⟨?_,?_,?_,?_,?_,?_,?_⟩
       iterate 5 (focus(first|(simp -implicitDefEqProofs only[wL,wM,wN,wX,seval,Option.some.injEq,g1,g2,g8,g9,g10]<;>exact wt_)|rfl|exact⟨_,rfl⟩))
       all_goals try omega
       exact hnx rfl
     | false=>
       rw[hst rfl]
       repeat' with_reducible first
        |refine s_ ?_
        |simp -implicitDefEqProofs only[wZZ,seval,g1,g2,g8,g9,g10,hz]
        |(first|apply qa|apply qw|apply qp)<;>intro h h_<;>(try simp only[wD,reduceCtorEq]at h_)<;>(try exact wb_)<;>(try simp only[h])
        |refine t_ ?_
       refine qx rfl (Or.inr rfl) ?_
       simp -implicitDefEqProofs only[wL,seval,g1,g2,g8,g9,g10]
       refine er_ ?_
       try(with_reducible rfl)
   · have hz2:IntKind.i64.wrap (1000+(k:Int) - 1000)=(k:Int):=by rw[wrap64 o_ o_];omega
     rw[if_neg o_,hk,show ((1000+(k:Int)) - 1000).toNat=k by omega]at hst hnx
     have hbg:=Qe (h:=h) hkn
     cases hb:h k with
     | true=>
       repeat' with_reducible first
        |refine s_ ?_
        |simp -implicitDefEqProofs only[wZZ,seval,g1,g2,g8,g9,g10,hz,hk,hz2,hb]
        |(first|apply qa|apply qw|apply qp)<;>intro h h_<;>(try simp only[wD,reduceCtorEq]at h_)<;>(try exact wb_)<;>(try simp only[h])
        |(apply Ym (qkc o_ (by with_unfolding_all exact hbg)))
        |refine t_ ?_
       refine⟨wk_,i+1,o_,?_⟩
       refine⟨?_,?_,?_,?_,?_,?_,?_⟩
       iterate 5 (focus(first|(simp -implicitDefEqProofs only[wL,wM,wN,wX,seval,Option.some.injEq,g1,g2,g8,g9,g10]<;>exact wt_)|rfl|exact⟨_,rfl⟩))
       all_goals try omega
       exact hnx hb
     | false=>
       rw[hst hb]
       repeat' with_reducible first
        |refine s_ ?_
        |simp -implicitDefEqProofs only[wZZ,seval,g1,g2,g8,g9,g10,hz,hk,hz2,hb]
        |(first|apply qa|apply qw|apply qp)<;>intro h h_<;>(try simp only[wD,reduceCtorEq]at h_)<;>(try exact wb_)<;>(try simp only[h])
        |(apply Ym (qkc o_ (by with_unfolding_all exact hbg)))
        |refine t_ ?_
       refine qx rfl (Or.inr rfl) ?_
       simp -implicitDefEqProofs only[wL,seval,g1,g2,g8,g9,g10]
       refine er_ ?_
       try(with_reducible rfl)
 · rw[List.take_of_length_le o_]at k1_1
   have e:zT token h p.right=true:=List.all_eq_true.2 k1_1
   rw[e]
   repeat' with_reducible first
    |refine s_ ?_
    |simp -implicitDefEqProofs only[wZZ,seval,g1,g2,g8,g9,g10]
    |apply qa<;>intro h h_<;>(try simp only[wD,reduceCtorEq]at h_)<;>(try exact wb_)<;>(try simp only[h])
   refine qx rfl (Or.inr rfl) ?_
   simp -implicitDefEqProofs only[wL,seval,g1,g2,g8,g9,g10]
   refine er_ ?_
   try(with_reducible rfl)

theorem qgg {H:Nat→Option MObj} {id sz:Nat} {ro:Bool} {e e':V} (hH:H id=some (.own sz [e] ro)) (h:Er true H e e'):Er true H (.ptr id 0 0) (.iptr sz e' 0):= .ptr id 0 0 sz _ ro _ _ rfl hH rfl h
theorem VS {H:Nat→Option MObj} {id n:Nat} {ro:Bool} {h:Nat→Bool} (hH:H id=some (.own 1 (vV n h) ro)):Er true H (.msl id 1 0 n) (.sl 1 false (vV n h)):=by
 have:=Y2 n h
 exact kM hH (by rw[yH];omega) (by rw[List.drop_zero];exact List.take_of_length_le (by rw[yH];omega))
instance gpr_cl (p:GPr):Cl p.V:=⟨fun b H=>ErL.agg (.cons (.int _ _) (.cons qf (.cons (.int _ _) (.cons (.str _) (.cons qf (.cons (.int _ _) .nil))))))⟩
theorem GOk.rt {g:Grammar} (h:GOk g) {p:GPr} (hp:p∈g.prods): ∀s∈p.right,s<1000∨ ∃k:Nat,s=1000+(k:Int)∧k<g.nons.length:=fun s hs=>by
 rcases h.right p hp s hs with ⟨t,e,l⟩|⟨k,e,l⟩
 · have:=h.tk2;exact Or.inl o_
 · exact Or.inr ⟨k,e,l⟩
theorem X7 {g:Grammar} {token:Bool} (hg:GOk g): ∃E,IsGrow g token E∧Pure Tryz.prog 120 [g.V,.bool token] (.sl 1 false (vV g.nons.length E)):=by
 have hh:=qg6 (G:=fun v=> ∃E,v=.sl 1 false (vV g.nons.length E)∧IsGrow g token E) (args:=[g.V,.bool token]) Tryz.func120 nm_ qgb (by show 2≤40;decide) ?_
 · obtain ⟨v,⟨E,rfl,h⟩,h2⟩:=hh
   exact⟨E,h,h2⟩
 show ewp _ qe9 _ _
 have hnl:=hg.nn2;have hpl:=hg.pl2
 have hb0:=qgO g.nons.length
 repeat' with_reducible first
  |refine s_ ?_
  |simp -implicitDefEqProofs only[wZZ,seval]
  |refine t_ ?_
  |apply qmi;exact wu_;exact wu_;exact wu_
  |apply qaU;exact wf_;exact wf_;(focus(unfold maxLen;first|omega|(simp only[wZ]<;>omega)))
 rw[hb0]
 refine qc ?nx1 (fun(q:(Nat→Bool)×Bool) s=>s.f 2=?v1_2∧s.f 5=?v1_5∧s.f 6=?v1_6∧s.H 0=some (MObj.own 5 [g.V] false)∧s.H 1=some (MObj.own 1 [.bool token] false)∧s.H 7=some (MObj.own 1 [.msl 6 1 0 g.nons.length] false)∧s.f 7=.bool q.2∧((s.H 6=some (MObj.own 1 (vV g.nons.length q.1) false)))∧((∀F,vX g token F→ ∀k,q.1 k=true→F k=true))∧((q.2=false→vX g token q.1))) (fun q=>2 *cf q.1 g.nons.length+(if q.2=true then 1 else 0)) ((fun _=>false,true)) wj_ (by refine⟨?_,?_,?_,?_,?_,?_,?_,wc_,(by intro F _ k h;cases h),(by intro h;cases h)⟩<;>first|(simp -implicitDefEqProofs only[wL,wM,wN,wX,seval,Option.some.injEq]<;>exact wt_)|rfl|exact⟨_,rfl⟩) ?_
 intro q s hnx ⟨g2,g5,g6,o0,o1,o2,g7,k1_0,k1_1,k1_2⟩
 obtain ⟨h,b⟩:=q
 dsimp only at *
 cases b with
 | false=>
   have hcl:=k1_2 rfl
   repeat' with_reducible first
    |refine s_ ?_
    |simp -implicitDefEqProofs only[wZZ,seval,g2,g5,g6,g7,o0,o1,o2,k1_0]
    |apply qbo;exact wu_
   refine⟨_,⟨h,rfl,hcl,k1_1⟩,Or.inr rfl,.msl 6 1 0 g.nons.length,?_,VS (ro:=false) ?_⟩
   · show qcZ _ [.inl 4]=_
     simp[qcZ,qdq,one,wL]
   · (simp only[wM];(repeat first|rw[if_pos trivial]|rw[if_pos rfl]|rw[if_neg o_]));exact k1_0
 | true =>
   repeat' with_reducible first
    |refine s_ ?_
    |simp -implicitDefEqProofs only[wZZ,seval,g2,g5,g6,g7,o0,o1,o2,k1_0]
    |refine t_ ?_
   refine qc ?nx2 (fun(r:Nat×(Nat→Bool)×Bool) s=>s.f 2=?v2_2∧s.f 5=?v2_5∧s.f 6=?v2_6∧s.f 17=?v2_17∧s.f 18=?v2_18∧s.H 0=some (MObj.own 5 [g.V] false)∧s.H 1=some (MObj.own 1 [.bool token] false)∧s.H 7=some (MObj.own 1 [.msl 6 1 0 g.nons.length] false)∧s.f 7=.bool r.2.2∧s.f 19=vi r.1∧(r.1≤g.prods.length)∧((s.H 6=some (MObj.own 1 (vV g.nons.length r.2.1) false)))∧((∀F,vX g token F→ ∀k,r.2.1 k=true→F k=true))∧((r.2.2=false→r.2.1=h∧ ∀p∈g.prods.take r.1,zT token h p.right=true→h p.left.toNat=true))∧((r.2.2=true→cf r.2.1 g.nons.length<cf h g.nons.length))) (fun r=>g.prods.length - r.1) ((0,h,false)) wj_ (by refine⟨?_,?_,?_,?_,?_,?_,?_,?_,?_,?_,wo_,(by(simp only[wM];(repeat first|rw[if_pos trivial]|rw[if_pos rfl]|rw[if_neg o_]));exact k1_0),(by exact k1_1),(by exact fun _=>⟨rfl,fun p hp=>by simp at hp⟩),(by intro h;cases h)⟩<;>first|(simp -implicitDefEqProofs only[wL,wM,wN,wX,seval,Option.some.injEq,g2,g5,g6,g7,o0,o1,o2]<;>exact wt_)|rfl|exact⟨_,rfl⟩) ?_
   intro r s hnx ⟨g2,g5,g6,g17,g18,o0,o1,o2,g7,g19,k2_0,k2_1,k2_2,k2_3,k2_4⟩
   obtain ⟨i,h',b'⟩:=r
   dsimp only at *
   have hz:=w1_ i
   by_cases hi:i<g.prods.length
   · have hmem:=List.getElem_mem hi
     obtain ⟨lf,hl1,hl2⟩:=hg.left _ hmem
     have hrt:=hg.rt hmem
     have hrl:=hg.rlen _ hmem
     have htk:g.prods.take (i+1)=g.prods.take i++[g.prods[i]]:=by rw[List.take_add_one,ge_ hi];rfl
     generalize hp:g.prods[i]=p at *
     have hcl:=qaJ (p:=p) (token:=token) (h:=h') (n:=g.nons.length) hrt o_ o_
     have hgp:g.prods[i]?=some p:=by rw[ge_ hi,hp]
     have hpm:p∈g.prods:=hp ▸ List.getElem_mem hi
     clear hp
     obtain ⟨pl,pr,pc,pco,pa,pat⟩:=p
     dsimp only at hl1 hrt hrl hcl
     subst hl1
     have hnew:(b'=false→h'=h∧ ∀p∈g.prods.take i,zT token h p.right=true→h p.left.toNat=true)→(zT token h' pr=true→h' lf=true)→(b'=false→h'=h∧ ∀p∈g.prods.take (i+1),zT token h p.right=true→h p.left.toNat=true):=fun q1 q2 hb=>by
      obtain ⟨e1,e2⟩:=q1 hb
      refine⟨e1,fun p hp hf=>?_⟩
      rw[htk]at hp
      rcases List.mem_append.1 hp with hp|hp
      · exact e2 p hp hf
      · rw[List.mem_singleton]at hp;subst hp
        subst e1
        exact q2 hf
     repeat' with_reducible first
      |refine s_ ?_
      |simp -implicitDefEqProofs only[wZZ,seval,g2,g5,g6,g17,g18,g7,g19,o0,o1,o2,k2_1,hz]
      |(first|apply qa|apply qw|apply qp)<;>intro h h_<;>(try simp only[wD,reduceCtorEq]at h_)<;>(try exact wb_)<;>(try simp only[h])
      |(refine ldB hl2 ?_)
      |refine t_ ?_
      |apply qbo;exact wu_
      |simp -implicitDefEqProofs (disch:=omega) only[w64,if_neg]
     · refine qjf (fid:=136) (caps:=[.ptr 1 0 0,.ptr 7 0 0]) (as':=[GPr.V {left:=lf,right:=pr,prec:=pc,code:=pco,args:=pa,at_:=pat},.iptr 1 (.bool token) 0,.iptr 1 (.sl 1 false (vV g.nons.length h')) 0]) (x:=GPr.V {left:=lf,right:=pr,prec:=pc,code:=pco,args:=pa,at_:=pat}) (by rfl) (by rfl) rfl ?_ hcl (Flat.bool _) ?_
       · refine zi qf (zi (qgg (ro:=false) (by(simp only[wM];(repeat first|rw[if_pos trivial]|rw[if_pos rfl]|rw[if_neg o_]));exact o1) (.bool _)) (zi (qgg (ro:=false) (by(simp only[wM];(repeat first|rw[if_pos trivial]|rw[if_pos rfl]|rw[if_neg o_]));exact o2) (VS (ro:=false) (by(simp only[wM];(repeat first|rw[if_pos trivial]|rw[if_pos rfl]|rw[if_neg o_]));exact k2_1))) yX))
       cases hfit:zT token h' pr with
       | true=>
         repeat' with_reducible first
          |refine s_ ?_
          |simp -implicitDefEqProofs only[wZZ,seval,g2,g5,g6,g17,g18,g7,g19,o0,o1,o2,k2_1,hz]
          |(refine stB hl2 ?_)
          |refine t_ ?_
          |apply qbo;exact wu_
          |simp -implicitDefEqProofs (disch:=omega) only[w64,if_neg]
         refine⟨wg_,(i+1,qJ h' lf true,true),by dsimp only;omega,trivial,trivial,trivial,trivial,trivial,trivial,trivial,trivial,rfl,rfl,by dsimp only;omega,rfl,fun F hF k hk=>?_,fun e=>(by cases e),fun _=>?_⟩
         · dsimp only at hk
           unfold qJ at hk
           split at hk
           · rename_i e;subst e
             exact hF _ hpm (YE (k2_2 F hF) hfit)
           · exact k2_2 F hF k hk
         · have:=(qgK (h:=h') (k:=lf) (by assumption) g.nons.length).2 hl2
           show cf (qJ h' lf true) g.nons.length<_
           cases b' with
           |false=>have e:=(k2_3 rfl).1;subst e;omega
           |true=>have:=k2_4 rfl;omega
       | false=>
         repeat' with_reducible first
          |refine s_ ?_
          |simp -implicitDefEqProofs only[wZZ,seval,g2,g5,g6,g17,g18,g7,g19,o0,o1,o2,k2_1,hz]
          |simp -implicitDefEqProofs (disch:=omega) only[w64,if_neg]
         refine⟨wg_,(i+1,h',b'),by dsimp only;omega,trivial,trivial,trivial,trivial,trivial,trivial,trivial,trivial,rfl,rfl,by dsimp only;omega,rfl,k2_2,hnew k2_3 (fun e=>by rw[hfit]at e;cases e),k2_4⟩
     · refine⟨wg_,(i+1,h',b'),by dsimp only;omega,trivial,trivial,trivial,trivial,trivial,trivial,trivial,trivial,rfl,rfl,by dsimp only;omega,rfl,k2_2,hnew k2_3 (fun _=>by assumption),k2_4⟩
   · have e:i=g.prods.length:=o_
     subst e
     rw[List.take_length]at k2_3
     repeat' with_reducible first
      |refine s_ ?_
      |simp -implicitDefEqProofs only[wZZ,seval,g2,g5,g6,g17,g18,g7,g19,o0,o1,o2,k2_1]
     refine⟨wg_,(h',b'),?_,trivial,trivial,trivial,trivial,trivial,trivial,rfl,rfl,k2_2,fun hb=>?_⟩
     · dsimp only
       cases b' with
       |false=>have e:=(k2_3 rfl).1;subst e;simp
       |true=>have:=k2_4 rfl;simp;omega
     · obtain ⟨e1,e2⟩:=k2_3 hb
       dsimp only
       rw[e1];exact e2

theorem qh4 {α:Type} {f:Nat→List α} {k q:Nat} {l:List α} {b:Nat} (h: ∀k,(f k).length≤b) (hl:l.length≤b+1):(qJ f k l q).length≤b+1:=by
 unfold qJ;split
 · exact hl
 · have:=h q;omega
theorem kZ (x:GrI) (n:Nat) (i:Nat): ∀k,((zu x n i).1 k).length≤i:=by
 induction i with
 |zero=>intro k;simp[zu]
 | succ i ih=>
   intro k
   unfold zu kJ
   dsimp only
   split
   · have:=ih k;omega
   · refine qh4 ih ?_
     rw[List.length_append];have:=ih ((x.rules.getD i []).getD 0 0 % (n:Int)).toNat
     simp only[List.length_cons,List.length_nil];omega
abbrev qYe:V:= .agg [.str [],.sl 4 true [],.sl 3 true [],.str []]
structure SrcAt (s:St) (x:GrI) (n xb rb sb hb rid:Nat) (dV:V) (vA:Nat→V) (als:Nat→List V) (q:(Nat→List Alt)×(Nat→Bool)):Prop where
 f1:s.f 1=.ptr xb 0 0
 f2:s.f 2=.ptr rb 0 0
 f3:s.f 3=vi n
 f4:s.f 4=.ptr sb 0 0
 f5:s.f 5=.msl hb 1 0 n
 hx:s.H xb=some (.own 5 [x.V] false)
 hr:s.H rb=some (.own 4 [qYe] false)
 hs:s.H sb=some (.own 4 [.agg [.str [],dV,.msl rid 3 0 n,.str []]] false)
 hh:s.H hb=some (.own 1 (vV n q.2) false)
 rw:RW s.H s.next rid n vA als q.1
 o1:xb<rb
 o2:rb<sb
 o3:sb<hb
 o4:hb<rid
theorem SrcAt.mono {s s':St} {x:GrI} {n xb rb sb hb rid:Nat} {dV:V} {vA:Nat→V} {als:Nat→List V} {q:(Nat→List Alt)×(Nat→Bool)} (h:SrcAt s x n xb rb sb hb rid dV vA als q)
 (hf: ∀t,1≤t→t≤5→s'.f t=s.f t) (hn:s.next≤s'.next) (hH: ∀j,j<s.next→s'.H j=s.H j):SrcAt s' x n xb rb sb hb rid dV vA als q:=by
 have:=h.rw.lr;have o1:=h.o1;have o2:=h.o2;have o3:=h.o3;have o4:=h.o4
 exact⟨by rw[hf 1 o_ o_];exact h.f1,by rw[hf 2 o_ o_];exact h.f2,by rw[hf 3 o_ o_];exact h.f3,by rw[hf 4 o_ o_];exact h.f4,by rw[hf 5 o_ o_];exact h.f5,
  by rw[hH _ o_];exact h.hx,by rw[hH _ o_];exact h.hr,by rw[hH _ o_];exact h.hs,by rw[hH _ o_];exact h.hh,h.rw.mono hn (hH _ o_) (fun k _ j _ hj=>hH j hj),o1,o2,o3,o4⟩
theorem qOG {s0:St} {x:GrI} {n xb rb sb hb rid:Nat} {dV:V} {vA:Nat→V} {als:Nat→List V} {Q:Exit→St→Prop} {E:EC} (hn:0<n) (hn4:n≤4) (hb1:x.rules.length≤1099511627776) (hb2: ∀l∈x.rules,l.length≤1099511627776) (hib:x.inner.length≤1099511627776)
 (h:SrcAt s0 x n xb rb sb hb rid dV vA als (zu x n 0))
 (hQ: ∀s' vA' als',SrcAt s' x n xb rb sb hb rid dV vA' als' (zu x n (min 9 x.rules.length))→ewp Tryz.prog E Q s'):ewp Tryz.prog (.seq qaa E) Q s0:=by
 have f1:=h.f1;have f2:=h.f2;have f3:=h.f3;have f4:=h.f4;have f5:=h.f5
 repeat' with_reducible first
  |refine s_ ?_
  |simp -implicitDefEqProofs only[wZZ,seval,f1,f2,f3,f4,f5]
 refine qc ?nx2 (fun(p:Nat×(Nat→V)×(Nat→List V)) s=>s.f 1=?v2_1∧s.f 2=?v2_2∧s.f 3=?v2_3∧s.f 4=?v2_4∧s.f 5=?v2_5∧s.f 7=vi p.1∧(p.1≤x.rules.length)∧(p.1≤9)∧(SrcAt s x n xb rb sb hb rid dV p.2.1 p.2.2 (zu x n p.1))) (fun p=>x.rules.length - p.1) ((0,vA,als)) wj_ (by refine⟨?_,?_,?_,?_,?_,?_,wo_,wo_,(by exact h.mono (fun t h1 h2=>by simp only[wL];rw[if_neg o_]) wg_ (fun j hj=>by simp only[wM]))⟩<;>first|(simp -implicitDefEqProofs only[wL,wM,wN,wX,seval,Option.some.injEq]<;>exact wt_)|rfl|exact⟨_,rfl⟩) ?_
 intro p s hnx ⟨g1,g2,g3,g4,g5,g7,k2_0,k2_1,k2_2⟩
 obtain ⟨i,vB,bls⟩:=p
 dsimp only at *
 have hS:=k2_2
 obtain ⟨q1,q2,q3,q4,q5,hx,hr,hs,hh,hW,o1,o2,o3,o4⟩:=hS
 have lr:=hW.lr
 have hzi:=w1_ i
 have hrl:=kZ x n i
 have hst:zu x n (i+1)=kJ x n i (zu x n i):=rfl
 unfold kJ at hst
 by_cases hi:i<x.rules.length∧i<9
 · have hg:=getD_some (d:=[]) hi.1
   have hmem:(x.rules.getD i [])∈x.rules:=List.mem_of_getElem? hg
   have hlb:=hb2 _ hmem
   by_cases hl0:x.rules.getD i []=[]
   · rw[hl0]at hg
     simp only[if_pos hl0]at hst
     repeat' with_reducible first
      |refine s_ ?_
      |simp -implicitDefEqProofs only[wZZ,seval,g1,g2,g3,g4,g5,g7,f1,f2,f3,f4,f5,hx,hzi]
      |(first|apply qa|apply qw|apply qp)<;>intro h h_<;>(try simp only[wD,reduceCtorEq]at h_)<;>(try exact wb_)<;>(try simp only[h])
      |refine t_ ?_
     refine⟨wk_,(i+1,vB,bls),o_,?_⟩
     refine⟨?_,?_,?_,?_,?_,?_,?_,?_,?_⟩
     iterate 6 (focus(first|(simp -implicitDefEqProofs only[wL,wM,wN,wX,seval,Option.some.injEq,g1,g2,g3,g4,g5,g7]<;>exact wt_)|rfl|exact⟨_,rfl⟩))
     all_goals try omega
     rw[hst]
     exact k2_2.mono (fun t h1 h2=>by simp only[wL];(repeat first|rw[if_pos rfl]|rw[if_neg o_])) wg_ (fun j hj=>by simp only[wM])
   · simp only[if_neg hl0]at hst
     have tail:=fun s0 x n i a xb Q=> @qZn s0 x n i a xb qb9 Q
     show ewp _ (.seq qjE (.seq (.block 3 (.seq qjJ (.seq (.reg qkf) (.seq (.reg qk3) (.seq (.reg qkZ) (.seq qcF (.seq qca qb9))))))) (.reg qjr))) _ _
     generalize (EC.seq qcF (.seq qca qb9))=F at tail
     have hl1:0<(x.rules.getD i []).length:=List.length_pos_iff.2 hl0
     have hg0:=getD_some (d:=(0:Int)) hl1
     obtain ⟨k,hk⟩: ∃k:Nat,(x.rules.getD i []).getD 0 0 % (n:Int)=k:=⟨((x.rules.getD i []).getD 0 0 % (n:Int)).toNat,by have:=Int.emod_nonneg ((x.rules.getD i []).getD 0 0) (show (n:Int)≠0 by omega);omega⟩
     have hkn:k<n:=by have:=Int.emod_lt_of_pos ((x.rules.getD i []).getD 0 0) (show (0:Int)<n by omega);omega
     rw[hk,Int.toNat_natCast]at hst
     repeat' with_reducible first
      |refine s_ ?_
      |simp -implicitDefEqProofs only[wZZ,seval,g1,g2,g3,g4,g5,g7,f1,f2,f3,f4,f5,hx,hzi,hk]
      |(first|apply qa|apply qw|apply qp)<;>intro h h_<;>(try simp only[wD,reduceCtorEq]at h_)<;>(try exact wb_)<;>(try simp only[h])
      |refine t_ ?_
      |refine jq we_ we_ (qL wf_ wf_) ?_
     have hne6: ∀j,j<s.next→j≠s.next+26:=fun j hj=>by omega
     refine tail _ x n i (s.next+26) xb _ hn hn4 hi.1 hi.2 hl0 hlb hib (by(simp -implicitDefEqProofs only[wL,seval,q1])) (by(simp -implicitDefEqProofs only[wL,seval,q3])) (by(simp -implicitDefEqProofs only[wL,seval,g7])) (by(simp -implicitDefEqProofs only[wL,seval])) (by(simp -implicitDefEqProofs only[wL,seval])) (by(simp only[wM];(repeat first|rw[if_pos trivial]|rw[if_pos rfl]|rw[if_neg o_]));exact hx) wc_ wg_ wg_ o_ (fun s2 hA=>?_)
     obtain ⟨⟨vP,es,oA,GP,eP,hfr⟩,hpl,hfl,hhp,hnx2⟩:=hA
     simp only[wN]at hnx2 hfr
     have hhp2: ∀j,j<s.next→s2.H j=s.H j:=fun j hj=>by
      rw[hhp j wh_ o_]
      (simp only[wM];(repeat first|rw[if_pos trivial]|rw[if_pos rfl]|rw[if_neg o_]))
     have r1:s2.f 1=.ptr xb 0 0:=by rw[hfl 1 o_];(simp -implicitDefEqProofs only[wL,seval,q1])
     have r2:s2.f 2=.ptr rb 0 0:=by rw[hfl 2 o_];(simp -implicitDefEqProofs only[wL,seval,q2])
     have r3:s2.f 3=vi n:=by rw[hfl 3 o_];(simp -implicitDefEqProofs only[wL,seval,q3])
     have r4:s2.f 4=.ptr sb 0 0:=by rw[hfl 4 o_];(simp -implicitDefEqProofs only[wL,seval,q4])
     have r5:s2.f 5=.msl hb 1 0 n:=by rw[hfl 5 o_];(simp -implicitDefEqProofs only[wL,seval,q5])
     have r7:s2.f 7=vi i:=by rw[hfl 7 o_];(simp -implicitDefEqProofs only[wL,seval,g7])
     have r8:s2.f 8=vi k:=by rw[hfl 8 o_];(simp -implicitDefEqProofs only[wL,seval])
     have r9:s2.f 9=.ptr (s.next+26) 0 0:=by rw[hfl 9 o_];(simp -implicitDefEqProofs only[wL,seval])
     have hx2:=hx;rw[← hhp2 xb o_]at hx2
     have hr2:=hr;rw[← hhp2 rb o_]at hr2
     have hs2:=hs;rw[← hhp2 sb o_]at hs2
     have hh2:=hh;rw[← hhp2 hb o_]at hh2
     have hW2:RW s2.H s2.next rid n vB bls (zu x n i).1:=hW.mono o_ (hhp2 _ lr) (fun q _ j _ hj=>hhp2 j hj)
     have hR2:=hW2.ho
     have hG2:=hW2.gr k hkn
     have n1:=hW2.ne (fun f e=>by rw[hR2]at e;cases e) hkn (j:=rid)
     have n2:=hW2.ne (fun f e=>by rw[hs2]at e;cases e) hkn (j:=sb)
     have n3:=hW2.ne (fun f e=>by rw[hh2]at e;cases e) hkn (j:=hb)
     have n4:=hW2.ne (fun f e=>by rw[oA]at e;cases e) hkn (j:=s.next+26)
     have n5:=hW2.ne (fun f e=>by rw[hx2]at e;cases e) hkn (j:=xb)
     have n6:=hW2.ne (fun f e=>by rw[hr2]at e;cases e) hkn (j:=rb)
     have hll:=(hW.ep k hkn).len
     rw[List.length_map]at hll
     have hrk:=hrl k
     generalize Kv (x.rules.getD i []) n=pl at *
     repeat' with_reducible first
      |refine s_ ?_
      |simp -implicitDefEqProofs only[wZZ,seval,g1,g2,g3,g4,g5,g7,r1,r2,r3,r4,r5,r7,r8,r9,hpl,hx2,hs2,hh2,hR2,oA,hzi,qb n1,qb n2,qb n3,qb n4]
      |(first|apply qw|apply qp)<;>intro h h_<;>(try simp only[wD,reduceCtorEq]at h_)<;>(try exact wb_)<;>(try simp only[h])
      |(refine ldB hkn ?_)
      |(refine stB hkn ?_)
      |apply qZ rfl (hG2.mono (Nat.le_refl _) (fun id h1 h2=>by(try simp only[wM]);rw[if_neg (fun e=>absurd h1 (by rw[e];exact n3))]));exact qP.sl;(focus(simp only[wZ]<;>omega));(focus(unfold maxLen;simp only[wZ]<;>omega))
      |(refine KZ (xG hkn) rfl ?_)
      |apply Km (xG hkn);exact wu_;exact wu_;exact wu_;(focus(simp only[wZ]<;>omega))
      |refine t_ ?_
      |simp -implicitDefEqProofs (disch:=omega) only[w64,if_neg]
     all_goals
      refine⟨wg_,(i+1,qJ vB k (.asl (s2.next+11+11) ((bls k).length+1) 6 (bls k++[.agg [vP,.str [],.bool false,vi 0,vi 0,vi 0]])),qJ bls k (bls k++[.agg [vP,.str [],.bool false,vi 0,vi 0,vi 0]])),by dsimp only;omega,?_⟩
      dsimp only
      have e2:zu x n (i+1)=(qJ (zu x n i).1 k ((zu x n i).1 k++[qdj (x.rules.getD i []) n x.inner i]),qJ (zu x n i).2 k ((zu x n i).2 k || pl)):=hst
      rw[e2]
      refine⟨trivial,trivial,trivial,trivial,trivial,rfl,o_,o_,⟨by(simp -implicitDefEqProofs only[wL,seval,r1]),by(simp -implicitDefEqProofs only[wL,seval,r2]),by(simp -implicitDefEqProofs only[wL,seval,r3]),by(simp -implicitDefEqProofs only[wL,seval,r4]),by(simp -implicitDefEqProofs only[wL,seval,r5]),?_,?_,?_,?_,?_,o1,o2,o3,o4⟩⟩
      · ((try simp only[wM]);(repeat first|rw[if_pos trivial]|rw[if_pos rfl]|rw[if_neg o_]|rw[qb n1]|rw[qb n2]|rw[qb n3]|rw[qb n4]|rw[qb n5]|rw[qb n6]|simp only[wM]));exact hx2
      · ((try simp only[wM]);(repeat first|rw[if_pos trivial]|rw[if_pos rfl]|rw[if_neg o_]|rw[qb n1]|rw[qb n2]|rw[qb n3]|rw[qb n4]|rw[qb n5]|rw[qb n6]|simp only[wM]));exact hr2
      · ((try simp only[wM]);(repeat first|rw[if_pos trivial]|rw[if_pos rfl]|rw[if_neg o_]|rw[qb n1]|rw[qb n2]|rw[qb n3]|rw[qb n4]|rw[qb n5]|rw[qb n6]|simp only[wM]));exact hs2
      · ((try simp only[wM]);(repeat first|rw[if_pos trivial]|rw[if_pos rfl]|rw[if_neg o_]|rw[qb n1]|rw[qb n2]|rw[qb n3]|rw[qb n4]|rw[qb n5]|rw[qb n6]|simp only[wM]))
        refine congrArg some (congrArg (fun c=>MObj.own 1 (vV n (qJ (zu x n i).2 k c)) false) ?_)
        simp[*]
      · refine hW2.put hkn (ErL.agg (.cons (GP.erL eP.up) (.cons (.str _) (.cons (.bool _) (.cons (.int _ _) (.cons (.int _ _) (.cons (.int _ _) .nil))))))) o_ o_ wg_ ?_ ?_ (fun q hq hqk j h1 h2=>?_)
        · ((try simp only[wM]);(repeat first|rw[if_pos trivial]|rw[if_pos rfl]|rw[if_neg o_]|rw[qb n1]|rw[qb n2]|rw[qb n3]|rw[qb n4]|rw[qb n5]|rw[qb n6]|simp only[wM]))
          rw[qbL hkn]
        · ((try simp only[wM]);(repeat first|rw[if_pos trivial]|rw[if_pos rfl]|rw[if_neg o_]|rw[qb n1]|rw[qb n2]|rw[qb n3]|rw[qb n4]|rw[qb n5]|rw[qb n6]|simp only[wM]))
        · have p1:j≠rid:=fun e=>by subst e;exact hW2.ne (fun f e=>by rw[hR2]at e;cases e) hq h1
          have p2:j≠hb:=fun e=>by subst e;exact hW2.ne (fun f e=>by rw[hh2]at e;cases e) hq h1
          have p3:gid (vB k)≠some j:=fun e=>hW2.sep q k hq hkn hqk j h1 e
          (try simp only[wM])
          repeat first|rw[if_pos trivial]|rw[if_pos rfl]|rw[if_neg o_]|rw[qb p3]|simp only[wM]
 · have e:i=min 9 x.rules.length:=o_
   rw[e]at k2_2
   repeat' with_reducible first
    |refine s_ ?_
    |simp -implicitDefEqProofs only[wZZ,seval,g1,g2,g3,g4,g5,g7,f1,f2,f3,f4,f5,hx]
    |(first|apply qa|apply qw|apply qp)<;>intro h h_<;>(try simp only[wD,reduceCtorEq]at h_)<;>(try exact wb_)<;>(try simp only[h])
    |refine t_ ?_
   all_goals exact hQ _ vB bls (k2_2.mono (fun t h1 h2=>by simp only[wL];(repeat first|rw[if_pos rfl]|rw[if_neg o_])) wg_ (fun j hj=>by simp only[wM]))

theorem _root_.Go.E.ErL.map {α:Type} {b:Bool} {H:Nat→Option MObj} {f g:α→V} {l:List α} (h: ∀x∈l,Er b H (f x) (g x)):ErL b H (l.map f) (l.map g):=by
 induction l with
 |nil=>exact .nil
 |cons a l ih=>exact .cons (h a (by simp)) (ih fun x hx=>h x (List.mem_cons_of_mem _ hx))
theorem qYY {s0:St} {x:GrI} {n xb rb sb hb rid:Nat} {dV:V} {vA:Nat→V} {als:Nat→List V} {q:(Nat→List Alt)×(Nat→Bool)} {Q:Exit→St→Prop} {E:EC} (hn:0<n) (hn4:n≤4) (hq: ∀k,(q.1 k).length≤50)
 (h:SrcAt s0 x n xb rb sb hb rid dV vA als q)
 (hQ: ∀s' vA' als',SrcAt s' x n xb rb sb hb rid dV vA' als' (Xp x.bare q,q.2)→ewp Tryz.prog E Q s'):ewp Tryz.prog (.seq qap E) Q s0:=by
 have f1:=h.f1;have f2:=h.f2;have f3:=h.f3;have f4:=h.f4;have f5:=h.f5
 have h0:(fun k=>if k<0 then Xp x.bare q k else q.1 k)=q.1:=by funext k;rw[if_neg o_]
 repeat' with_reducible first
  |refine s_ ?_
  |simp -implicitDefEqProofs only[wZZ,seval,f1,f2,f3,f4,f5]
 refine qc ?nx4 (fun(p:Nat×(Nat→V)×(Nat→List V)) s=>s.f 1=?v4_1∧s.f 2=?v4_2∧s.f 3=?v4_3∧s.f 4=?v4_4∧s.f 5=?v4_5∧s.f 13=vi p.1∧(p.1≤n)∧(SrcAt s x n xb rb sb hb rid dV p.2.1 p.2.2 (fun k=>if k<p.1 then Xp x.bare q k else q.1 k,q.2))) (fun p=>n - p.1) ((0,vA,als)) wj_ (by refine⟨?_,?_,?_,?_,?_,?_,wo_,(by rw[h0];exact h.mono (fun t h1 h2=>by simp only[wL];rw[if_neg o_]) wg_ (fun j hj=>by simp only[wM]))⟩<;>first|(simp -implicitDefEqProofs only[wL,wM,wN,wX,seval,Option.some.injEq]<;>exact wt_)|rfl|exact⟨_,rfl⟩) ?_
 intro p s hnx ⟨g1,g2,g3,g4,g5,g13,k4_0,k4_1⟩
 obtain ⟨i,vB,bls⟩:=p
 dsimp only at *
 have hS4:=k4_1
 obtain ⟨r1,r2,r3,r4,r5,hx2,hr2,hs2,hh2,hW2,o1,o2,o3,o4⟩:=k4_1
 have lr:=hW2.lr
 have hR2:=hW2.ho
 have hzi:=w1_ i
 by_cases hi:i<n
 · have hG2:=hW2.gr i hi
   have hep:=hW2.ep i hi
   have hll:=hep.len
   simp only[if_neg (Nat.lt_irrefl i),List.length_map]at hll hep
   have hq1:=hq i
   have n1:=hW2.ne (fun f e=>by rw[hR2]at e;cases e) hi (j:=rid)
   have n2:=hW2.ne (fun f e=>by rw[hs2]at e;cases e) hi (j:=sb)
   have n3:=hW2.ne (fun f e=>by rw[hh2]at e;cases e) hi (j:=hb)
   have n5:=hW2.ne (fun f e=>by rw[hx2]at e;cases e) hi (j:=xb)
   have n6:=hW2.ne (fun f e=>by rw[hr2]at e;cases e) hi (j:=rb)
   have hlen:=hG2.len
   have hlit:=jk (k:=i) o_ o_
   by_cases hc:q.1 i=[]∨(q.2 i=false∧x.bare=false)
   · have hfi:Xp x.bare q i=q.1 i++[{parts:=[{sym:=vI i}]}]:=by unfold Xp;rw[if_pos hc]
     have hfn:(fun k=>if k<i+1 then Xp x.bare q k else q.1 k)=qJ (fun k=>if k<i then Xp x.bare q k else q.1 k) i ((fun k=>if k<i then Xp x.bare q k else q.1 k) i++[{parts:=[{sym:=vI i}]}]):=by
      funext k
      unfold qJ
      by_cases e:k=i
      · subst e;simp only[if_true,if_pos (Nat.lt_succ_self k),if_neg (Nat.lt_irrefl k)];exact hfi
      · rw[if_neg e]
        show _=if k<i then Xp x.bare q k else q.1 k
        by_cases e2:k<i
        · rw[if_pos e2,if_pos o_]
        · rw[if_neg e2,if_neg o_]
     repeat' with_reducible first
      |refine s_ ?_
      |simp -implicitDefEqProofs only[wZZ,seval,g1,g2,g3,g4,g5,g13,f1,f2,f3,f4,f5,hx2,hs2,hh2,hR2,hlen,hzi,qb n1,qb n2,qb n3,qb n5,qb n6]
      |(first|apply qa|apply qw|apply qp)<;>intro h h_<;>(try simp only[wD,reduceCtorEq]at h_)<;>(try exact wb_)<;>(try simp only[h])
      |(refine ldB hi ?_)
      |apply qZ rfl (hG2.mono (Nat.le_refl _) (fun id h1 h2=>by(try simp only[wM]);(repeat rw[if_neg o_])));(focus(first|exact qP.sl|exact qP.asl));(focus(simp only[wZ]<;>omega));(focus(unfold maxLen;simp only[wZ]<;>omega))
      |(refine KZ (xG hi) rfl ?_)
      |apply Km (xG hi);exact wu_;exact wu_;exact wu_;(focus(simp only[wZ]<;>omega))
      |refine cq1 hlit qf ?_
      |refine t_ ?_
      |simp -implicitDefEqProofs (disch:=omega) only[w64,if_neg]
     all_goals first|(exfalso;rcases hc with hc|⟨hc1,hc2⟩;(first|(rw[hc]at hll;simp only[List.length_nil]at hll;omega));(simp_all;done))|skip
     all_goals
      refine⟨wg_,(i+1,qJ vB i (.asl (s.next+3+20+15) ((bls i).length+1) 6 (bls i++[(.agg [.sl 6 true [({sym:=vI i}:Part).V],.str [],.bool false,vi 0,vi 0,vi 0])])),qJ bls i (bls i++[(.agg [.sl 6 true [({sym:=vI i}:Part).V],.str [],.bool false,vi 0,vi 0,vi 0])])),by dsimp only;omega,?_⟩
      dsimp only
      rw[hfn]
      refine⟨trivial,trivial,trivial,trivial,trivial,rfl,o_,⟨by(simp -implicitDefEqProofs only[wL,seval,r1]),by(simp -implicitDefEqProofs only[wL,seval,r2]),by(simp -implicitDefEqProofs only[wL,seval,r3]),by(simp -implicitDefEqProofs only[wL,seval,r4]),by(simp -implicitDefEqProofs only[wL,seval,r5]),?_,?_,?_,?_,?_,o1,o2,o3,o4⟩⟩
      · ((try simp only[wM]);(repeat first|rw[if_pos trivial]|rw[if_pos rfl]|rw[if_neg o_]|rw[qb n1]|rw[qb n2]|rw[qb n3]|rw[qb n5]|rw[qb n6]|simp only[wM]));exact hx2
      · ((try simp only[wM]);(repeat first|rw[if_pos trivial]|rw[if_pos rfl]|rw[if_neg o_]|rw[qb n1]|rw[qb n2]|rw[qb n3]|rw[qb n5]|rw[qb n6]|simp only[wM]));exact hr2
      · ((try simp only[wM]);(repeat first|rw[if_pos trivial]|rw[if_pos rfl]|rw[if_neg o_]|rw[qb n1]|rw[qb n2]|rw[qb n3]|rw[qb n5]|rw[qb n6]|simp only[wM]));exact hs2
      · ((try simp only[wM]);(repeat first|rw[if_pos trivial]|rw[if_pos rfl]|rw[if_neg o_]|rw[qb n1]|rw[qb n2]|rw[qb n3]|rw[qb n5]|rw[qb n6]|simp only[wM]));exact hh2
      · refine hW2.put (a:={parts:=[{sym:=vI i}]}) hi (ErL.agg (.cons (ErL.sl (.cons qf .nil)) (.cons (.str _) (.cons (.bool _) (.cons (.int _ _) (.cons (.int _ _) (.cons (.int _ _) .nil))))))) o_ o_ wg_ ?_ ?_ (fun w hw hwk j h1 h2=>?_)
        · ((try simp only[wM]);(repeat first|rw[if_pos trivial]|rw[if_pos rfl]|rw[if_neg o_]|rw[qb n1]|rw[qb n2]|rw[qb n3]|rw[qb n5]|rw[qb n6]|simp only[wM]))
          rw[qbL hi]
        · ((try simp only[wM]);(repeat first|rw[if_pos trivial]|rw[if_pos rfl]|rw[if_neg o_]|rw[qb n1]|rw[qb n2]|rw[qb n3]|rw[qb n5]|rw[qb n6]|simp only[wM]))
        · have p1:j≠rid:=fun e=>by subst e;exact hW2.ne (fun f e=>by rw[hR2]at e;cases e) hw h1
          have p3:gid (vB i)≠some j:=fun e=>hW2.sep w i hw hi hwk j h1 e
          (try simp only[wM])
          repeat first|rw[if_pos trivial]|rw[if_pos rfl]|rw[if_neg o_]|rw[qb p3]|simp only[wM]
   · have hfn:(fun k=>if k<i+1 then Xp x.bare q k else q.1 k)=(fun k=>if k<i then Xp x.bare q k else q.1 k):=by
      funext k
      by_cases e2:k<i
      · rw[if_pos e2,if_pos o_]
      · rw[if_neg e2]
        by_cases e:k=i
        · subst e;rw[if_pos o_];unfold Xp;rw[if_neg hc]
        · rw[if_neg o_]
     repeat' with_reducible first
      |refine s_ ?_
      |simp -implicitDefEqProofs only[wZZ,seval,g1,g2,g3,g4,g5,g13,f1,f2,f3,f4,f5,hx2,hs2,hh2,hR2,hlen,hzi,qb n1,qb n2,qb n3,qb n5,qb n6]
      |(first|apply qa|apply qw|apply qp)<;>intro h h_<;>(try simp only[wD,reduceCtorEq]at h_)<;>(try exact wb_)<;>(try simp only[h])
      |(refine ldB hi ?_)
      |apply qZ rfl (hG2.mono (Nat.le_refl _) (fun id h1 h2=>by(try simp only[wM]);(repeat rw[if_neg o_])));(focus(first|exact qP.sl|exact qP.asl));(focus(simp only[wZ]<;>omega));(focus(unfold maxLen;simp only[wZ]<;>omega))
      |(refine KZ (xG hi) rfl ?_)
      |apply Km (xG hi);exact wu_;exact wu_;exact wu_;(focus(simp only[wZ]<;>omega))
      |refine cq1 hlit qf ?_
      |refine t_ ?_
      |simp -implicitDefEqProofs (disch:=omega) only[w64,if_neg]
     all_goals first
      |exact absurd (Or.inr ⟨by assumption,by assumption⟩) hc
      |exact absurd (Or.inl (List.length_eq_zero_iff.1 o_)) hc
      |skip
     all_goals
      refine⟨wg_,(i+1,vB,bls),by dsimp only;omega,?_⟩
      dsimp only
      rw[hfn]
      exact⟨trivial,trivial,trivial,trivial,trivial,rfl,o_,hS4.mono (fun t h1 h2=>by simp only[wL];(repeat first|rw[if_pos rfl]|rw[if_neg o_])) wg_ (fun j hj=>by simp only[wM])⟩
 · have e:i=n:=o_
   subst e
   have h9:SrcAt s x i xb rb sb hb rid dV vB bls (Xp x.bare q,q.2):=by
    refine⟨r1,r2,r3,r4,r5,hx2,hr2,hs2,hh2,⟨hW2.ho,hW2.lr,hW2.gr,fun k hk=>?_,hW2.sep,hW2.len⟩,o1,o2,o3,o4⟩
    have:=hW2.ep k hk
    simp only[if_pos hk]at this
    exact this
   repeat' with_reducible first
    |refine s_ ?_
    |simp -implicitDefEqProofs only[wZZ,seval,g1,g2,g3,g4,g5,g13,f1,f2,f3,f4,f5,hx2]
   exact hQ _ vB bls (h9.mono (fun t h1 h2=>by simp only[wL];(repeat first|rw[if_pos rfl]|rw[if_neg o_])) wg_ (fun j hj=>by simp only[wM]))

instance grI_cl (x:GrI):Cl x.V:=⟨fun b H=>ErL.agg (.cons (.int _ _) (.cons qf (.cons qf (.cons qf (.cons (.bool _) .nil)))))⟩
def RuI (H:Nat→Option MObj) (hb next i:Nat) (v:V):Prop:=(i=0∧v=.sl 3 true [])∨ ∃rid,v=.msl rid 3 0 i∧0<i∧H rid=some (.own 3 (qcG i (fun _=>.sl 6 true [])) false)∧hb<rid∧rid<next
theorem JB {x:GrI} (hb1:x.rules.length≤1099511627776) (hb2: ∀l∈x.rules,l.length≤1099511627776) (hib:x.inner.length≤1099511627776) (hlb:x.levels.length≤1099511627776):Pure Tryz.prog 12 [x.V] ((zw x).V):=by
 refine pure_intro Tryz.func12 nm_ qPQ (by show 1≤217;decide) ?_
 show ewp _ qk5 _ _
 have hdec:=vZ hlb
 obtain ⟨n,hn⟩: ∃n:Nat,1+x.nons % 4=n:=⟨(1+x.nons % 4).toNat,o_⟩
 have hnN:vQ x=n:=by unfold vQ;rw[hn];rfl
 have hn0:0<n:=o_
 have hn4:n≤4:=o_
 have hz1:IntKind.i64.wrap (1+x.nons % 4)=(n:Int):=by rw[wrap64 o_ o_];exact hn
 have hbol:=qgO n
 have hsrc:zw x={decls:=vv x.levels,rules:=(List.range n).map fun(k:Nat)=>{left:=qat k,alts:=Xp x.bare (zu x n (min 9 x.rules.length)) k}}:=by unfold zw;rw[hnN]
 show ewp _ (.seq (.reg qKa) (.seq (.reg qMu) (.seq (.reg qGl) (.seq (.reg qM8) (.seq qki (.seq qaa (.seq qap (.seq (.reg qbH) .ret)))))))) _ _
 have tail: ∀s rid,SrcAt s x n 0 1 11 14 rid (.sl 4 false ((vv x.levels).map Decl.V)) (fun _=>.sl 6 true []) (fun _=>[]) (zu x n 0)→ewp Tryz.prog (.seq qaa (.seq qap (.seq (.reg qbH) .ret))) (zG e12 (zw x).V) s:=by
  intro s rid hS
  refine qOG hn0 hn4 hb1 hb2 hib hS fun s1 vB bls h1=>?_
  refine qYY hn0 hn4 (fun k=>Nat.le_trans (kZ x n _ k) o_) h1 fun s2 vC cls h2=>?_
  obtain ⟨r1,r2,r3,r4,r5,hx2,hr2,hs2,hh2,hW2,o1,o2,o3,o4⟩:=h2
  have lr:=hW2.lr
  repeat' with_reducible first
   |refine s_ ?_
   |simp -implicitDefEqProofs only[wZZ,seval,r1,r2,r3,r4,r5,hx2,hs2,hh2,hr2]
   |refine t_ ?_
  refine qaW (t:=2) (n:=4) (id:=1) (v:= .agg [.str [],.sl 4 false ((vv x.levels).map Decl.V),.msl rid 3 0 n,.str []]) (ro:=false) rfl (Or.inr rfl) (by(simp -implicitDefEqProofs only[wL,seval,r2])) wc_ rfl ?_
  rw[hsrc]
  refine ErL.agg (.cons (.str _) (.cons qf (.cons ?_ (.cons (.str _) .nil))))
  have hm:((List.range n).map fun(k:Nat)=>({left:=qat k,alts:=Xp x.bare (zu x n (min 9 x.rules.length)) k}:Rule)).map Rule.V=(List.range n).map fun(k:Nat)=>({left:=qat k,alts:=Xp x.bare (zu x n (min 9 x.rules.length)) k}:Rule).V:=List.map_map
  show Er true _ (.msl rid 3 0 n) (.sl 3 false (((List.range n).map fun(k:Nat)=>({left:=qat k,alts:=Xp x.bare (zu x n (min 9 x.rules.length)) k}:Rule)).map Rule.V))
  rw[hm]
  refine VL (es:=qcG n vC) (ro:=false) (by(simp only[wM];(repeat first|rw[if_pos trivial]|rw[if_pos rfl]|rw[if_neg o_]));exact hW2.ho) ?_ (kW n vC)
  exact ErL.map fun k hk=>ErL.agg (.cons (.str _) (.cons ((hW2.gr k (List.mem_range.1 hk)).erL (hW2.ep k (List.mem_range.1 hk)).up) (.cons (.int _ _) .nil)))
 generalize EC.seq qaa (.seq qap (.seq (.reg qbH) .ret))=F at tail
 repeat' with_reducible first
  |refine s_ ?_
  |simp -implicitDefEqProofs only[wZZ,seval,hz1]
  |refine t_ ?_
  |apply qaU;exact wf_;exact wf_;(focus(unfold maxLen;first|omega|(simp only[wZ]<;>omega)))
  |refine jq we_ we_ (qL wf_ wf_) ?_
  |refine jF we_ (vZ wf_) ?_
 rw[hbol]
 refine qc ?nx1 (fun(i:Nat) s=>s.f 1=?v1_1∧s.f 2=?v1_2∧s.f 3=?v1_3∧s.f 4=?v1_4∧s.f 5=?v1_5∧s.H 0=some (MObj.own 5 [x.V] false)∧s.H 1=some (MObj.own 4 [qYe] false)∧s.H 14=some (MObj.own 1 (vV n (fun _=>false)) false)∧s.f 6=vi i∧(i≤n)∧((∃v,s.H 11=some (MObj.own 4 [.agg [.str [],.sl 4 false ((vv x.levels).map Decl.V),v,.str []]] false)∧RuI s.H 14 s.next i v))) (fun i=>n - i) (0) wj_ (by refine⟨?_,?_,?_,?_,?_,?_,?_,?_,?_,wo_,(by exact⟨.sl 3 true [],by(simp only[wM];(repeat first|rw[if_pos trivial]|rw[if_pos rfl]|rw[if_neg o_])),Or.inl ⟨rfl,rfl⟩⟩)⟩<;>first|(simp -implicitDefEqProofs only[wL,wM,wN,wX,seval,Option.some.injEq]<;>exact wt_)|rfl|exact⟨_,rfl⟩) ?_
 intro i s hnx ⟨g1,g2,g3,g4,g5,o0,o1,o2,g6,k1_0,k1_1⟩
 obtain ⟨v,h11,hR⟩:=k1_1
 have hzi:=w1_ i
 by_cases hi:i<n
 · have hnon:=yT (k:=i) o_ o_
   rcases hR with ⟨rfl,rfl⟩|⟨rid,rfl,hi0,hr,l1,l2⟩
   · repeat' with_reducible first
      |refine s_ ?_
      |simp -implicitDefEqProofs only[wZZ,seval,g1,g2,g3,g4,g5,g6,o0,o1,o2,h11,hzi]
      |apply qa<;>intro h h_<;>(try simp only[wD,reduceCtorEq]at h_)<;>(try exact wb_)<;>(try simp only[h])
      |(refine Kz rfl qP.sl (by simp only[wZ]<;>omega) (by unfold maxLen;simp only[wZ]<;>omega) ?_)
      |refine t_ ?_
      |refine jF we_ (yT wf_ wf_) ?_
      |simp -implicitDefEqProofs (disch:=omega) only[w64,if_neg]
     refine⟨wg_,1,o_,trivial,trivial,trivial,trivial,trivial,trivial,trivial,trivial,rfl,o_,_,rfl,Or.inr ⟨s.next+3+6,rfl,o_,?_,o_,wg_⟩⟩
     (simp only[wM];(repeat first|rw[if_pos trivial]|rw[if_pos rfl]|rw[if_neg o_]))
     rfl
   · have hrl:=kW i (fun _=>.sl 6 true [])
     repeat' with_reducible first
      |refine s_ ?_
      |simp -implicitDefEqProofs only[wZZ,seval,g1,g2,g3,g4,g5,g6,o0,o1,o2,h11,hzi]
      |apply qa<;>intro h h_<;>(try simp only[wD,reduceCtorEq]at h_)<;>(try exact wb_)<;>(try simp only[h])
      |refine cq1 hnon qf ?_
      |(refine QZ (es:=qcG i (fun _=>.sl 6 true [])) rfl (by simp only[wM];exact hr) hrl.symm qP.sl (by simp only[wZ]<;>omega) (by unfold maxLen;simp only[wZ]<;>omega) ?_)
      |refine t_ ?_
      |simp -implicitDefEqProofs (disch:=omega) only[w64,if_neg]
     rw[hrl,← qgQ i (fun _=>.sl 6 true [])]
     refine⟨wg_,i+1,o_,trivial,trivial,trivial,trivial,trivial,trivial,trivial,trivial,rfl,o_,_,rfl,Or.inr ⟨s.next+3+6,rfl,o_,?_,o_,wg_⟩⟩
     (simp only[wM];(repeat first|rw[if_pos trivial]|rw[if_pos rfl]|rw[if_neg o_]))
 · have e:i=n:=o_
   subst e
   rcases hR with ⟨h0,_⟩|⟨rid,rfl,hi0,hr,l1,l2⟩
   · omega
   repeat' with_reducible first
    |refine s_ ?_
    |simp -implicitDefEqProofs only[wZZ,seval,g1,g2,g3,g4,g5,g6,o0,o1,o2,h11,hzi]
   refine tail _ rid ⟨by(simp -implicitDefEqProofs only[wL,seval,g1]),by(simp -implicitDefEqProofs only[wL,seval,g2]),by(simp -implicitDefEqProofs only[wL,seval,g3]),by(simp -implicitDefEqProofs only[wL,seval,g4]),by(simp -implicitDefEqProofs only[wL,seval,g5]),by(simp only[wM];(repeat first|rw[if_pos trivial]|rw[if_pos rfl]|rw[if_neg o_]));exact o0,by(simp only[wM];(repeat first|rw[if_pos trivial]|rw[if_pos rfl]|rw[if_neg o_]));exact o1,by(simp only[wM];(repeat first|rw[if_pos trivial]|rw[if_pos rfl]|rw[if_neg o_]));exact h11,by(simp only[wM];(repeat first|rw[if_pos trivial]|rw[if_pos rfl]|rw[if_neg o_]));exact o2,⟨by(simp only[wM];(repeat first|rw[if_pos trivial]|rw[if_pos rfl]|rw[if_neg o_]));exact hr,wg_,fun k hk=>Gr.nil,fun k hk=>.nil,fun j k _ _ _=>Sep.slL,fun k _=>by simp⟩,o_,o_,o_,o_⟩

theorem ZO {x:Sym}: ∀{l:List Tok} {i:Nat},(∀(n:Nat) t,l[n]?=some t→ ¬ (t.name=x.name∧t.lit=x.lit∧i+n≠2))→QI x l i= -1
 |[],i,_=>rfl
 | t::r,i,h=>by
   unfold QI
   rw[if_neg (by have:=h 0 t rfl;simpa using this)]
   exact ZO fun n u hu=>by have:=h (n+1) u (by simpa using hu);rwa [show i+1+n=i+(n+1) by omega]
theorem Ve {x:Sym}: ∀{l:List Tok} {i n:Nat} {t:Tok},l[n]?=some t→t.name=x.name→t.lit=x.lit→i+n≠2→0≤QI x l i
 |[],i,n,t,h,_,_,_=>by simp at h
 | u ::r,i,n,t,h,h1,h2,h3=>by
   unfold QI
   split
   · omega
   · rename_i hne
     cases n with
     |zero=>simp at h;subst h;exact absurd ⟨h1,h2,o_⟩ hne
     |succ n=>exact Ve (l:=r) (i:=i+1) (n:=n) (t:=t) (by simpa using h) h1 h2 o_
theorem YF {n:Int}: ∀{l:List Tok} {i:Nat},(∀t∈l,t.num≠n)→KY n l i= -1
 |[],i,_=>rfl
 | t::r,i,h=>by
   unfold KY
   rw[if_neg (h t (by simp))]
   exact YF fun u hu=>h u (List.mem_cons_of_mem _ hu)
abbrev core (t:Tok):List UInt8×Bool×Int:=(t.name,t.lit,t.num)
abbrev qXX (j:Nat):List UInt8×Bool×Int:=((vI j).name,true,qdo (vI j))
abbrev qdf:List (List UInt8×Bool×Int):=[([36,101,110,100],false,0),(qzy,false,-1),([36,117,110,107],false,-1)]
structure LInv (m:Mk) (js:List Nat):Prop where
 e:m.e=0
 toks:m.toks.map core=qdf++js.map qXX
 nd:js.Nodup
 lt: ∀j∈js,j<4
theorem zS {j:Nat} (h:j<4):(vI j).name=[UInt8.ofNat (112+j)]∧qdo (vI j)=112+j:=by
 rcases j with _ | _ | _ | _ |j
 · exact⟨rfl,rfl⟩
 · exact⟨rfl,rfl⟩
 · exact⟨rfl,rfl⟩
 · exact⟨rfl,rfl⟩
 · omega
theorem quZ {i j:Nat} (hi:i<4) (hj:j<4) (h:(vI i).name=(vI j).name):i=j:=by
 have h1:=(zS hi).1
 have h2:=(zS hj).1
 rw[h1,h2]at h
 simp only[List.cons.injEq,and_true]at h
 have:=congrArg UInt8.toNat h
 simp at this
 omega
theorem LInv.get {m:Mk} {js:List Nat} (h:LInv m js) {n:Nat} {t:Tok} (ht:m.toks[n]?=some t):(qdf++js.map qXX)[n]?=some (core t):=by rw[← h.toks,List.getElem?_map,ht];rfl
theorem LInv.len {m:Mk} {js:List Nat} (h:LInv m js):m.toks.length=3+js.length:=by have:=congrArg List.length h.toks;simp at this;omega
theorem LInv.tok_in {m:Mk} {js:List Nat} (h:LInv m js) {j:Nat} (hj:j∈js):0≤Kg m.toks (vI j):=by
 obtain ⟨i,hi,he⟩:=List.getElem_of_mem hj
 have hl:=h.len
 have h3:m.toks[3+i]?=some (m.toks[3+i]' o_):=ge_ o_
 have hg:=h.get h3
 rw[List.getElem?_append_right (by simp),show 3+i - qdf.length=i by simp,List.getElem?_map,ge_ hi,he]at hg
 simp only[Option.map_some,Option.some.injEq,Prod.mk.injEq]at hg
 refine Ve (n:=2+i) (t:=m.toks[3+i]' o_) ?_ hg.1.symm ?_ o_
 · rw[List.getElem?_drop,show 1+(2+i)=3+i by omega];exact h3
 · rw[← hg.2.1]
theorem LInv.tok_out {m:Mk} {js:List Nat} (h:LInv m js) {j:Nat} (hj:j ∉ js) (hj4:j<4):Kg m.toks (vI j)= -1:=by
 refine ZO fun n t ht=>?_
 rw[List.getElem?_drop]at ht
 have hg:=h.get ht
 rintro ⟨h1,h2,h3⟩
 match n,hg with
 |0,hg=>simp at hg;rw[hg.2.1]at h2;cases h2
 |1,hg=>exact absurd rfl h3
 | n +2,hg=>
   rw[List.getElem?_append_right (by simp;omega),List.getElem?_map]at hg
   cases hq:js[1+(n+2) - qdf.length]? with
   |none=>rw[hq]at hg;cases hg
   | some q=>
     rw[hq]at hg
     simp only[Option.map_some,Option.some.injEq,Prod.mk.injEq]at hg
     have hqm:=List.mem_of_getElem? hq
     have:=quZ (h.lt q hqm) hj4 (hg.1.trans h1)
     subst this;exact hj hqm
theorem LInv.own {m:Mk} {js:List Nat} (h:LInv m js) {j:Nat} (hj:j ∉ js) (hj4:j<4):qiI m.toks (qdo (vI j))= -1:=by
 refine YF fun t ht e=>?_
 obtain ⟨n,hn⟩:=List.getElem?_of_mem ht
 rw[List.getElem?_drop]at hn
 have hg:=h.get hn
 rw[List.getElem?_append_right (by simp),List.getElem?_map]at hg
 cases hq:js[3+n - qdf.length]? with
 |none=>rw[hq]at hg;cases hg
 | some q=>
   rw[hq]at hg
   simp only[Option.map_some,Option.some.injEq,Prod.mk.injEq]at hg
   have hqm:=List.mem_of_getElem? hq
   have h4:=h.lt q hqm
   have:=(zS h4).2;have:=(zS hj4).2
   have:q=j:=o_
   subst this;exact hj hqm
theorem JG (k:Int):vI k=vI ((k % 4).toNat:Nat):=by
 have h1:=Int.emod_nonneg k (show (4:Int)≠0 by omega)
 unfold vI
 rw[Int.toNat_of_nonneg h1,Int.emod_emod_of_dvd k (Int.dvd_refl 4)]
theorem LInv.put {m:Mk} {js:List Nat} (h:LInv m js) (k:Int): ∃js',LInv (Zz m (vI k)).1 js'∧(∀j∈js,j∈js')∧ ∀j∈js',j∈js∨j=(k % 4).toNat:=by
 have h1:=Int.emod_nonneg k (show (4:Int)≠0 by omega)
 have h2:=Int.emod_lt_of_pos k (show (0:Int)<4 by omega)
 rw[JG k]
 obtain ⟨j,hj⟩: ∃j:Nat,(k % 4).toNat=j:=⟨_,rfl⟩
 have hj4:j<4:=o_
 rw[hj]
 unfold Zz
 by_cases hm:j∈js
 · rw[if_pos (h.tok_in hm)]
   exact⟨js,h,fun _ a=>a,fun _ a=>Or.inl a⟩
 · rw[if_neg (by rw[h.tok_out hm hj4];omega)]
   dsimp only
   rw[if_neg (by rw[h.own hm hj4];rintro ⟨_,e⟩;omega)]
   refine⟨js++[j],⟨h.e,?_,?_,fun q hq=>?_⟩,fun q hq=>List.mem_append_left _ hq,fun q hq=>?_⟩
   · dsimp only;rw[List.map_append,h.toks,List.map_append,List.append_assoc];rfl
   · rw[List.nodup_append]
     exact⟨h.nd,by simp,fun a ha b hb e=>by rw[List.mem_singleton]at hb;subst hb;subst e;exact hm ha⟩
   · rcases List.mem_append.1 hq with hq|hq
     · exact h.lt q hq
     · rw[List.mem_singleton]at hq;subst hq;exact hj4
   · rcases List.mem_append.1 hq with hq|hq
     · exact Or.inl hq
     · rw[List.mem_singleton]at hq;exact Or.inr hq
theorem LInv.non {m:Mk} {js:List Nat} (h:LInv m js) {k:Nat} (hk:k<4):Kg m.toks {name:=qat k}= -1:=by
 refine ZO fun n t ht=>?_
 rw[List.getElem?_drop]at ht
 have hg:=h.get ht
 rintro ⟨h1,h2,h3⟩
 match n,hg with
 | 0,hg=>
   simp at hg
   rw[← hg.1]at h1
   have:=congrArg List.length h1
   simp[qzy]at this
 |1,hg=>exact absurd rfl h3
 | n +2,hg=>
   rw[List.getElem?_append_right (by simp;omega),List.getElem?_map]at hg
   cases hq:js[1+(n+2) - qdf.length]? with
   |none=>rw[hq]at hg;cases hg
   | some q=>
     rw[hq]at hg
     simp only[Option.map_some,Option.some.injEq,Prod.mk.injEq]at hg
     rw[← hg.2.1]at h2;cases h2
def qbk (d:Decl) (is:List Nat):Prop:=(2≤d.kind∧d.kind≤4)∧d.tag=[]∧d.syms=(is.map fun i:Nat=>vI i)∧is≠[]
theorem LInv.level {m:Mk} {js:List Nat} (h:LInv m js) (n:Int):LInv {m with level:=n} js:=⟨h.e,h.toks,h.nd,h.lt⟩
theorem Y5 (l:List Int): ∀n,n≤4→ ∃iss:List (List Nat),(zL l n).length=iss.length∧(∀(k:Nat) d is,(zL l n)[k]?=some d→iss[k]?=some is→qbk d is)∧iss.flatten.Nodup∧ ∀i∈iss.flatten,i<n:=by
 intro n
 induction n with
 |zero=>intro _;exact⟨[],rfl,fun k d is h=>by simp[zL]at h,by simp,fun i h=>by simp at h⟩
 | succ n ih =>
   intro hn
   obtain ⟨iss,h1,h2,h3,h4⟩:=ih o_
   have hx1:=Int.emod_nonneg (l.getD n 0) (show (8:Int)≠0 by omega)
   have hx2:=Int.emod_lt_of_pos (l.getD n 0) (show (0:Int)<8 by omega)
   have hnn:n ∉ iss.flatten:=fun h=>by have:=h4 n h;omega
   show ∃iss:List (List Nat),(j3 n (l.getD n 0) (zL l n)).length=iss.length∧(∀(k:Nat) d is,(j3 n (l.getD n 0) (zL l n))[k]?=some d→iss[k]?=some is→qbk d is)∧iss.flatten.Nodup∧ ∀i∈iss.flatten,i<n+1
   unfold j3
   split
   · exact⟨iss,h1,h2,h3,fun i hi=>by have:=h4 i hi;omega⟩
   · rename_i hq
     split
     · rename_i hc
       obtain ⟨o,d,ho⟩: ∃o d,zL l n=o++[d]:=⟨_,_,(List.dropLast_concat_getLast hc.2).symm⟩
       have hie:iss≠[]:=fun e=>by rw[e,ho]at h1;simp at h1
       obtain ⟨t,u,ht⟩: ∃t u,iss=t++[u]:=⟨_,_,(List.dropLast_concat_getLast hie).symm⟩
       have hot:o.length=t.length:=by rw[ho,ht]at h1;simpa using h1
       refine⟨t++[u++[n]],?_,fun k e is a b=>?_,?_,fun i hi=>?_⟩
       · rw[ho,kQ];simp[hot]
       · rw [ho,kQ]at a
         by_cases hk:k<o.length
         · rw[List.getElem?_append_left hk]at a
           rw[List.getElem?_append_left o_]at b
           exact h2 k e is (by rw[ho,List.getElem?_append_left hk];exact a) (by rw[ht,List.getElem?_append_left o_];exact b)
         · by_cases hk2:k=o.length
           · subst hk2
             rw[List.getElem?_append_right (Nat.le_refl _)]at a
             rw[hot,List.getElem?_append_right (Nat.le_refl _)]at b
             simp at a b
             subst a b
             obtain ⟨q1,q2,q3,q4⟩:=h2 o.length d u (by rw[ho];simp) (by rw[ht,hot];simp)
             exact⟨q1,q2,by dsimp only;rw[q3,List.map_append];rfl,by simp⟩
           · rw[List.getElem?_eq_none (by simp;omega)]at a;cases a
       · rw[ht]at h3 hnn
         simp only[List.flatten_append,List.flatten_cons,List.flatten_nil,List.append_nil,← List.append_assoc]at h3 hnn ⊢
         rw[List.nodup_append]
         exact⟨h3,by simp,fun a ha b hb e=>by rw[List.mem_singleton]at hb;subst hb;subst e;exact hnn ha⟩
       · simp only[List.flatten_append,List.flatten_cons,List.flatten_nil,List.append_nil,← List.append_assoc]at hi
         rcases List.mem_append.1 hi with hi|hi
         · have hlt:=h4 i (by rw[ht];simpa using hi)
           omega
         · rw[List.mem_singleton]at hi;omega
     · refine⟨iss++[[n]],by simp[h1],fun k e is a b=>?_,?_,fun i hi=>?_⟩
       · by_cases hk:k<(zL l n).length
         · rw[List.getElem?_append_left hk]at a
           rw[List.getElem?_append_left o_]at b
           exact h2 k e is a b
         · by_cases hk2:k=(zL l n).length
           · subst hk2
             rw[List.getElem?_append_right (Nat.le_refl _)]at a
             rw[h1,List.getElem?_append_right (Nat.le_refl _)]at b
             simp only[Nat.sub_self,List.getElem?_cons_zero,Option.some.injEq]at a b
             subst a b
             have hb:2≤1+l.getD n 0 % 8 % 4∧1+l.getD n 0 % 8 % 4≤4:=o_
             exact⟨hb,rfl,rfl,by simp⟩
           · rw[List.getElem?_eq_none (by simp;omega)]at a;cases a
       · rw[List.flatten_append]
         simp only[List.flatten_cons,List.flatten_nil,List.append_nil]
         rw[List.nodup_append]
         exact⟨h3,by simp,fun a ha b hb e=>by rw[List.mem_singleton]at hb;subst hb;subst e;exact hnn ha⟩
       · rw[List.flatten_append]at hi
         rcases List.mem_append.1 hi with hi|hi
         · have:=h4 i hi;omega
         · simp at hi;omega

def qd8 (lefts:List (List UInt8)) (x:Sym):Prop:=(∃k:Int,x=vI k)∨(x.lit=false∧x.name∈lefts)∨x={name:=qzy}
def XC:List Part→Nat
 |[]=>0
 |w::r=>(if w.code≠[]∧r≠[]then 1 else 0)+XC r
def qmq (lefts:List (List UInt8)) (a:Alt):Prop:=(∀w∈a.parts,w.code≠[]∨qd8 lefts w.sym)∧a.prec={}∧XC a.parts≤1∧a.parts.length≤6
theorem Qf: ∀(n:Nat) (l:List Nat),l.Nodup→(∀x∈l,x<n)→l.length≤n
 | 0,l,_,h=>by
   cases l with
   |nil=>simp
   |cons a r=>have:=h a (by simp);omega
 | n +1,l,hn,h=>by
   by_cases hm:n∈l
   · have h1:=Qf n (l.erase n) (hn.erase n) (fun x hx=>by
      have:=h x (List.mem_of_mem_erase hx)
      have hne:x≠n:=fun e=>by subst e;exact(List.Nodup.mem_erase_iff hn).1 hx |>.1 rfl
      omega)
     rw[List.length_erase_of_mem hm]at h1
     omega
   · have h1:=Qf n l hn (fun x hx=>by
      have:=h x hx
      have hne:x≠n:=fun e=>by subst e;exact hm hx
      omega)
     omega

theorem qcz (x:GrI):1≤vQ x∧vQ x≤4:=by unfold vQ;omega
def jr (l:List Part):Nat:=(l.filter fun w=> !decide (w.code=[])).length
theorem YV (l m:List Part):jr (l++m)=jr l+jr m:=by simp[jr]
theorem Kl: ∀(l:List Part),XC l≤jr l
 |[]=>Nat.le_refl _
 | w::r=>by
   have:=Kl r
   have e:jr (w::r)=(if w.code=[]then 0 else 1)+jr r:=by
    unfold jr;rw[List.filter_cons];by_cases h:w.code=[]<;>simp[h];omega
   unfold XC;rw[e]
   by_cases h:w.code=[]
   · simp[h];exact this
   · rw[if_neg h];split<;>omega
theorem JO: ∀(l:List Part) (w:Part),XC (l++[w])≤jr l
 |[],w=>by simp[XC]
 | v::r,w=>by
   have:=JO r w
   have e:jr (v::r)=(if v.code=[]then 0 else 1)+jr r:=by
    unfold jr;rw[List.filter_cons];by_cases h:v.code=[]<;>simp[h];omega
   show (if v.code≠[]∧(r++[w])≠[]then 1 else 0)+XC (r++[w])≤_
   rw[e]
   by_cases h:v.code=[]
   · simp[h];exact this
   · rw[if_neg h];split<;>omega
theorem KC (l:List Int) (n:Nat) (mid:Bool) (j:Nat):jr (jB l n mid j)≤1∧(jB l n mid j).length≤j+1∧(j=0→jB l n mid j=[]):=by
 induction j with
 |zero=>exact⟨by simp[jB,jr],by simp[jB],fun _=>rfl⟩
 | succ j ih=>
   obtain ⟨h1,h2,h3⟩:=ih
   unfold jB
   refine⟨?_,?_,fun h=>by omega⟩
   · rw[YV,YV]
     have e1:jr [({sym:=qhI l n (j+1)}:Part)]=0:=by simp[jr]
     rw[e1]
     by_cases hj:j=0
     · rw[h3 hj]
       split<;>simp[jr,QB]
     · rw[if_neg (fun e=>hj e.1)]
       simp[jr]at h1 ⊢;exact h1
   · rw[List.length_append,List.length_append]
     by_cases hj:j=0
     · rw[h3 hj];split<;>simp[hj]
     · rw[if_neg (fun e=>hj e.1)];simp;exact h2
theorem Yt {l:List Int} {n:Nat} {mid:Bool} {w:Part}: ∀{j:Nat},w∈jB l n mid j→(∃y:Int,w={sym:=YL y n})∨w={code:=QB}
 |0,h=>by cases h
 | j +1,h=>by
   unfold jB at h
   rcases List.mem_append.1 h with h|h
   · rcases List.mem_append.1 h with h|h
     · exact Yt h
     · rw[List.mem_singleton]at h;exact Or.inl ⟨_,h⟩
   · split at h
     · rw[List.mem_singleton]at h;exact Or.inr h
     · cases h
theorem Kb {l inner:List Int} {n i:Nat} {w:Part} (h:w∈(qdj l n inner i).parts):(∃y:Int,w={sym:=YL y n})∨w={code:=QB}∨w={code:=XD}:=by
 unfold qdj at h
 dsimp only at h
 rcases List.mem_append.1 h with h|h
 · rcases Yt h with h|h
   · exact Or.inl h
   · exact Or.inr (Or.inl h)
 · split at h
   · rw[List.mem_singleton]at h;exact Or.inr (Or.inr h)
   · cases h
theorem qex {lefts:List (List UInt8)} {n:Nat} (hn:0<n) (hl: ∀k:Nat,k<n→qat k∈lefts) (y:Int):qd8 lefts (YL y n):=by
 have e1:=Int.emod_nonneg y (show (14:Int)≠0 by omega)
 have e3:=Int.emod_lt_of_pos (y % 14) (show (0:Int)<n by omega)
 have e4:=Int.emod_nonneg (y % 14) (show (n:Int)≠0 by omega)
 unfold YL
 split
 · have:=hl (y % 14 % n).toNat o_
   rw[Int.toNat_of_nonneg e4]at this
   exact Or.inr (Or.inl ⟨rfl,this⟩)
 · split
   · exact Or.inr (Or.inr rfl)
   · exact Or.inl ⟨_,rfl⟩
theorem qad {lefts:List (List UInt8)} {n:Nat} (hn:0<n) (hl: ∀k:Nat,k<n→qat k∈lefts) (l inner:List Int) (i:Nat):qmq lefts (qdj l n inner i):=by
 obtain ⟨h1,h2,_⟩:=KC l n (qdG inner i) (min 4 (l.length - 1))
 refine⟨fun w hw=>?_,rfl,?_,?_⟩
 · rcases Kb hw with ⟨y,rfl⟩|rfl|rfl
   · exact Or.inr (qex hn hl y)
   · exact Or.inl (by simp[QB])
   · exact Or.inl (by simp[XD])
 · unfold qdj;dsimp only
   split
   · exact Nat.le_trans (JO _ _) h1
   · rw[List.append_nil];exact Nat.le_trans (Kl _) h1
 · unfold qdj;dsimp only
   rw[List.length_append]
   split<;>simp<;>omega
theorem yx {x:GrI} {n:Nat}: ∀{i k:Nat} {a:Alt},a∈(zu x n i).1 k→ ∃l j,a=qdj l n x.inner j
 |0,k,a,h=>by cases h
 | i + 1,k,a,h=>by
   unfold zu kJ at h
   dsimp only at h
   split at h
   · exact yx h
   · unfold qJ at h
     dsimp only at h
     split at h
     · rcases List.mem_append.1 h with h|h
       · exact yx h
       · rw[List.mem_singleton]at h;exact⟨_,_,h⟩
     · exact yx h
theorem qbO {x:GrI} {n i k:Nat} {a:Alt} (h:a∈Xp x.bare (zu x n i) k):(∃l j,a=qdj l n x.inner j)∨a={parts:=[{sym:=vI k}]}:=by
 unfold Xp at h
 split at h
 · rcases List.mem_append.1 h with h|h
   · exact Or.inl (yx h)
   · rw[List.mem_singleton]at h;exact Or.inr h
 · exact Or.inl (yx h)
theorem qhM {n:Nat} (hn:0<n) (hn4:n≤4) (y:Int):qaF (YL y n) false true=true:=by
 have e1:=Int.emod_nonneg y (show (14:Int)≠0 by omega)
 have e3:=Int.emod_lt_of_pos (y % 14) (show (0:Int)<n by omega)
 have e4:=Int.emod_nonneg (y % 14) (show (n:Int)≠0 by omega)
 have hN: ∀k:Nat,k<4→qaF {name:=qat k} false true=true:=by decide
 have hL: ∀k:Nat,k<4→qaF (vI k) false true=true:=by decide
 unfold YL
 split
 · have:=hN (y % 14 % n).toNat o_
   rw[Int.toNat_of_nonneg e4]at this;exact this
 · split
   · decide
   · rw[JG];exact hL _ o_
theorem Zl: ∀{iss:List (List Nat)},iss.flatten.Nodup→ ∀is∈iss,is.Nodup
 |[],_,is,h=>by cases h
 | a::r,hn,is,h=>by
   rw[List.flatten_cons,List.nodup_append]at hn
   rcases List.mem_cons.1 h with rfl|h
   · exact hn.1
   · exact Zl hn.2.1 is h
theorem ZV (x:GrI):(zw x).Fits:=by
 obtain ⟨h1,h2⟩:=qcz x
 obtain ⟨iss,d1,d2,d3,d4⟩:=Y5 x.levels (min 4 x.levels.length) o_
 have hlen:(vv x.levels).length≤4:=by
  have h5:iss.length≤iss.flatten.length:=by
   have hne: ∀is∈iss,is≠[]:=fun is hi=>by
    obtain ⟨k,hk⟩:=List.getElem?_of_mem hi
    obtain ⟨d,hd⟩: ∃d,(zL x.levels (min 4 x.levels.length))[k]?=some d:=⟨_,ge_ (by have:=(List.getElem?_eq_some_iff.1 hk).1;omega)⟩
    exact(d2 k d is hd hk).2.2.2
   clear d1 d2 d3 d4
   induction iss with
   |nil=>simp
   | cons a r ih=>
     have:=ih fun is hi=>hne is (List.mem_cons_of_mem _ hi)
     have ha:=List.length_pos_iff.2 (hne a (by simp))
     rw[List.flatten_cons,List.length_append,List.length_cons];omega
  have h6:=Qf (min 4 x.levels.length) _ d3 d4
  show (zL x.levels (min 4 x.levels.length)).length≤4
  omega
 refine⟨by simp[zw],by simp[zw],by show (vv x.levels).length≤_;omega,fun d hd=>?_,by simp[zw];omega,fun r hr=>?_⟩
 · obtain ⟨k,hk⟩:=List.getElem?_of_mem hd
   have hki:k<iss.length:=by have h3:=(List.getElem?_eq_some_iff.1 hk).1;unfold zw vv at h3;dsimp only at h3;omega
   obtain ⟨q1,q2,q3,q4⟩:=d2 k d iss[k] hk (ge_ hki)
   have h6:iss[k].length≤4:=Qf 4 _ (Zl d3 _ (List.getElem_mem hki)) (fun i hi=>by have:=d4 i (List.mem_flatten.2 ⟨_,List.getElem_mem hki,hi⟩);omega)
   refine⟨by simp[q2],by rw[q3,List.length_map];omega,fun y hy=>?_⟩
   rw[q3]at hy
   obtain ⟨i,hi,rfl⟩:=List.mem_map.1 hy
   have hi4:=d4 i (List.mem_flatten.2 ⟨_,List.getElem_mem hki,hi⟩)
   rw[(zS (show i<4 by omega)).1];simp
 · obtain ⟨k,hk,rfl⟩:=List.mem_map.1 hr
   have hkn:=List.mem_range.1 hk
   have hfl:(Xp x.bare (zu x (vQ x) (min 9 x.rules.length)) k).length≤20:=by
    have:=kZ x (vQ x) (min 9 x.rules.length) k
    unfold Xp;split<;>simp<;>omega
   have hsn: ∀y:Int,(YL y (vQ x)).name.length≤5:=fun y=>by
    have hg:=qhM (n:=vQ x) o_ o_ y
    unfold YL
    split
    · simp
    · split
      · simp
      · rw[JG,(zS (show ((y % 14 - 5) % 4).toNat<4 by omega)).1];simp
   refine⟨by simp,by dsimp only;omega,fun a ha=>?_⟩
   rcases qbO ha with ⟨l,j,rfl⟩|rfl
   · obtain ⟨_,_,_,g4⟩:=qad (lefts:=(List.range (vQ x)).map fun k:Nat=>qat k) (n:=vQ x) o_ (fun k hk=>List.mem_map.2 ⟨k,List.mem_range.2 hk,rfl⟩) l x.inner j
     refine⟨o_,fun w hw=>?_,by simp[qdj]⟩
     rcases Kb hw with ⟨y,rfl⟩|rfl|rfl
     · exact⟨by have:=hsn y;dsimp only;omega,by simp⟩
     · exact⟨by simp,by simp[QB]⟩
     · exact⟨by simp,by simp[XD]⟩
   · refine⟨by simp,fun w hw=>?_,by simp⟩
     rw[List.mem_singleton]at hw;subst hw
     rw[Part.Fits,(zS (show k<4 by omega)).1];simp
theorem V7 (x:GrI):Small (zw x):=by
 obtain ⟨h1,h2⟩:=qcz x
 obtain ⟨f1,f2,f3,f4,f5,f6⟩:=ZV x
 obtain ⟨iss,d1,d2,d3,d4⟩:=Y5 x.levels (min 4 x.levels.length) o_
 have hd: ∀d∈(zw x).decls,∃is:List Nat,qbk d is∧is.length≤4∧ ∀i∈is,i<4:=fun d hd=>by
  obtain ⟨k,hk⟩:=List.getElem?_of_mem hd
  have hki:k<iss.length:=by have h3:=(List.getElem?_eq_some_iff.1 hk).1;unfold zw vv at h3;dsimp only at h3;omega
  have hi4: ∀i∈iss[k],i<4:=fun i hi=>by have:=d4 i (List.mem_flatten.2 ⟨_,List.getElem_mem hki,hi⟩);omega
  exact⟨iss[k],d2 k d iss[k] hk (ge_ hki),Qf 4 _ (Zl d3 _ (List.getElem_mem hki)) hi4,hi4⟩
 have hlen:(zw x).decls.length≤4:=by
  have h5:iss.length≤iss.flatten.length:=by
   have hne: ∀is∈iss,is≠[]:=fun is hi=>by
    obtain ⟨k,hk⟩:=List.getElem?_of_mem hi
    obtain ⟨d,hd⟩: ∃d,(zL x.levels (min 4 x.levels.length))[k]?=some d:=⟨_,ge_ (by have:=(List.getElem?_eq_some_iff.1 hk).1;omega)⟩
    exact(d2 k d is hd hk).2.2.2
   clear d1 d2 d3 d4
   induction iss with
   |nil=>simp
   | cons a r ih=>
     have:=ih fun is hi=>hne is (List.mem_cons_of_mem _ hi)
     have ha:=List.length_pos_iff.2 (hne a (by simp))
     rw[List.flatten_cons,List.length_append,List.length_cons];omega
  have h6:=Qf (min 4 x.levels.length) _ d3 d4
  show (zL x.levels (min 4 x.levels.length)).length≤4
  omega
 have hsn: ∀y:Int,(YL y (vQ x)).lit=true→(YL y (vQ x)).name≠[]:=fun y=>by
  unfold YL
  split
  · intro e;cases e
  · split
    · intro e;cases e
    · intro _;rw[JG,(zS (show ((y % 14 - 5) % 4).toNat<4 by omega)).1];simp
 have ha: ∀r∈(zw x).rules,r.alts.length≤20∧ ∀a∈r.alts,a.parts.length≤6∧a.prec={}∧ ∀w∈a.parts,w.sym.lit=true→w.sym.name≠[]:=fun r hr=>by
  obtain ⟨k,hk,rfl⟩:=List.mem_map.1 hr
  have hkn:=List.mem_range.1 hk
  refine⟨?_,fun a ha=>?_⟩
  · have:=kZ x (vQ x) (min 9 x.rules.length) k
    dsimp only
    unfold Xp;split<;>simp<;>omega
  · rcases qbO ha with ⟨l,j,rfl⟩|rfl
    · obtain ⟨_,g2,_,g4⟩:=qad (lefts:=(List.range (vQ x)).map fun k:Nat=>qat k) (n:=vQ x) o_ (fun k hk=>List.mem_map.2 ⟨k,List.mem_range.2 hk,rfl⟩) l x.inner j
      refine⟨g4,g2,fun w hw=>?_⟩
      rcases Kb hw with ⟨y,rfl⟩|rfl|rfl
      · exact hsn y
      · intro e;cases e
      · intro e;cases e
    · refine⟨by simp,rfl,fun w hw _=>?_⟩
      rw[List.mem_singleton]at hw;subst hw
      rw[(zS (show k<4 by omega)).1];simp
 refine⟨o_,fun d h=>?_,fun d h=>?_,fun d h y hy _=>?_,?_,fun r hr=>?_,fun r hr a h=>?_,fun r hr a h w hw=>?_,fun r hr a h e=>?_⟩
 · obtain ⟨is,⟨q1,q2,q3,q4⟩,h5,h6⟩:=hd d h
   rw[q3,List.length_map];omega
 · obtain ⟨is,⟨q1,q2,q3,q4⟩,h5,h6⟩:=hd d h
   omega
 · obtain ⟨is,⟨q1,q2,q3,q4⟩,h5,h6⟩:=hd d h
   rw[q3]at hy
   obtain ⟨i,hi,rfl⟩:=List.mem_map.1 hy
   rw[(zS (h6 i hi)).1];simp
 · simp[zw];omega
 · have:=(ha r hr).1;omega
 · have:=((ha r hr).2 a h).1;omega
 · exact((ha r hr).2 a h).2.2 w hw
 · rw[((ha r hr).2 a h).2.1]at e;cases e
end Go.Proofs
