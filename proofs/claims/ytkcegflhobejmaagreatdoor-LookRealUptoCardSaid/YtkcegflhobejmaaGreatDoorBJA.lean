import Derived.Test.YtkcegflhobejmaaGreatDoorBGC
set_option maxRecDepth 20000
set_option linter.all false
namespace Go.Proofs
open Go.E
def kR(nt nn:Nat)(s:Int):Prop:=(∃t:Nat,s=t/\t<nt)\/ ∃k:Nat,s=1000+(k:Int)/\k<nn
structure GOk(g:Grammar):Prop where
 tk:3<=g.toks.length
 tk2:g.toks.length<=40
 nn:1<=g.nons.length
 nn2:g.nons.length<=24
 pl:1<=g.prods.length
 pl2:g.prods.length<=60
 left:∀p∈g.prods,∃l:Nat,p.left=l/\l<g.nons.length
 rlen:∀p∈g.prods,p.right.length<=8
 right:∀p∈g.prods,∀s∈p.right,kR g.toks.length g.nons.length s
 prec:∀p∈g.prods,p.prec= -1\/ ∃t:Nat,p.prec=t/\t<g.toks.length
 head:∃p r,g.prods=p::r/\p.left=0/\(∃k:Nat,p.right=[1000+(k:Int)]/\k<g.nons.length)
structure MInv(m:Mk):Prop where
 tk:3<=m.toks.length
 inn:0<=m.inner
 left:∀p∈m.prods,0<=p.left/\p.left<=m.lefts.length+m.inner
 right:∀p∈m.prods,∀s∈p.right,kR m.toks.length (1+m.lefts.length+m.inner.toNat) s
 prec:∀p∈m.prods,p.prec= -1\/(0<=p.prec/\p.prec<m.toks.length)
theorem kR.mono{a b a' b':Nat}{s:Int}(h:kR a b s)(h1:a<=a')(h2:b<=b'):kR a' b' s:=by
 rcases h with ⟨t,e,l⟩|⟨k,e,l⟩
 . exact Or.inl ⟨t,e,o_⟩
 . exact Or.inr ⟨k,e,o_⟩
theorem MInv.up{m m':Mk}(h:MInv m)(hp:m'.prods=m.prods)(ht:m.toks.length<=m'.toks.length)(hl:m'.lefts=m.lefts)(hi:m.inner<=m'.inner):MInv m':=by
 have:=h.inn;refine⟨by have:=h.tk;omega,o_,λp hq=>?_,λp hq s hs=>?_,λp hq=>?_⟩
 . rw[hp]at hq;have:=h.left p hq;rw[hl];omega
 . rw[hp]at hq;rw[hl];exact(h.right p hq s hs).mono ht o_
 . rw[hp]at hq;rcases h.prec p hq with h|⟨h1,h2⟩
   . exact Or.inl h
   . exact Or.inr ⟨h1,o_⟩
theorem MInv.put{m:Mk}(h:MInv m){p:GPr}(h1:0<=p.left/\p.left<=m.lefts.length+m.inner)(h2:∀s∈p.right,kR m.toks.length (1+m.lefts.length+m.inner.toNat) s)(h3:p.prec= -1\/(0<=p.prec/\p.prec<m.toks.length)):MInv {m with prods:=m.prods++[p]}:=by
 refine⟨h.tk,h.inn,λq hq=>?_,λq hq=>?_,λq hq=>?_⟩<;>rcases List.mem_append.1 hq with hq|hq
 . exact h.left q hq
 . rw[List.mem_singleton]at hq;subst hq;exact h1
 . exact h.right q hq
 . rw[List.mem_singleton]at hq;subst hq;exact h2
 . exact h.prec q hq
 . rw[List.mem_singleton]at hq;subst hq;exact h3
theorem qdX{m:Mk}(x:Sym)(ht:3<=m.toks.length)(hi:0<=m.inner):kR (xq m x).1.toks.length (1+m.lefts.length+m.inner.toNat) (xq m x).2/\(x.lit=true\/qp x.name m.lefts 0<0->0<=(xq m x).2/\(xq m x).2<(xq m x).1.toks.length):=by
 have hb:=qg2 m x o_;have hl:=jE x.name m.lefts 0;have htk:=qba x m.toks o_;have hf:=(zH m x.at_ x.name).1;have tokI:∀{n:Nat} {s:Int},0<=s->s<n->kR n (1+m.lefts.length+m.inner.toNat) s:=λh1 h2=>Or.inl ⟨_,(Int.toNat_of_nonneg h1).symm,o_⟩;unfold xq;split
 . exact⟨tokI hb.1 hb.2,λ_=>hb⟩
 . rename_i hx;split
   . rename_i h0;refine⟨Or.inr ⟨(1+qp x.name m.lefts 0).toNat,by dsimp only;omega,o_⟩,λh=>?_⟩;rcases h with h|h
     . exact absurd h hx
     . omega
   . split
     . dsimp only;rw[hf];exact⟨tokI o_ o_,λ_=>⟨o_,o_⟩⟩
     . dsimp only;exact⟨tokI o_ o_,λ_=>⟨o_,o_⟩⟩
theorem Yy :∀(l:List Part) (m:Mk) (p:GPr),MInv m->(∀s∈p.right,kR m.toks.length (1+m.lefts.length+m.inner.toNat) s)->MInv (qZ l (m,p)).1/\∀s∈(qZ l (m,p)).2.right,kR (qZ l (m,p)).1.toks.length (1+(qZ l (m,p)).1.lefts.length+(qZ l (m,p)).1.inner.toNat) s
 |[],m,p,h,hp=>by rw[kP];exact⟨h,hp⟩
 | w :: r, m,p,h,hp=>by
   rw[xB];obtain ⟨y1,y2,y3,y4,y5,y6,y7,y8⟩:=x9 m w.sym;have hs:=(qdX w.sym h.tk h.inn).1;have hi:=h.inn;split
   . refine Yy r _ _ (h.up y3 y7 y2 o_) λs hs2=>?_;rw[y2,y6];rcases List.mem_append.1 hs2 with hs2|hs2
     . exact(hp s hs2).mono y7 (Nat.le_refl _)
     . rw[List.mem_singleton]at hs2;subst hs2;exact hs
   . split
     . exact⟨h,hp⟩
     . refine Yy r _ _ ?_ λs hs2=>?_
       . refine(h.up (m':={m with inner:=m.inner+1}) rfl (Nat.le_refl _) rfl (by dsimp only;omega)).put ⟨by dsimp only;omega,by dsimp only;omega⟩ (λs hs2=>by cases hs2) (Or.inl rfl)
       . dsimp only at hs2 ⊢;rcases List.mem_append.1 hs2 with hs2|hs2
         . exact(hp s hs2).mono (Nat.le_refl _) o_
         . rw[List.mem_singleton]at hs2;exact Or.inr ⟨m.lefts.length+(m.inner+1).toNat,by rw[hs2];omega,o_⟩
theorem qcw(n:Nat):∀(l:List Int) (p:Int),(∀s∈l,0<=s/\(s<1000->s<n))->(p= -1\/(0<=p/\p<n))->(yB l p= -1\/(0<=yB l p/\yB l p<n))
 |[],p,_,hp=>hp
 | x::r,p,h,hp=>by
   rw[yB];refine qcw n r _ (λs hs=>h s (List.mem_cons_of_mem _ hs)) ?_;split
   . rename_i hx;have:=h x (by simp);exact Or.inr ⟨this.1,this.2 hx⟩
   . exact hp
theorem qiL{m:Mk}(n:List UInt8)(a:Alt)(h:MInv m):MInv (QD m n a):=by
 have hl:=jE n m.lefts 0;obtain ⟨g1,g2,g3,g4,g5,g6,g7,g8,g9,g10⟩:=Ji a.parts m {left:=1+qp n m.lefts 0,prec:= -1,at_:=a.at_};obtain ⟨h1,h2⟩:=Yy a.parts m {left:=1+qp n m.lefts 0,prec:= -1,at_:=a.at_} h (λs hs=>by cases hs);have hi:=h.inn;unfold QD;dsimp only;generalize qZ a.parts (m,{left:=1+qp n m.lefts 0,prec:= -1,at_:=a.at_})=q at *;have hlf:0<=q.2.left/\q.2.left<=q.1.lefts.length+q.1.inner:=by rw[g5,g1];dsimp only;omega
 obtain ⟨ff1,ff2,ff3,ff4,ff5,ff6,ff7,ff8⟩:=zH q.1 a.prec.at_ a.prec.name;split
 . split
   . rename_i hc;obtain ⟨y1,y2,y3,y4,y5,y6,y7,y8⟩:=x9 q.1 a.prec;have hs:=(qdX a.prec h1.tk h1.inn).2 (by rcases hc with hc|hc<;>simp[hc]);refine(h1.up y3 y7 y2 o_).put (by rw[y2,y6];exact hlf) (λs hs2=>?_) (Or.inr hs);rw[y2,y6];exact(h2 s hs2).mono y7 (Nat.le_refl _)
   . refine(h1.up (m':=zf q.1 a.prec.at_ a.prec.name) ff5 (by rw[ff1];omega) ff3 o_).put (p:={q.2 with prec:= -1,args:=q.2.right}) (by rw[ff3,ff8];exact hlf) (λs hs2=>by rw[ff1,ff3,ff8];exact h2 s hs2) (Or.inl rfl) |> λhh=>?_
     rw[ff5]at hh;exact hh
 . refine h1.put hlf h2 ?_;refine qcw _ _ _ (λs hs=>?_) (Or.inl rfl);rcases h2 s hs with ⟨t,e,l⟩|⟨k,e,l⟩
   . exact⟨o_,λ_=>by omega⟩
   . exact⟨o_,λ_=>by omega⟩
theorem Vm(n:List UInt8):∀(l:List Alt) (m:Mk),MInv m->MInv (zo n l m)
 |[],m,h=>h
 |a::r,m,h=>by rw[jO];exact Vm n r _ (qiL n a h)
theorem qfo:∀(l:List Rule) (m:Mk),MInv m->MInv (xg l m)
 |[],m,h=>h
 |r::l,m,h=>by rw[xJ];exact qfo l _ (Vm r.left r.alts m h)
def HdP(P:GPr)(m:Mk):Prop:= ∃r,m.prods=P::r
theorem qau(P:GPr):∀(l:List Part) (m:Mk) (p:GPr),HdP P m->HdP P (qZ l (m,p)).1
 |[],m,p,h=>h
 | w ::r,m,p,h=>by
   rw[xB];obtain ⟨y1,y2,y3,y4,y5,y6,y7,y8⟩:=x9 m w.sym;obtain ⟨t,ht⟩:=h;split
   . exact qau P r _ _ ⟨t,by rw[y3];exact ht⟩
   . split
     . exact⟨t,ht⟩
     . exact qau P r _ _ ⟨_,by dsimp only;rw[ht];rfl⟩
theorem qmw(P:GPr){m:Mk}(n:List UInt8)(a:Alt)(h:HdP P m):HdP P (QD m n a):=by
 have h1:=qau P a.parts m {left:=1+qp n m.lefts 0,prec:= -1,at_:=a.at_} h;unfold QD;dsimp only;generalize qZ a.parts (m,{left:=1+qp n m.lefts 0,prec:= -1,at_:=a.at_})=q at *;obtain ⟨t,ht⟩:=h1;obtain ⟨y1,y2,y3,y4,y5,y6,y7,y8⟩:=x9 q.1 a.prec;split
 . split
   . exact⟨_,by dsimp only;rw[y3,ht];rfl⟩
   . exact⟨_,by dsimp only;rw[ht];rfl⟩
 . exact⟨_,by dsimp only;rw[ht];rfl⟩
theorem qbH(P:GPr)(n:List UInt8):∀(l:List Alt) (m:Mk),HdP P m->HdP P (zo n l m)
 |[],m,h=>h
 |a::r,m,h=>by rw[jO];exact qbH P n r _ (qmw P n a h)
theorem qey(P:GPr):∀(l:List Rule) (m:Mk),HdP P m->HdP P (xg l m)
 |[],m,h=>h
 |r::l,m,h=>by rw[xJ];exact qey P l _ (qbH P r.left r.alts m h)
theorem VP(g:List Bool):∀(f i:Nat) (l:List Tok) (n:Int),(qaY g f i (l,n)).1.length=l.length
 |0,i,l,n=>rfl
 | f+1,i,l,n=>by
   rw[qaj];split
   . exact VP g f _ _ _
   . rw[VP];simp
theorem qc9(d:Decl):∀(l:List Sym) (m:Mk) (st:List UInt8),Qe m (zP d l (m,st)).1/\m.toks.length<=(zP d l (m,st)).1.toks.length
 |[],m,st=>⟨⟨rfl,rfl,rfl,rfl⟩,Nat.le_refl _⟩
 | x ::r,m,st=>by
   rw[Zk];obtain ⟨⟨a1,a2,a3,a4⟩,_,h2,_⟩:=qgH m d x;obtain ⟨ff1,ff2,ff3,ff4,ff5,ff6,ff7,ff8⟩:=zH m x.at_ x.name;split
   . obtain ⟨⟨b1,b2,b3,b4⟩,k2⟩:=qc9 d r (vz m d x) st;exact⟨⟨b1.trans a1,b2.trans a2,b3.trans a3,b4.trans a4⟩,o_⟩
   . have key:∀m',Qe m m'->m.toks.length<=m'.toks.length->Qe m (zP d r (m',x.name)).1/\m.toks.length<=(zP d r (m',x.name)).1.toks.length:=λm' hm ht=>by
      obtain ⟨⟨b1,b2,b3,b4⟩,k2⟩:=qc9 d r m' x.name;exact⟨⟨b1.trans hm.1,b2.trans hm.2.1,b3.trans hm.2.2.1,b4.trans hm.2.2.2⟩,o_⟩
     split
     . exact key _ ⟨ff3,ff5,ff6,ff8⟩ (by rw[ff1];omega)
     . exact key _ ⟨rfl,rfl,rfl,rfl⟩ (Nat.le_refl _)
theorem qaX:∀(l:List Decl) (m:Mk) (st:List UInt8),Qe m (zZ l (m,st)).1/\m.toks.length<=(zZ l (m,st)).1.toks.length
 |[],m,st=>⟨⟨rfl,rfl,rfl,rfl⟩,Nat.le_refl _⟩
 | d::r,m,st=>by
   rw[Zy];have key:∀m',Qe m m'->m.toks.length<=m'.toks.length->Qe m (zZ r (zP d d.syms (m',st))).1/\m.toks.length<=(zZ r (zP d d.syms (m',st))).1.toks.length:=λm' hm ht=>by obtain ⟨⟨a1,a2,a3,a4⟩,k1⟩:=qc9 d d.syms m' st;obtain ⟨⟨b1,b2,b3,b4⟩,k2⟩:=qaX r (zP d d.syms (m',st)).1 (zP d d.syms (m',st)).2;exact⟨⟨b1.trans (a1.trans hm.1),b2.trans (a2.trans hm.2.1),b3.trans (a3.trans hm.2.2.1),b4.trans (a4.trans hm.2.2.2)⟩,by show m.toks.length<=(zZ r ((zP d d.syms (m',st)).1,(zP d d.syms (m',st)).2)).1.toks.length;omega⟩
   split
   . exact key _ ⟨rfl,rfl,rfl,rfl⟩ (Nat.le_refl _)
   . exact key _ ⟨rfl,rfl,rfl,rfl⟩ (Nat.le_refl _)
theorem qi4:∀(l:List Rule) (m:Mk),(jD l m).toks=m.toks/\(jD l m).inner=m.inner/\(jD l m).nons=m.nons
 |[],m=>⟨rfl,rfl,rfl⟩
 | r::l,m=>by
   rw[kI];obtain ⟨d1,d2,d3,d4,d5,d6⟩:=qbZ m r;obtain ⟨h1,h2,h3⟩:=qi4 l (ZV (QH m r) r.left);have e:(ZV (QH m r) r.left).toks=m.toks/\(ZV (QH m r) r.left).inner=m.inner/\(ZV (QH m r) r.left).nons=m.nons:=by
    unfold ZV;split
    . exact⟨d1,d6,d5⟩
    . exact⟨d1,d6,d5⟩
   exact⟨h1.trans e.1,h2.trans e.2.1,h3.trans e.2.2⟩
theorem qaF(kind:Int):∀(l:List Sym) (m:Mk),yD m (jW kind l m)
 |[],m=>yD.rfl' m
 |x::r,m=>by rw[yF];exact(qlv m kind x).trans' (qaF kind r _)
theorem qa0:∀(l:List Decl) (m:Mk),yD m (Qo l m)
 |[],m=>yD.rfl' m
 |d::r,m=>by rw[kV];exact(qaF d.kind d.syms m).trans' (qa0 r _)
def XT(src:Source):Mk:=Qo src.decls (jD src.rules (zZ src.decls ({},[])).1)
def QA(src:Source):List UInt8:=if (zZ src.decls ({},[])).2=[]then(src.rules.headD {}).left else(zZ src.decls ({},[])).2
def Jm(src:Source):GPr:={left:=0,right:=[1001+qp (QA src) (XT src).lefts 0],prec:= -1}
theorem Zp(src:Source):z8 src=xg src.rules {XT src with prods:=[Jm src]}:=rfl
theorem qfD(src:Source):3<=(XT src).toks.length/\(XT src).inner=0/\(XT src).nons=[]:=by
 obtain ⟨⟨a1,a2,a3,a4⟩,k1⟩:=qaX src.decls {} [];obtain ⟨l1,l2,l3⟩:=qi4 src.rules (zZ src.decls ({},[])).1;obtain ⟨u1,u2,u3,u4,u5,u6,u7⟩:=qa0 src.decls (jD src.rules (zZ src.decls ({},[])).1);refine⟨?_,?_,?_⟩
 . show 3<=(Qo _ _).toks.length;rw[u1,l1];exact k1
 . show (Qo _ _).inner=0;rw[u7,l2];exact a4
 . show (Qo _ _).nons=[];rw[u6,l3];exact a3
theorem qkV(src:Source):MInv (z8 src)/\HdP (Jm src) (z8 src):=by
 obtain ⟨h1,h2,h3⟩:=qfD src;have hl:=jE (QA src) (XT src).lefts 0;rw[Zp];refine⟨qfo _ _ ⟨h1,by dsimp only;omega,λp hp=>?_,λp hp s hs=>?_,λp hp=>?_⟩,qey _ _ _ ⟨[],rfl⟩⟩<;>(dsimp only at hp;rw[List.mem_singleton]at hp;subst hp)
 . unfold Jm;dsimp only;omega
 . unfold Jm at hs;dsimp only at hs ⊢;rw[List.mem_singleton]at hs;subst hs;exact Or.inr ⟨(1+qp (QA src) (XT src).lefts 0).toNat,o_,o_⟩
 . exact Or.inl rfl
theorem Jd(n:List UInt8):∀(l:List Alt) (m:Mk),(zo n l m).nons=m.nons/\(zo n l m).lefts=m.lefts
 |[],m=>⟨rfl,rfl⟩
 | a::r,m=>by rw[jO];obtain ⟨h1,_,h3,_⟩:=qh3 m n a;obtain ⟨k1,k2⟩:=Jd n r (QD m n a);exact⟨k1.trans h3,k2.trans h1⟩
theorem XA:∀(l:List Rule) (m:Mk),(xg l m).nons=m.nons/\(xg l m).lefts=m.lefts
 |[],m=>⟨rfl,rfl⟩
 | r::l,m=>by rw[xJ];obtain ⟨h1,h2⟩:=Jd r.left r.alts m;obtain ⟨k1,k2⟩:=XA l (zo r.left r.alts m);exact⟨k1.trans h1,k2.trans h2⟩
theorem YL(m:Mk):(yh m).toks.length=m.toks.length/\(yh m).nons.length=1+m.lefts.length+m.inner.toNat/\(yh m).prods=m.prods:=by unfold yh;dsimp only;refine⟨VP _ _ _ _ _,?_,rfl⟩;rw[List.length_append,List.length_append,Vf,qe6];rfl
theorem qaq{src:Source}(h:Xr src=true):Yz src=true/\(z8 src).e=0/\Yc (yh (z8 src))=false/\zR src={toks:=(yh (z8 src)).toks,nons:=(yh (z8 src)).nons,prods:=(yh (z8 src)).prods,pro:=src.pro,tail:=src.tail}:=by
 have h:=of_decide_eq_true h;unfold zR;unfold ofS at *;by_cases h1:Yz src=true
 . rw [if_pos h1]at *;by_cases h2:(z8 src).e≠0
   . rw[if_pos h2]at h;exact absurd h h2
   . rw[if_neg h2]at *;by_cases h3:Yc (yh (z8 src))=true
     . rw[if_pos h3]at h;cases h
     . rw[if_neg h3]at *;exact⟨h1,by simpa using h2,by simpa using h3,rfl⟩
 . rw[if_neg h1]at h;cases h
theorem gok{src:Source}(h:Xr src=true):GOk (zR src):=by
 obtain ⟨_,_,hl,he⟩:=qaq h;obtain ⟨hi,r,hr⟩:=qkV src;obtain ⟨n1,n2,n3⟩:=YL (z8 src);unfold Yc at hl;simp only[Bool.or_eq_false_iff,decide_eq_false_iff_not,List.any_eq_false,decide_eq_true_eq]at hl;obtain ⟨⟨⟨l1,l2⟩,l3⟩,l4⟩:=hl;have hinn:=hi.inn;rw[he];refine⟨?_,?_,?_,?_,?_,?_,λp hp=>?_,λp hp=>?_,λp hp s hs=>?_,λp hp=>?_,?_⟩<;>dsimp only at *
 . rw[n1];exact hi.tk
 . omega
 . rw[n2];omega
 . omega
 . rw[n3,hr];simp
 . omega
 . rw[n3]at hp;have:=hi.left p hp;exact⟨p.left.toNat,o_,o_⟩
 . have:=l4 p hp;omega
 . rw[n3]at hp;rw[n1,n2];exact hi.right p hp s hs
 . rw[n3]at hp;rcases hi.prec p hp with h|⟨h1,h2⟩
   . exact Or.inl h
   . exact Or.inr ⟨p.prec.toNat,o_,o_⟩
 . refine⟨Jm src,r,by rw[n3];exact hr,rfl,(1+qp (QA src) (XT src).lefts 0).toNat,?_,?_⟩
   . have:=jE (QA src) (XT src).lefts 0;unfold Jm;dsimp only;rw[show (1001+qp (QA src) (XT src).lefts 0:Int)=1000+((1+qp (QA src) (XT src).lefts 0).toNat:Int) by omega]
   . have:=jE (QA src) (XT src).lefts 0;have:=(XA src.rules {XT src with prods:=[Jm src]}).2;rw[<- Zp]at this;dsimp only at this;rw[n2,this];omega

set_option maxHeartbeats 4000000
abbrev itV(x:Int):V:= .agg [vi (x / 16),vi (x % 16)]
abbrev prV(p:Int×Int):V:= .agg [vi p.1,vi p.2]
def QI(g:Grammar)(x:Int):Prop:=0<=x/\∃p,g.prods[(x / 16).toNat]?=some p/\(x % 16).toNat<=p.right.length
def nxt(g:Grammar)(x:Int):Int:=((g.prods[(x / 16).toNat]?).bind λp=>p.right[(x % 16).toNat]?).getD (-1)
theorem qle(p d:Nat)(hd:d<16):((16 *(p:Int)+d) / 16)=p/\((16 *(p:Int)+d) % 16)=d:=o_
def quy(g:Grammar)(l:List Int)(D:Int->Prop):Prop:=(∀x∈l,D x)/\∀x,D x->∀(m:Nat) p,g.prods[m]?=some p->1000<=nxt g x->p.left=nxt g x - 1000->D (16 *(m:Int))
structure IsCl(g:Grammar)(l c:List Int):Prop where
 rise:jl c
 clo:quy g l (· ∈c)
 least:∀D,quy g l D->∀x∈c,D x
theorem IsCl.uniq{g:Grammar}{l c c':List Int}(h:IsCl g l c)(h':IsCl g l c'):c=c':=
 yU h.rise h'.rise λx=>⟨h.least _ h'.clo x,h'.least _ h.clo x⟩
theorem qfp{g:Grammar}{m:Nat}{p:GPr}(h:g.prods[m]?=some p):QI g (16 *(m:Int)):=by have e:(16 *(m:Int)) / 16=m:=o_;have e2:(16 *(m:Int)) % 16=0:=o_;exact⟨o_,p,by rw[e];exact h,by rw[e2];exact Nat.zero_le _⟩
theorem IsCl.ok{g:Grammar}{l c:List Int}(h:IsCl g l c)(hl:∀x∈l,QI g x):∀x∈c,QI g x:=
 h.least _ ⟨hl,λx hx m p hp _ _=>qfp hp⟩
theorem IsCl.cases{g:Grammar}{l c:List Int}(h:IsCl g l c):∀x∈c,x∈l\/ ∃y∈c,∃(m:Nat) (p:GPr),x=16 *(m:Int)/\g.prods[m]?=some p/\1000<=nxt g y/\p.left=nxt g y - 1000:=by have:=h.least (λx=>x∈c/\(x∈l\/ ∃y∈c,∃(m:Nat) (p:GPr),x=16 *(m:Int)/\g.prods[m]?=some p/\1000<=nxt g y/\p.left=nxt g y - 1000)) ⟨λx hx=>⟨h.clo.1 x hx,Or.inl hx⟩,λx hx m p hp h1 h2=>⟨h.clo.2 x hx.1 m p hp h1 h2,Or.inr ⟨x,hx.1,m,p,rfl,hp,h1,h2⟩⟩⟩;exact λx hx=>(this x hx).2
def qsF(g:Grammar)(s:Int)(o:List Int):List Int:=(List.range g.prods.length).foldl (λo (m:Nat)=>if 1000<=s/\(g.prods[m]?.map (·.left)).getD 0=s - 1000 then jT o (16 *(m:Int))else o) o
def qgk(g:Grammar)(c:List Int):List Int:=c.foldl (λo x=>qsF g (nxt g x) o) c
def qeW(g:Grammar):Nat->List Int->List Int
 |0,c=>c
 |n+1,c=>if qgk g c=c then c else qeW g n (qgk g c)
theorem YJ{α β:Type}{P:β->Prop}{f:β->α->β}:∀(l:List α) (b:β),P b->(∀b a,a∈l->P b->P (f b a))->P (l.foldl f b)
 |[],b,h,_=>h
 |a::l,b,h,hf=>YJ l (f b a) (hf b a (by simp) h) λb x hx=>hf b x (List.mem_cons_of_mem _ hx)
theorem qlb{g:Grammar}{s:Int}{o:List Int}:∀x,x∈qsF g s o↔x∈o\/ ∃(m:Nat) (p:GPr),x=16 *(m:Int)/\g.prods[m]?=some p/\1000<=s/\p.left=s - 1000:=by
 have key :∀(k:Nat) (o:List Int),k<=g.prods.length->∀x,x∈(List.range k).foldl (λo (m:Nat)=>if 1000<=s/\(g.prods[m]?.map (·.left)).getD 0=s - 1000 then jT o (16 *(m:Int))else o) o↔x∈o\/ ∃(m:Nat) (p:GPr),m<k/\x=16 *(m:Int)/\g.prods[m]?=some p/\1000<=s/\p.left=s - 1000:=by
  intro k
  induction k with
  |zero=>intro o _ x;simp
  | succ k ih=>
    intro o hk x;rw[List.range_succ,List.foldl_append,List.foldl_cons,List.foldl_nil];have hgp:g.prods[k]?=some g.prods[k]:=ge_ o_;by_cases hc:1000<=s/\(g.prods[k]?.map (·.left)).getD 0=s - 1000
    . rw [if_pos hc,zL,ih o o_];rw[hgp]at hc;constructor
      . rintro ((h|⟨m,p,h1,h2⟩)|h)
        . exact Or.inl h
        . exact Or.inr ⟨m,p,o_,h2⟩
        . exact Or.inr ⟨k,_,o_,h,hgp,hc.1,hc.2⟩
      . rintro (h|⟨m,p,h1,h2,h3⟩)
        . exact Or.inl (Or.inl h)
        . by_cases e:m=k
          . subst e;exact Or.inr h2
          . exact Or.inl (Or.inr ⟨m,p,o_,h2,h3⟩)
    . rw [if_neg hc,ih o o_];constructor
      . rintro (h|⟨m,p,h1,h2⟩)
        . exact Or.inl h
        . exact Or.inr ⟨m,p,o_,h2⟩
      . rintro (h|⟨m,p,h1,h2,h3,h4⟩)
        . exact Or.inl h
        . by_cases e:m=k
          . subst e;rw[h3]at hc;exact absurd h4 hc
          . exact Or.inr ⟨m,p,o_,h2,h3,h4⟩
 intro x;unfold qsF;rw[key _ o (Nat.le_refl _)];constructor
 . rintro (h|⟨m,p,_,h⟩)
   . exact Or.inl h
   . exact Or.inr ⟨m,p,h⟩
 . rintro (h|⟨m,p,h1,h2,h3⟩)
   . exact Or.inl h
   . exact Or.inr ⟨m,p,(List.getElem?_eq_some_iff.1 h2).1,h1,h2,h3⟩
theorem qhA{g:Grammar}{s:Int}{o:List Int}(h:jl o):jl (qsF g s o):=
 YJ _ _ h λb a _ hb=>by split;exact j6 hb;exact hb
theorem JY{g:Grammar}{c:List Int}:∀x,x∈qgk g c↔x∈c\/ ∃y∈c,∃(m:Nat) (p:GPr),x=16 *(m:Int)/\g.prods[m]?=some p/\1000<=nxt g y/\p.left=nxt g y - 1000:=by
 have key:∀(l o:List Int) x,x∈l.foldl (λo x=>qsF g (nxt g x) o) o↔x∈o\/ ∃y∈l,∃(m:Nat) (p:GPr),x=16 *(m:Int)/\g.prods[m]?=some p/\1000<=nxt g y/\p.left=nxt g y - 1000:=by
  intro l
  induction l with
  |nil=>intro o x;simp
  | cons a l ih=>
    intro o x;rw[List.foldl_cons,ih,qlb];constructor
    . rintro ((h|h)|⟨y,h1,h2⟩)
      . exact Or.inl h
      . exact Or.inr ⟨a,by simp,h⟩
      . exact Or.inr ⟨y,List.mem_cons_of_mem _ h1,h2⟩
    . rintro (h|⟨y,h1,h2⟩)
      . exact Or.inl (Or.inl h)
      . rcases List.mem_cons.1 h1 with rfl|h1
        . exact Or.inl (Or.inr h2)
        . exact Or.inr ⟨y,h1,h2⟩
 exact λx=>key c c x
theorem KX{g:Grammar}{c:List Int}(h:jl c):jl (qgk g c):=YJ _ _ h λb a _ hb=>qhA hb
theorem yj{N:Nat}:∀{l:List Int} {a:Int},jl l->(∀x∈l,a<=x/\x<a+N)->l.length<=N:=by
 intro l
 induction l generalizing N with
 |nil=>intros;exact Nat.zero_le _
 | cons x l ih=>
   intro a h hb;have h':=List.pairwise_cons.1 h;have h1:=hb x (by simp);cases N with
   |zero=>omega
   | succ N=>
     have:=ih (N:=N) (a:=a+1) h'.2 λy hy=>by have:=h'.1 y hy;have:=hb y (List.mem_cons_of_mem _ hy);omega
     rw[List.length_cons];omega
theorem J6{a b:List Int}(ha:jl a)(hb:jl b)(h:∀x∈a,x∈b)(hl:b.length<=a.length):a=b:=by
 have hs:a.Sublist b:=by
  clear hl
  induction b generalizing a with
  | nil=>
    cases a with
    |nil=>exact List.Sublist.slnil
    |cons x a=>exact absurd (h x (by simp)) (by simp)
  | cons y b ih=>
    have hb':=List.pairwise_cons.1 hb;cases a with
    |nil=>exact List.nil_sublist _
    | cons x a=>
      have ha':=List.pairwise_cons.1 ha;rcases List.mem_cons.1 (h x (by simp))with e|e
      . subst e;refine List.Sublist.cons_cons _ (ih ha'.2 hb'.2 λz hz=>?_);rcases List.mem_cons.1 (h z (List.mem_cons_of_mem _ hz))with e|e
        . subst e;have:=ha'.1 z hz;omega
        . exact e
      . refine List.Sublist.cons _ (ih ha hb'.2 λz hz=>?_);rcases List.mem_cons.1 (h z hz)with e2|e2
        . subst e2;have h1:=hb'.1 x e;rcases List.mem_cons.1 hz with e3|e3
          . omega
          . have:=ha'.1 z e3;omega
        . exact e2
 exact hs.eq_of_length_le hl
theorem Vs{g:Grammar}{l:List Int}(hlen:g.prods.length<=60)(hrl:∀p∈g.prods,p.right.length<=8)(hl:∀x∈l,QI g x):∀(n:Nat) (c:List Int),jl c->(∀x∈l,x∈c)->(∀D,quy g l D->∀x∈c,D x)->(∀x∈c,QI g x)->961<=c.length+n->IsCl g l (qeW g n c)
 | n, c, hr,h1,h2,h3,hn=>by
   have hb:∀x∈c,0<=x/\x<0+(960:Nat):=λx hx=>by obtain ⟨h0,p,hp,_⟩:=h3 x hx;have:=(List.getElem?_eq_some_iff.1 hp).1;omega
   have hc:=yj hr hb
   match n with
   |0=>omega
   | n + 1=>
     unfold qeW;have up:∀x∈c,x∈qgk g c:=λx hx=>(JY x).2 (Or.inl hx);split
     . rename_i e;exact⟨hr,⟨h1,λx hx m p hp h4 h5=>by rw[<- e];exact(JY _).2 (Or.inr ⟨x,hx,m,p,rfl,hp,h4,h5⟩)⟩,h2⟩
     . rename_i e;refine Vs hlen hrl hl n _ (KX hr) (λx hx=>up x (h1 x hx)) (λD hD x hx=>?_) (λx hx=>?_) ?_
       . rcases (JY x).1 hx with h|⟨y,hy,m,p,rfl,hp,h4,h5⟩
         . exact h2 D hD x h
         . exact hD.2 y (h2 D hD y hy) m p hp h4 h5
       . rcases (JY x).1 hx with h|⟨y,hy,m,p,rfl,hp,h4,h5⟩
         . exact h3 x h
         . exact qfp hp
       . have: ¬ (qgk g c).length<=c.length:=λh=>e (J6 hr (KX hr) up h).symm
         omega
def qC(g:Grammar)(l:List Int):List Int:=qeW g 961 l
theorem qbD{g:Grammar}{l:List Int}(hlen:g.prods.length<=60)(hrl:∀p∈g.prods,p.right.length<=8)(hl:∀x∈l,QI g x)(hr:jl l):IsCl g l (qC g l):=
 Vs hlen hrl hl 961 l hr (λ_ h=>h) (λD hD=>hD.1) hl o_

theorem Xu{H:Nat->Option MObj}{id z n:Nat}{es es':List V}{ro:Bool}(hH:H id=some (.own z es ro))(he:ErL true H es es')(hn:es.length=n):Er true H (.msl id z 0 n) (.sl z false es'):=by obtain ⟨h1,h2⟩:=he.get;refine .msl id z 0 n es ro es' rfl hH o_ o_ λi c c' h3 h4=>?_;rw[Nat.zero_add]at h3;exact h2 i c c' h3 h4
theorem qbX{K:V->Prop}{k z off:Nat}{es cs:List V}{ro:Bool}{c:V}(hx:es[k]?=some (.agg cs))(hc:cs[off]?=some c)(hk:K c):onS (ldQ (some (.own z es ro)) false 1 k off) K:=by
 have e:ldQ (some (.own z es ro)) false 1 k off=some c:=by simp only[ldQ,hx,jZ];rw[if_neg (by simp[V.isAgg])];simp[QN,V.cells,hc]
 rw[e];exact hk
theorem qcA{K:St->Prop}{s:St}{id k z off:Nat}{es cs:List V}{v:V}(hx:es[k]?=some (.agg cs))(hv:v.cells=[v])(hc:v.okCell=true)(ha:v.isAgg=false)(ho:off<cs.length)
(hk:K (s.setO id (some (.own z (es.set k (.agg (cs.set off v))) false)))):onS (stQ s (some (.own z es false)) 1 id k off v) K:=by
 have e0:jh 1 z (.agg cs) v off=some (.agg (cs.set off v)):=by unfold jh;rw[if_neg (by rw[ha];simp[V.isAgg])];cases v<;>simp_all [V.isAgg]
 have e:stQ s (some (.own z es false)) 1 id k off v=some (s.setO id (some (.own z (es.set k (.agg (cs.set off v))) false))):=by simp only[stQ,hx,e0,hv,hc,List.length_singleton,and_self,if_true,Option.map_some]
 rw[e];exact hk
theorem qbn{K:St->Prop}{s:St}{id k z off:Nat}{es cs:List V}{v:V}{o:Option MObj}(hO:o=some (.own z es false))(hx:es[k]?=some (.agg cs))(hv:v.cells=[v])(hc:v.okCell=true)(ha:v.isAgg=false)(ho:off<cs.length)
(hk:K (s.setO id (some (.own z (es.set k (.agg (cs.set off v))) false)))):onS (stQ s o 1 id k off v) K:=by subst hO;exact qcA hx hv hc ha ho hk
theorem Zb{K:V->Prop}{k z off:Nat}{es cs:List V}{ro:Bool}{c:V}{o:Option MObj}(hO:o=some (.own z es ro))(hx:es[k]?=some (.agg cs))(hc:cs[off]?=some c)(hk:K c):onS (ldQ o false 1 k off) K:=by subst hO;exact qbX hx hc hk
theorem Gr.ok{H:Nat->Option MObj}{next z:Nat}{es:List V}{v:V}(h:Gr H next z es v):v.cells=[v]/\v.okCell=true/\v.isAgg=false:=by rcases h with rfl|⟨id,f,rfl,_⟩<;>exact⟨rfl,rfl,rfl⟩
theorem qbP{cls:Cls}{id:Nat}{s:St}{K:V->St->Prop}{z bytes:Nat}{vy:V}{ys:List V}(hcl:(cls == .t)=false)(hs:za s.H z ys vy)
(hb:ys.length *bytes<=140737488355328)(hl:ys.length<=maxLen)
(hk:K (.msl id z 0 ys.length) (s.setO id (some (.own z ys false)))):V7 cls id s K true z bytes (.sl z true []) vy:=by
 unfold V7;rw[hs.1 s rfl];refine⟨λe=>(by subst e;cases hcl),?_⟩;have e:qI id s true z (.sl z true []) ys=some (.msl id z 0 ys.length,s.setO id (some (.own z ys false)),ys.length):=by simp[qI]
 rw[e];exact⟨hb,hl,hk⟩
def qbq(s:Sym):List Decl->List Decl
 |[]=>[]
 |[d]=>[{d with syms:=d.syms++[s]}]
 |d::e::r=>d::qbq s (e::r)
theorem QS(s:Sym)(o:List Decl)(d:Decl):qbq s (o++[d])=o++[{d with syms:=d.syms++[s]}]:=by
 induction o with
 |nil=>rfl
 | cons a o ih=>
   cases o with
   |nil=>rfl
   |cons b o=>show a::qbq s (b::o++[d])=_;rw[ih];rfl
def yI(i:Nat)(x:Int)(out:List Decl):List Decl:=
 if x % 8 % 4=0 then out else if 4<x % 8/\out≠[]then qbq (jU i) out else out++[{kind:=1+x % 8 % 4,syms:=[jU i]}]
def jk(l:List Int):Nat->List Decl
 |0=>[]
 |i+1=>yI i (l.getD i 0) (jk l i)
def yC(l:List Int):List Decl:=jk l (min 4 l.length)
def DI(H:Nat->Option MObj)(next:Nat)(v:V)(out:List Decl):Prop:=
 (out=[]/\v=.sl 4 true [])\/ ∃id es k vS ss,∃(o:List Decl) (sy:List Sym),v=.msl id 4 0 (es.length+1)/\H id=some (.own 4 (es++[.agg [vi k,.str [],vS,vi 0]]) false)/\id<next/\Gr H next 4 ss vS/\Xf es (o.map Decl.V)/\Xf ss (sy.map Sym.V)/\out=o++[{kind:=k,syms:=sy}]/\es.length<=4/\ss.length<=4
theorem DI.mono{H H':Nat->Option MObj}{next next':Nat}{v:V}{out:List Decl}(h:DI H next v out)(hn:next<=next')(hH:∀j,j<next->H' j=H j):DI H' next' v out:=by
 rcases h with h|⟨id,es,k,vS,ss,o,sy,h1,h2,h3,h4,h5⟩
 . exact Or.inl h
 . exact Or.inr ⟨id,es,k,vS,ss,o,sy,h1,by rw[hH id h3];exact h2,o_,h4.mono hn (λj _ hj=>hH j hj),h5⟩
theorem Za{l :List Int}(hl:l.length<=1099511627776):Pure Tryz.prog 46 [.sl 1 false (l.map (V.int .i64))] (.sl 4 false ((yC l).map Decl.V)):=by
 refine pure_intro Tryz.func46 nm_ qrR (by show 1<=59;decide) ?_
 show ewp _ qts _ _;repeat' with_reducible first|refine s_ ?_|simp -implicitDefEqProofs only[wZZ,seval]
 refine qc ?nx1 (λ(i:Nat) s=>s.f 0=?v1_0/\s.f 4=vi i/\(i<=l.length)/\(i<=4)/\((∃v,s.f 3=v/\DI s.H s.next v (jk l i)/\(jk l i).length<=i/\∀d∈jk l i,d.syms.length<=i))) (λi=>l.length - i) (0) wj_ (by refine⟨?_,?_,wo_,wo_,(by exact⟨_,by simp -implicitDefEqProofs only[wL,seval],Or.inl ⟨rfl,rfl⟩,Nat.le_refl _,λd h=>by cases h⟩)⟩<;>first|(simp -implicitDefEqProofs only[wL,wM,wN,wX,seval,Option.some.injEq]<;>exact wt_)|rfl|exact⟨_,rfl⟩) ?_;intro i s hnx ⟨g0,g4,k1_0,k1_1,k1_2⟩;obtain ⟨v3,g3,hD,hln,hsy⟩:=k1_2;have hzi:=w1_ i;by_cases hi:i<l.length/\i<4
 . obtain ⟨hi1,hi4⟩:=hi;obtain ⟨q,hq⟩:∃q:Nat,l[i] % 8=q:=⟨(l[i] % 8).toNat,o_⟩;have hq8:q<8:=o_;have hm:(q:Int).tmod 4=((q % 4:Nat):Int):=(by rw[Int.tmod_eq_emod_of_nonneg o_];omega);have hst:jk l (i+1)=yI i l[i] (jk l i):=(by show yI i (l.getD i 0) _=_;rw[List.getD_eq_getElem?_getD,ge_ hi1];rfl);unfold yI at hst;rw[hq]at hst;by_cases h0:q % 4=0
   . rw[if_pos o_]at hst;repeat' with_reducible first|refine s_ ?_|simp -implicitDefEqProofs only[wZZ,seval,g0,g4,g3,hq,hm,hzi]|(first|apply qa|apply qy|apply qx)<;>intro h h_<;>(try simp only[wD,reduceCtorEq]at h_)<;>(try exact wb_)<;>(try simp only[h])|refine t_ ?_|refine zV we_ we_ (qV wf_ wf_) ?_
     refine⟨wk_,i+1,o_,?_⟩;refine⟨?_,?_,?_,?_,?_⟩;iterate 2 (focus(first|(simp -implicitDefEqProofs only[wL,wM,wN,wX,seval,Option.some.injEq,g0,g4]<;>exact wt_)|rfl|exact⟨_,rfl⟩))
     all_goals try omega
     exact⟨v3,rfl,by rw[hst];exact hD.mono o_ (λ_ _=>rfl),by rw[hst];omega,λd hd=>by rw[hst]at hd;have:=hsy d hd;omega⟩
   . rw [if_neg o_]at hst;have hqm:0<q % 4:=o_;have hz1:IntKind.i64.wrap (1+((q % 4:Nat):Int))=1+((q % 4:Nat):Int):=wrap64 o_ o_;rcases hD with ⟨h1,rfl⟩|⟨id,es,k,vS,ss,o,sy,rfl,h2,h3,h4,h5,h6,h7,h8,h9⟩
     . rw[h1,if_neg (by simp)]at hst;repeat' with_reducible first|refine s_ ?_|simp -implicitDefEqProofs only[wZZ,seval,g0,g4,g3,hq,hm,hzi,hz1]|(first|apply qa|apply qy|apply qx)<;>intro h h_<;>(try simp only[wD,reduceCtorEq]at h_)<;>(try exact wb_)<;>(try simp only[h])|(refine qbP rfl za.sl (by simp only[wZ]<;>omega) (by unfold maxLen;simp only[wZ]<;>omega) ?_)|refine t_ ?_|refine zV we_ we_ (qV wf_ wf_) ?_|refine jH we_ (j3 wf_ wf_) ?_
       all_goals
        refine⟨by(try simp only[wN])<;>omega,i+1,o_,trivial,rfl,o_,o_,_,rfl,?_,by rw[hst];simp,λd hd=>by rw[hst]at hd;simp at hd;subst hd;simp⟩;rw[hst];refine Or.inr ⟨_,[],1+((q % 4:Nat):Int),.sl 4 true [(jU i).V],[(jU i).V],[],[jU i],rfl,?_,by(try simp only[wN])<;>omega,Gr.clip,.nil,.cons qf .nil,by simp,by simp,by simp⟩;simp only[wM]
        repeat(first|rw[if_pos trivial]|rw[if_pos rfl]|rw[if_neg o_])
        rfl
     . have hol:o.length=es.length:=(by have:=h5.len;simpa using this);have hdl:(jk l i).length=o.length+1:=(by rw[h7];simp);have hzl:IntKind.i64.wrap (((es.length+1:Nat):Int) - 1)=(es.length:Int):=(by rw[wrap64 o_ o_];omega);by_cases hq4:4<q
       . rw [if_pos ⟨o_,by rw[h7];simp⟩,h7,QS]at hst;have hg1:(es++[V.agg [vi k,.str [],vS,vi 0]])[es.length]?=some (V.agg [vi k,.str [],vS,vi 0]):=(by simp);have hne:gid vS≠some id:=h4.ne (λf e=>by rw[h2]at e;cases e);repeat' with_reducible first|refine s_ ?_|simp -implicitDefEqProofs only[wZZ,seval,g0,g4,g3,hq,hm,hzi,hz1,hzl,h2,qb hne]|(first|apply qa|apply qy|apply qx)<;>intro h h_<;>(try simp only[wD,reduceCtorEq]at h_)<;>(try exact wb_)<;>(try simp only[h])|apply zC rfl (h4.mono (Nat.le_refl _) (λid h1 h2=>by(try simp only[wM]);(repeat rw[if_neg o_])));(focus(first|exact za.sl|exact za.asl));(focus(simp only[wZ]<;>omega));(focus(unfold maxLen;simp only[wZ]<;>omega))|(refine qbX hg1 rfl ?_)|apply qcA hg1;exact wu_;exact wu_;exact wu_;(focus(simp only[wZ]<;>omega))|refine t_ ?_|refine zV we_ we_ (qV wf_ wf_) ?_|refine jH we_ (j3 wf_ wf_) ?_|simp -implicitDefEqProofs (disch:=omega) only[w64,if_neg]
         have hsl:(es++[V.agg [vi k,.str [],vS,vi 0]]).length=es.length+1:=by simp
         all_goals
          refine⟨by(try simp only[wN])<;>omega,i+1,o_,trivial,rfl,o_,o_,_,rfl,?_,?_,λd hd=>?_⟩
          . rw[hst];refine Or.inr ⟨id,es,k,.asl (s.next+8+6+3+3+6+12) (ss.length+1) 4 (ss++[(jU i).V]),ss++[(jU i).V],o,sy++[jU i],rfl,?_,by(try simp only[wN])<;>omega,Gr.tok (fin:=ss.length+1) ?_ ?_,h5,?_,rfl,h8,?_⟩
            . simp only[wM]
              repeat(first|rw[if_pos trivial]|rw[if_pos rfl]|rw[if_neg o_])
              simp
            . simp only[wM]
              repeat(first|rw[if_pos trivial]|rw[if_pos rfl]|rw[if_neg o_])
            . (try simp only[wN])<;>omega
            . rw[List.map_append];exact h6.snoc qf
            . have:=hsy _ (show ({kind:=k,syms:=sy}:Decl)∈jk l i by rw[h7];simp);have:=h6.len;simp at *;omega
          . rw[hst];simp;omega
          . rw[hst]at hd;rcases List.mem_append.1 hd with hd|hd
            . have:=hsy d (by rw[h7];exact List.mem_append_left _ hd);omega
            . rw[List.mem_singleton]at hd;have:=hsy _ (show ({kind:=k,syms:=sy}:Decl)∈jk l i by rw[h7];simp);subst hd;simp at this ⊢;omega
       . rw [if_neg o_,h7]at hst;repeat' with_reducible first|refine s_ ?_|simp -implicitDefEqProofs only[wZZ,seval,g0,g4,g3,hq,hm,hzi,hz1,hzl,h2]|(first|apply qa|apply qy|apply qx)<;>intro h h_<;>(try simp only[wD,reduceCtorEq]at h_)<;>(try exact wb_)<;>(try simp only[h])|(refine Qt (es:=es++[V.agg [vi k,.str [],vS,vi 0]]) rfl (by simp only[wM];exact h2) (by simp) za.sl (by simp only[wZ]<;>omega) (by unfold maxLen;simp only[wZ]<;>omega) ?_)|refine t_ ?_|refine zV we_ we_ (qV wf_ wf_) ?_|refine jH we_ (j3 wf_ wf_) ?_
         all_goals
          refine⟨by(try simp only[wN])<;>omega,i+1,o_,trivial,rfl,o_,o_,_,rfl,?_,?_,λd hd=>?_⟩
          . rw[hst];refine Or.inr ⟨_,es++[V.agg [vi k,.str [],vS,vi 0]],1+((q % 4:Nat):Int),.sl 4 true [(jU i).V],[(jU i).V],o++[{kind:=k,syms:=sy}],[jU i],rfl,?_,by(try simp only[wN])<;>omega,Gr.clip,?_,.cons qf .nil,by simp,?_,by simp⟩
            . simp only[wM]
              repeat(first|rw[if_pos trivial]|rw[if_pos rfl]|rw[if_neg o_])
            . rw[List.map_append];exact h5.snoc (ErL.agg (.cons (.int _ _) (.cons (.str _) (.cons (h4.erL h6.up) (.cons (.int _ _) .nil)))))
            . simp;omega
          . rw[hst];simp;omega
          . rw[hst]at hd;rcases List.mem_append.1 hd with hd|hd
            . have:=hsy d (by rw[h7];exact hd);omega
            . rw[List.mem_singleton]at hd;subst hd;simp
 . have e:jk l i=yC l:=(by unfold yC;rw[show i=min 4 l.length by omega]);rcases hD with ⟨h1,rfl⟩|⟨id,es,k,vS,ss,o,sy,rfl,h2,h3,h4,h5,h6,h7,h8,h9⟩
   . repeat' with_reducible first|refine s_ ?_|simp -implicitDefEqProofs only[wZZ,seval,g0,g4,g3]|(first|apply qa|apply qy|apply qx)<;>intro h h_<;>(try simp only[wD,reduceCtorEq]at h_)<;>(try exact wb_)<;>(try simp only[h])
     rw[<- e,h1];all_goals refine qw rfl (Or.inr rfl) ?_
     all_goals(try simp -implicitDefEqProofs only[wL,seval,g0,g4])
     all_goals refine er_ ?_
     all_goals(try(with_reducible rfl))
     all_goals first|rfl|(rw[<- e,h1];rfl)
   . repeat' with_reducible first|refine s_ ?_|simp -implicitDefEqProofs only[wZZ,seval,g0,g4,g3]|(first|apply qa|apply qy|apply qx)<;>intro h h_<;>(try simp only[wD,reduceCtorEq]at h_)<;>(try exact wb_)<;>(try simp only[h])
     all_goals(rw[<- e,h7,List.map_append])
     all_goals(refine qw (t:=2) rfl (Or.inr rfl) ?_)
     all_goals(simp -implicitDefEqProofs only[wL,wM,seval])
     all_goals(refine Xu h2 (ErL.snoc h5.up (ErL.agg ?_)) (by simp))
     all_goals exact .cons (.int _ _) (.cons (.str _) (.cons (h4.erL h6.up) (.cons (.int _ _) .nil)))

structure GrI where
 nons:Int:=0
 rules:List (List Int):=[]
 levels:List Int:=[]
 inner:List Int:=[]
 bare:Bool:=false
 deriving DecidableEq,Inhabited
abbrev zQ(l:List Int):V:= .sl 1 false (l.map (V.int .i64))
@[reducible] def GrI.V(x:GrI):V:= .agg [vi x.nons,.sl 1 false (x.rules.map zQ),zQ x.levels,zQ x.inner,.bool x.bare]
def QZ:List UInt8:=[123,36,36,32,61,32,36,49,125]
def XF:List UInt8:=[123,102,40,36,36,41,125]
def qjC:List UInt8:=[101,114,114,111,114]
abbrev qj5(l:List Int)(n:Nat)(j:Nat):Sym:=KT (l.getD j 0) n
def qgx(inner:List Int)(i:Nat):Bool:=decide (i<inner.length) && decide ((inner.getD i 0).tmod 3=1)
def quV(inner:List Int)(i:Nat):Bool:=decide (i<inner.length) && !decide ((inner.getD i 0).tmod 2=0)
def j5(l:List Int)(n:Nat)(mid:Bool):Nat->List Part
 |0=>[]
 |j+1=>j5 l n mid j++[{sym:=qj5 l n (j+1)}]++(if j=0/\mid=true then[{code:=QZ}]else[])
def JR(l:List Int)(n:Nat):Nat->Bool
 |0=>true
 |j+1=>JR l n j && ((qj5 l n (j+1)).lit || decide ((qj5 l n (j+1)).name=qjC))
def qbV(l:List Int)(n:Nat)(inner:List Int)(i:Nat):Alt:=
 {parts:=j5 l n (qgx inner i) (min 4 (l.length - 1))++(if quV inner i=true then[{code:=XF}]else[])}
def KI(l:List Int)(n:Nat):Bool:=JR l n (min 4 (l.length - 1))
theorem qgm(l:List Int)(n:Nat)(mid:Bool)(j:Nat):(j5 l n mid j).length<=2 *j:=by
 induction j with
 |zero=>simp[j5]
 |succ j ih=>unfold j5;simp only[List.length_append,List.length_cons,List.length_nil];split<;>simp<;>omega
theorem getD_some{α:Type}{l:List α}{i:Nat}{d:α}(h:i<l.length):l[i]?=some (l.getD i d):=by rw[List.getD_eq_getElem?_getD,ge_ h];rfl
structure AltAt(s:St)(s0:St)(a:Nat)(ps:List Part)(pl:Bool):Prop where
 ex:∃vP es,s.H a=some (.own 6 [.agg [vP,.str [],.bool false,vi 0,vi 0,vi 0]] false)/\Gr s.H s.next 6 es vP/\Xf es (ps.map Part.V)/\∀j,gid vP=some j->s0.next<=j
 pl:s.f 10=.bool pl
 fr:∀t,t<10->s.f t=s0.f t
 hp:∀j,j<s0.next->j≠a->s.H j=s0.H j
 nx:s0.next<=s.next
theorem AltAt.mk1{s s0:St}{a:Nat}{ps:List Part}{pl:Bool}{vP:V}{es:List V}(h1:s.H a=some (.own 6 [.agg [vP,.str [],.bool false,vi 0,vi 0,vi 0]] false))(h2:Gr s.H s.next 6 es vP)(h3:Xf es (ps.map Part.V))(h4:∀j,gid vP=some j->s0.next<=j)
(h5:s.f 10=.bool pl)(h6:∀t,t<10->s.f t=s0.f t)(h7:∀j,j<s0.next->j≠a->s.H j=s0.H j)(h8:s0.next<=s.next):AltAt s s0 a ps pl:=⟨⟨vP,es,h1,h2,h3,h4⟩,h5,h6,h7,h8⟩
theorem qyH{s0:St}{x:GrI}{n i a xb:Nat}{E:EC}{Q:Exit->St->Prop}(hn:0<n)(hn4:n<=4)(hi:i<x.rules.length)(hi9:i<9)(hne:(x.rules.getD i [])≠[])(hb:(x.rules.getD i []).length<=1099511627776)(hib:x.inner.length<=1099511627776)
(f1:s0.f 1=.ptr xb 0 0)(f3:s0.f 3=vi n)(f7:s0.f 7=vi i)(f9:s0.f 9=.ptr a 0 0)(f10:s0.f 10=.bool true)(hx:s0.H xb=some (.own 5 [x.V] false))(ha:s0.H a=some (.own 6 [.agg [.sl 6 true [],.str [],.bool false,vi 0,vi 0,vi 0]] false))
(lx:xb<s0.next)(la:a<s0.next)(hax:a≠xb)
(hQ:∀s',AltAt s' s0 a (qbV (x.rules.getD i []) n x.inner i).parts (KI (x.rules.getD i []) n)->ewp Tryz.prog E Q s'):ewp Tryz.prog (.seq qhk (.seq qgA E)) Q s0:=by
 have hg:=getD_some (d:=[]) hi;generalize x.rules.getD i []=l at *;have hll:0<l.length:=List.length_pos_iff.2 hne;repeat' with_reducible first|refine s_ ?_|simp -implicitDefEqProofs only[wZZ,seval,f1,f3,f7,f9,f10]
 refine qc ?nx3 (λ(j:Nat) s=>s.f 1=?v3_1/\s.f 2=?v3_2/\s.f 3=?v3_3/\s.f 4=?v3_4/\s.f 5=?v3_5/\s.f 7=?v3_7/\s.f 8=?v3_8/\s.f 9=?v3_9/\s.f 11=vi ((j+1:Nat):Int)/\(j+1<=l.length)/\(j<=4)/\(AltAt s s0 a (j5 l n (qgx x.inner i) j) (JR l n j))) (λj=>l.length - j) (0) wj_ (by refine⟨?_,?_,?_,?_,?_,?_,?_,?_,?_,wo_,wo_,(by exact⟨⟨.sl 6 true [],[],by(simp only[wM];(repeat first|rw[if_pos trivial]|rw[if_pos rfl]|rw[if_neg o_]));exact ha,Gr.nil,.nil,λj h=>by cases h⟩,by(simp -implicitDefEqProofs only[wL,seval]);exact f10,λt ht=>by simp only[wL];repeat(first|rw[if_pos rfl]|rw[if_neg o_]),λj h1 h2=>by simp only[wM],wg_⟩)⟩<;>first|(simp -implicitDefEqProofs only[wL,wM,wN,wX,seval,Option.some.injEq]<;>exact wt_)|rfl|exact⟨_,rfl⟩) ?_;intro j s hnx ⟨g1,g2,g3,g4,g5,g7,g8,g9,g11,k3_0,k3_1,k3_2⟩;obtain ⟨⟨vP,es,o1,GP,eP,hfr⟩,hpl,hfl,hhp,hnx2⟩:=k3_2;have hx1:s.H xb=some (.own 5 [x.V] false):=by rw[hhp xb lx o_];exact hx
 have q1:=hfl 1 o_;have q3:=hfl 3 o_;have q7:=hfl 7 o_;have q9:=hfl 9 o_;rw[f1]at q1;rw[f3]at q3;rw[f7]at q7;rw[f9]at q9;have hzj:IntKind.i64.wrap ((j+1+1:Nat):Int)=((j+1+1:Nat):Int):=wrap64 o_ o_;have hPa:gid vP≠some a:=GP.ne (λf e=>by rw[o1]at e;cases e);have hPx:gid vP≠some xb:=GP.ne (λf e=>by rw[hx1]at e;cases e);have hle:=eP.len;have hle2:=qgm l n (qgx x.inner i) j;rw[List.length_map]at hle;by_cases hj:j+1<l.length/\j<4
 . have hgj:=getD_some (d:=(0:Int)) hj.1;have hsym:=qaV (x:=l.getD (j+1) 0) (nons:=n) o_ o_;have hps:j5 l n (qgx x.inner i) (j+1)=j5 l n (qgx x.inner i) j++[{sym:=qj5 l n (j+1)}]++(if j=0/\qgx x.inner i=true then[{code:=QZ}]else[]):=rfl;have hpp:JR l n (j+1)=(JR l n j && ((qj5 l n (j+1)).lit || decide ((qj5 l n (j+1)).name=qjC))):=rfl;have hpl2:=hpl;have hy:KT (l.getD (j+1) 0) n=qj5 l n (j+1):=rfl;rw[hy]at hsym;generalize qj5 l n (j+1)=y at *;generalize JR l n j=pl at *;obtain ⟨ynm,ylt,ynu,yat⟩:=y;by_cases hmid:i<x.inner.length/\j=0/\(x.inner.getD i 0).tmod 3=1
   . have hgi:=getD_some (d:=(0:Int)) hmid.1;have hmb:qgx x.inner i=true:=(by unfold qgx;rw[Bool.and_eq_true,decide_eq_true_eq,decide_eq_true_eq];exact⟨hmid.1,hmid.2.2⟩);rw[if_pos ⟨hmid.2.1,hmb⟩]at hps;cases pl<;>cases ylt
     all_goals
      repeat' with_reducible first|refine s_ ?_|simp -implicitDefEqProofs only[wZZ,seval,g1,g2,g3,g4,g5,g7,g8,g9,g11,f1,f3,f7,f9,hpl2,hx1,o1,hzj,qb hPa,qb hPx]|(first|apply qa|apply qy|apply qx)<;>intro h h_<;>(try simp only[wD,reduceCtorEq]at h_)<;>(try exact wb_)<;>(try simp only[h])|refine t_ ?_|refine cq2 hsym qf qf ?_|apply zC rfl (GP.mono (Nat.le_refl _) (λid h1 h2=>by(try simp only[wM]);(repeat rw[if_neg o_])));(focus(first|exact za.sl|exact za.asl));(focus(simp only[wZ]<;>omega));(focus(unfold maxLen;simp only[wZ]<;>omega))|apply qlq;(focus((try simp only[wM]);(repeat first|rw[if_pos trivial]|rw[if_pos rfl]|rw[if_neg o_]);(try rfl)));exact za.sl;(focus(simp only[wZ]<;>omega));(focus(unfold maxLen;simp only[wZ]<;>omega))|simp -implicitDefEqProofs (disch:=omega) only[w64,if_neg]
     all_goals
      refine⟨by(try simp only[wN])<;>omega,j+1,o_,trivial,trivial,trivial,trivial,trivial,trivial,trivial,trivial,rfl,o_,o_,?_⟩;apply AltAt.mk1
      . simp only[wM];(repeat first|rw[if_pos trivial]|rw[if_pos rfl]|rw[if_neg o_]);(try exact rfl)
      . exact Gr.tok wc_ wg_
      . rw[hps];(repeat rw[List.map_append]);refine(eP.snoc ?_).snoc ?_<;>exact qf
      . intro q hq;cases hq;omega
      . (simp -implicitDefEqProofs only[wL,seval]);rw[hpp];exact rfl
      . intro t ht;simp only[wL];(repeat first|rw[if_pos rfl]|rw[if_neg o_]);exact hfl t ht
      . intro q h1 h2;simp only[wM];(repeat first|rw[if_pos trivial]|rw[if_pos rfl]|rw[if_neg o_]|rw[qb (λe=>by have:=hfr _ e;omega)]);(try simp only[wM]);(repeat first|rw[if_pos trivial]|rw[if_pos rfl]|rw[if_neg o_]);exact hhp q h1 h2
      . ((try simp only[wN])<;>omega)
   . have hnm: ¬ (j=0/\qgx x.inner i=true):=λe=>hmid (by
      have:=e.2;unfold qgx at this;rw[Bool.and_eq_true,decide_eq_true_eq,decide_eq_true_eq]at this;exact⟨this.1,e.1,this.2⟩)
     rw[if_neg hnm,List.append_nil]at hps;by_cases hin:i<x.inner.length
     . have hgi:=getD_some (d:=(0:Int)) hin;by_cases hj0:j=0
       . have htm: ¬ (x.inner.getD i 0).tmod 3=1:=λe=>hmid ⟨hin,hj0,e⟩;clear hmid hnm;cases pl<;>cases ylt
         all_goals
          repeat' with_reducible first|refine s_ ?_|simp -implicitDefEqProofs only[wZZ,seval,g1,g2,g3,g4,g5,g7,g8,g9,g11,f1,f3,f7,f9,hpl2,hx1,o1,hzj,qb hPa,qb hPx]|(first|apply qa|apply qy|apply qx)<;>intro h h_<;>(try simp only[wD,reduceCtorEq]at h_)<;>(try exact wb_)<;>(try simp only[h])|refine t_ ?_|refine cq2 hsym qf qf ?_|apply zC rfl (GP.mono (Nat.le_refl _) (λid h1 h2=>by(try simp only[wM]);(repeat rw[if_neg o_])));(focus(first|exact za.sl|exact za.asl));(focus(simp only[wZ]<;>omega));(focus(unfold maxLen;simp only[wZ]<;>omega))|simp -implicitDefEqProofs (disch:=omega) only[w64,if_neg]
         all_goals
          refine⟨by(try simp only[wN])<;>omega,j+1,o_,trivial,trivial,trivial,trivial,trivial,trivial,trivial,trivial,rfl,o_,o_,?_⟩;apply AltAt.mk1
          . simp only[wM];(repeat first|rw[if_pos trivial]|rw[if_pos rfl]|rw[if_neg o_]);(try exact rfl)
          . exact Gr.tok wc_ wg_
          . rw[hps];(repeat rw[List.map_append]);refine eP.snoc ?_<;>exact qf
          . intro q hq;cases hq;omega
          . (simp -implicitDefEqProofs only[wL,seval]);rw[hpp];exact rfl
          . intro t ht;simp only[wL];(repeat first|rw[if_pos rfl]|rw[if_neg o_]);exact hfl t ht
          . intro q h1 h2;simp only[wM];(repeat first|rw[if_pos trivial]|rw[if_pos rfl]|rw[if_neg o_]|rw[qb (λe=>by have:=hfr _ e;omega)]);(try simp only[wM]);(repeat first|rw[if_pos trivial]|rw[if_pos rfl]|rw[if_neg o_]);exact hhp q h1 h2
          . ((try simp only[wN])<;>omega)
       . clear hmid hnm;cases pl<;>cases ylt
         all_goals
          repeat' with_reducible first|refine s_ ?_|simp -implicitDefEqProofs only[wZZ,seval,g1,g2,g3,g4,g5,g7,g8,g9,g11,f1,f3,f7,f9,hpl2,hx1,o1,hzj,qb hPa,qb hPx]|(first|apply qa|apply qy|apply qx)<;>intro h h_<;>(try simp only[wD,reduceCtorEq]at h_)<;>(try exact wb_)<;>(try simp only[h])|refine t_ ?_|refine cq2 hsym qf qf ?_|apply zC rfl (GP.mono (Nat.le_refl _) (λid h1 h2=>by(try simp only[wM]);(repeat rw[if_neg o_])));(focus(first|exact za.sl|exact za.asl));(focus(simp only[wZ]<;>omega));(focus(unfold maxLen;simp only[wZ]<;>omega))|simp -implicitDefEqProofs (disch:=omega) only[w64,if_neg]
         all_goals
          refine⟨by(try simp only[wN])<;>omega,j+1,o_,trivial,trivial,trivial,trivial,trivial,trivial,trivial,trivial,rfl,o_,o_,?_⟩;apply AltAt.mk1
          . simp only[wM];(repeat first|rw[if_pos trivial]|rw[if_pos rfl]|rw[if_neg o_]);(try exact rfl)
          . exact Gr.tok wc_ wg_
          . rw[hps];(repeat rw[List.map_append]);refine eP.snoc ?_<;>exact qf
          . intro q hq;cases hq;omega
          . (simp -implicitDefEqProofs only[wL,seval]);rw[hpp];exact rfl
          . intro t ht;simp only[wL];(repeat first|rw[if_pos rfl]|rw[if_neg o_]);exact hfl t ht
          . intro q h1 h2;simp only[wM];(repeat first|rw[if_pos trivial]|rw[if_pos rfl]|rw[if_neg o_]|rw[qb (λe=>by have:=hfr _ e;omega)]);(try simp only[wM]);(repeat first|rw[if_pos trivial]|rw[if_pos rfl]|rw[if_neg o_]);exact hhp q h1 h2
          . ((try simp only[wN])<;>omega)
     . have hgi:x.inner[i]?=none:=List.getElem?_eq_none o_;clear hmid hnm;cases pl<;>cases ylt
       all_goals
        repeat' with_reducible first|refine s_ ?_|simp -implicitDefEqProofs only[wZZ,seval,g1,g2,g3,g4,g5,g7,g8,g9,g11,f1,f3,f7,f9,hpl2,hx1,o1,hzj,qb hPa,qb hPx]|(first|apply qa|apply qy|apply qx)<;>intro h h_<;>(try simp only[wD,reduceCtorEq]at h_)<;>(try exact wb_)<;>(try simp only[h])|refine t_ ?_|refine cq2 hsym qf qf ?_|apply zC rfl (GP.mono (Nat.le_refl _) (λid h1 h2=>by(try simp only[wM]);(repeat rw[if_neg o_])));(focus(first|exact za.sl|exact za.asl));(focus(simp only[wZ]<;>omega));(focus(unfold maxLen;simp only[wZ]<;>omega))|simp -implicitDefEqProofs (disch:=omega) only[w64,if_neg]
       all_goals
        refine⟨by(try simp only[wN])<;>omega,j+1,o_,trivial,trivial,trivial,trivial,trivial,trivial,trivial,trivial,rfl,o_,o_,?_⟩;apply AltAt.mk1
        . simp only[wM];(repeat first|rw[if_pos trivial]|rw[if_pos rfl]|rw[if_neg o_]);(try exact rfl)
        . exact Gr.tok wc_ wg_
        . rw[hps];(repeat rw[List.map_append]);refine eP.snoc ?_<;>exact qf
        . intro q hq;cases hq;omega
        . (simp -implicitDefEqProofs only[wL,seval]);rw[hpp];exact rfl
        . intro t ht;simp only[wL];(repeat first|rw[if_pos rfl]|rw[if_neg o_]);exact hfl t ht
        . intro q h1 h2;simp only[wM];(repeat first|rw[if_pos trivial]|rw[if_pos rfl]|rw[if_neg o_]|rw[qb (λe=>by have:=hfr _ e;omega)]);(try simp only[wM]);(repeat first|rw[if_pos trivial]|rw[if_pos rfl]|rw[if_neg o_]);exact hhp q h1 h2
        . ((try simp only[wN])<;>omega)
 . have hjm:j=min 4 (l.length - 1):=o_;have hpl2:=hpl;have hps:(qbV l n x.inner i).parts=j5 l n (qgx x.inner i) j++(if quV x.inner i=true then[{code:=XF}]else[]):=(by unfold qbV;rw[hjm]);have hpp:KI l n=JR l n j:=(by unfold KI;rw[hjm]);rw[hpp]at hQ;by_cases hend:quV x.inner i=true
   . have h2:=hend;unfold quV at h2;rw[Bool.and_eq_true,decide_eq_true_eq,Bool.not_eq_true',decide_eq_false_iff_not]at h2;have hin:=h2.1;have htm:=h2.2;have hgi:=getD_some (d:=(0:Int)) hin;rw[if_pos hend]at hps;repeat' with_reducible first|refine s_ ?_|simp -implicitDefEqProofs only[wZZ,seval,g1,g2,g3,g4,g5,g7,g8,g9,g11,f1,f3,f7,f9,hpl2,hx1,o1,hzj,qb hPa,qb hPx]|(first|apply qa|apply qy|apply qx)<;>intro h h_<;>(try simp only[wD,reduceCtorEq]at h_)<;>(try exact wb_)<;>(try simp only[h])|refine t_ ?_|apply zC rfl (GP.mono (Nat.le_refl _) (λid h1 h2=>by(try simp only[wM]);(repeat rw[if_neg o_])));(focus(first|exact za.sl|exact za.asl));(focus(simp only[wZ]<;>omega));(focus(unfold maxLen;simp only[wZ]<;>omega))|simp -implicitDefEqProofs (disch:=omega) only[w64,if_neg]
     all_goals
      refine hQ _ ?_;apply AltAt.mk1
      . simp only[wM];(repeat first|rw[if_pos trivial]|rw[if_pos rfl]|rw[if_neg o_]);(try exact rfl)
      . exact Gr.tok wc_ wg_
      . rw[hps];(repeat rw[List.map_append]);refine eP.snoc ?_<;>exact qf
      . intro q hq;cases hq;omega
      . (simp -implicitDefEqProofs only[wL,seval,hpl])
      . intro t ht;simp only[wL];(repeat first|rw[if_pos rfl]|rw[if_neg o_]);exact hfl t ht
      . intro q h1 h2;simp only[wM];(repeat first|rw[if_pos trivial]|rw[if_pos rfl]|rw[if_neg o_]|rw[qb (λe=>by have:=hfr _ e;omega)]);(try simp only[wM]);(repeat first|rw[if_pos trivial]|rw[if_pos rfl]|rw[if_neg o_]);exact hhp q h1 h2
      . ((try simp only[wN])<;>omega)
   . have h2:=hend;rw[if_neg hend,List.append_nil]at hps;by_cases hin:i<x.inner.length
     . have hgi:=getD_some (d:=(0:Int)) hin;have htm:(x.inner.getD i 0).tmod 2=0:=by
        refine Classical.byContradiction λh=>hend ?_;unfold quV;rw[Bool.and_eq_true,decide_eq_true_eq,Bool.not_eq_true',decide_eq_false_iff_not];exact⟨hin,h⟩
       repeat' with_reducible first|refine s_ ?_|simp -implicitDefEqProofs only[wZZ,seval,g1,g2,g3,g4,g5,g7,g8,g9,g11,f1,f3,f7,f9,hpl2,hx1,o1,hzj,qb hPa,qb hPx]|(first|apply qa|apply qy|apply qx)<;>intro h h_<;>(try simp only[wD,reduceCtorEq]at h_)<;>(try exact wb_)<;>(try simp only[h])|refine t_ ?_
       all_goals
        refine hQ _ ?_;apply AltAt.mk1
        . simp only[wM];exact o1
        . exact GP.mono wg_ (λq _ _=>by simp only[wM])
        . rw[hps];exact eP
        . exact hfr
        . (simp -implicitDefEqProofs only[wL,seval,hpl])
        . intro t ht;simp only[wL];(repeat first|rw[if_pos rfl]|rw[if_neg o_]);exact hfl t ht
        . intro q h1 h2;simp only[wM];exact hhp q h1 h2
        . ((try simp only[wN])<;>omega)
     . repeat' with_reducible first|refine s_ ?_|simp -implicitDefEqProofs only[wZZ,seval,g1,g2,g3,g4,g5,g7,g8,g9,g11,f1,f3,f7,f9,hpl2,hx1,o1,hzj,qb hPa,qb hPx]|(first|apply qa|apply qy|apply qx)<;>intro h h_<;>(try simp only[wD,reduceCtorEq]at h_)<;>(try exact wb_)<;>(try simp only[h])|refine t_ ?_
       all_goals
        refine hQ _ ?_;apply AltAt.mk1
        . simp only[wM];exact o1
        . exact GP.mono wg_ (λq _ _=>by simp only[wM])
        . rw[hps];exact eP
        . exact hfr
        . (simp -implicitDefEqProofs only[wL,seval,hpl])
        . intro t ht;simp only[wL];(repeat first|rw[if_pos rfl]|rw[if_neg o_]);exact hfl t ht
        . intro q h1 h2;simp only[wM];exact hhp q h1 h2
        . ((try simp only[wN])<;>omega)

@[reducible] def qyD(vA:Nat->V)(k:Nat):V:= .agg [.str (V6 k),vA k,vi 0]
def qeJ(n:Nat)(vA:Nat->V):List V:=(List.range n).map (qyD vA)
theorem Zn(n:Nat)(vA:Nat->V):(qeJ n vA).length=n:=by simp[qeJ]
theorem ve{n k:Nat}{vA:Nat->V}(h:k<n):(qeJ n vA)[k]?=some (.agg [.str (V6 k),vA k,vi 0]):=by simp[qeJ,h]
theorem qfr{n k:Nat}{vA:Nat->V}{v:V}(h:k<n):(qeJ n vA).set k (.agg [.str (V6 k),v,vi 0])=qeJ n (qK vA k v):=by
 refine List.ext_getElem? λi=>?_;rw[List.getElem?_set];by_cases hi:i<n
 . rw[ve hi,Zn,ve hi];by_cases e:k=i
   . subst e;simp[hi,qK]
   . simp[e,qK,Ne.symm e]
 . rw[List.getElem?_eq_none (by rw[Zn];omega),List.getElem?_eq_none (by rw[Zn];omega)];rw[Zn];simp;omega
theorem qg3(n:Nat)(vA:Nat->V):qeJ (n+1) vA=qeJ n vA++[qyD vA n]:=by unfold qeJ;rw[List.range_succ,List.map_append];rfl
def ZW(n:Nat)(h:Nat->Bool):List V:=(List.range n).map λk=>V.bool (h k)
theorem Qf(n:Nat)(h:Nat->Bool):(ZW n h).length=n:=by simp[ZW]
theorem ZT{n k:Nat}{h:Nat->Bool}(hk:k<n):(ZW n h)[k]?=some (.bool (h k)):=by simp[ZW,hk]
theorem qk2{n k:Nat}{h:Nat->Bool}{v:Bool}(hk:k<n):(ZW n h).set k (.bool v)=ZW n (qK h k v):=by
 refine List.ext_getElem? λi=>?_;rw[List.getElem?_set];by_cases hi:i<n
 . rw[ZT hi,Qf,ZT hi];by_cases e:k=i
   . subst e;simp[hi,qK]
   . simp[e,qK,Ne.symm e]
 . rw[List.getElem?_eq_none (by rw[Qf];omega),List.getElem?_eq_none (by rw[Qf];omega)];rw[Qf];simp;omega
theorem qhZ(n:Nat):List.replicate n (V.bool false)=ZW n (λ_=>false):=by
 refine List.ext_getElem? λi=>?_;by_cases h:i<n
 . rw[ZT h];simp[h]
 . rw[List.getElem?_eq_none (by simp;omega),List.getElem?_eq_none (by rw[Qf];omega)]
theorem ldB{K:V->Prop}{nn k:Nat}{S:Nat->Bool}{ro:Bool}(h:k<nn)(hk:K (.bool (S k))):onS (ldQ (some (.own 1 (ZW nn S) ro)) false 1 k 0) K:=by
 have e:ldQ (some (.own 1 (ZW nn S) ro)) false 1 k 0=some (.bool (S k)):=by simp[ldQ,ZT h,jZ,V.isAgg]
 rw[e];exact hk
theorem stB{K:St->Prop}{s:St}{nn k id:Nat}{x:Bool}{S:Nat->Bool}(h:k<nn)(hk:K (s.setO id (some (.own 1 (ZW nn (qK S k x)) false)))):onS (stQ s (some (.own 1 (ZW nn S) false)) 1 id k 0 (.bool x)) K:=by
 have e:stQ s (some (.own 1 (ZW nn S) false)) 1 id k 0 (.bool x)=some (s.setO id (some (.own 1 (ZW nn (qK S k x)) false))):=by rw[<- qk2 h];simp[stQ,ZT h,V.cells,V.okCell,jh,V.isAgg]
 rw[e];exact hk
structure RW(H:Nat->Option MObj)(next rid n:Nat)(vA:Nat->V)(als:Nat->List V)(alts:Nat->List Alt):Prop where
 ho:H rid=some (.own 3 (qeJ n vA) false)
 lr:rid<next
 gr:∀k,k<n->Gr H next 6 (als k) (vA k)
 ep:∀k,k<n->Xf (als k) ((alts k).map Alt.V)
 sep:∀j k,j<n->k<n->j≠k->Sep (vA j) (vA k)
 len:∀k,k<n->(als k).length<=100
theorem RW.mono{H H':Nat->Option MObj}{next next' rid n:Nat}{vA:Nat->V}{als:Nat->List V}{alts:Nat->List Alt}(h:RW H next rid n vA als alts)(hn:next<=next')(hr:H' rid=H rid)(hH:∀k,k<n->∀j,gid (vA k)=some j->j<next->H' j=H j):RW H' next' rid n vA als alts:=
 ⟨by rw[hr];exact h.ho,by have:=h.lr;omega,λk hk=>(h.gr k hk).mono hn (hH k hk),h.ep,h.sep,h.len⟩
theorem RW.ne{H:Nat->Option MObj}{next rid n:Nat}{vA:Nat->V}{als:Nat->List V}{alts:Nat->List Alt}(h:RW H next rid n vA als alts){j:Nat}(hj:∀f,H j≠some (.tok f)){k:Nat}(hk:k<n):gid (vA k)≠some j:=(h.gr k hk).ne hj
theorem RW.put{H H':Nat->Option MObj}{next next' rid n k id:Nat}{vA:Nat->V}{als:Nat->List V}{alts:Nat->List Alt}{v:V}{a:Alt}(h:RW H next rid n vA als alts)(hk:k<n)(hv:ErP v a.V)
(hl:(als k).length<100)(hid:next<=id)(hid2:id<next')(hr:H' rid=some (.own 3 (qeJ n (qK vA k (.asl id ((als k).length+1) 6 (als k++[v])))) false))(ht:H' id=some (.tok ((als k).length+1)))
(hH:∀q,q<n->q≠k->∀j,gid (vA q)=some j->j<next->H' j=H j):
 RW H' next' rid n (qK vA k (.asl id ((als k).length+1) 6 (als k++[v]))) (qK als k (als k++[v])) (qK alts k (alts k++[a])):=by
 refine⟨hr,by have:=h.lr;omega,λq hq=>?_,λq hq=>?_,λj q hj hq hjq=>?_,λq hq=>?_⟩
 . unfold qK;by_cases e:q=k
   . subst e;simp only[if_true];exact Gr.tok ht hid2
   . simp only[if_neg e];exact(h.gr q hq).mono o_ (hH q hq e)
 . unfold qK;by_cases e:q=k
   . subst e;simp only[if_true];rw[List.map_append];exact(h.ep q hq).snoc hv
   . simp only[if_neg e];exact h.ep q hq
 . unfold qK;by_cases e:j=k
   . subst e;simp only[if_true,if_neg (Ne.symm hjq)];exact Sep.newL (h.gr q hq) hid
   . by_cases e2:q=k
     . subst e2;simp only[if_true,if_neg hjq];exact Sep.newR (h.gr j hj) hid
     . simp only[if_neg e,if_neg e2];exact h.sep j q hj hq hjq
 . unfold qK;by_cases e:q=k
   . subst e;simp only[if_true,List.length_append,List.length_cons,List.length_nil];omega
   . simp only[if_neg e];exact h.len q hq
def yK(x:GrI)(n:Nat)(i:Nat)(q:(Nat->List Alt)×(Nat->Bool)):(Nat->List Alt)×(Nat->Bool):=
 let l:=x.rules.getD i []
 if l=[]then q else
  let k:=(l.getD 0 0 % n).toNat
  (qK q.1 k (q.1 k++[qbV l n x.inner i]),qK q.2 k (q.2 k || KI l n))
def zb(x:GrI)(n:Nat):Nat->(Nat->List Alt)×(Nat->Bool)
 |0=>(λ_=>[],λ_=>false)
 |i+1=>yK x n i (zb x n i)
def Z9(bare:Bool)(q:(Nat->List Alt)×(Nat->Bool))(k:Nat):List Alt:=if q.1 k=[]\/(q.2 k=false/\bare=false)then q.1 k++[{parts:=[{sym:=jU k}]}]else q.1 k
def xW(x:GrI):Nat:=(1+x.nons % 4).toNat
def qz(x:GrI):Source:=
 {decls:=yC x.levels,rules:=(List.range (xW x)).map λ(k:Nat)=>{left:=V6 k,alts:=Z9 x.bare (zb x (xW x) (min 9 x.rules.length)) k}}

def vJ(token:Bool)(h:Nat->Bool)(l:List Int):Bool:=l.all λs=>if s<1000 then token else h (s - 1000).toNat
def Y0(g:Grammar)(token:Bool)(E:Nat->Bool):Prop:= ∀p∈g.prods,vJ token E p.right=true->E p.left.toNat=true
structure IsGrow(g:Grammar)(token:Bool)(E:Nat->Bool):Prop where
 closed:Y0 g token E
 least:∀F,Y0 g token F->∀k,E k=true->F k=true
theorem IsGrow.uniq{g:Grammar}{token:Bool}{E F:Nat->Bool}(h:IsGrow g token E)(k:IsGrow g token F):E=F:=by funext n;rw[Bool.eq_iff_iff];exact⟨h.least F k.closed n,k.least E h.closed n⟩
theorem qfI{token:Bool}{h F:Nat->Bool}(hh:∀k,h k=true->F k=true){l:List Int}(hl:vJ token h l=true):vJ token F l=true:=by
 unfold vJ at *;rw[List.all_eq_true]at *;intro s hs;have:=hl s hs;split
 . rename_i h1;rwa [if_pos h1]at this
 . rename_i h1;rw[if_neg h1]at this;exact hh _ this
theorem qgp{token:Bool}{h:Nat->Bool}{l:List Int}{i:Nat}(hi:i<l.length)(ht:∀s∈l.take i,(if s<1000 then token else h (s - 1000).toNat)=true):(if l[i]<1000 then token else h (l[i] - 1000).toNat)=false->vJ token h l=false:=λhf=>
 List.all_eq_false.2 ⟨l[i],List.getElem_mem hi,by rw[hf];exact Bool.false_ne_true⟩
def cf(h:Nat->Bool):Nat->Nat
 |0=>0
 |n+1=>cf h n+if h n=true then 0 else 1
theorem qlt{h:Nat->Bool}{k:Nat}(hk:h k=false):∀n,(n<=k->cf (qK h k true) n=cf h n)/\(k<n->cf (qK h k true) n+1=cf h n)
 |0=>⟨λ_=>rfl,λh=>by omega⟩
 | n +1=>by
   obtain ⟨h1,h2⟩:=qlt hk n;unfold cf;by_cases e:n=k
   . subst e;have e2:qK h n true n=true:=(by unfold qK;rw[if_pos rfl]);rw[e2,h1 (Nat.le_refl _),hk];exact⟨λh=>by omega,λ_=>by simp⟩
   . have e2:qK h k true n=h n:=(by unfold qK;rw[if_neg e]);rw[e2];exact⟨λh=>by rw[h1 o_],λh=>by have:=h2 o_;omega⟩
theorem qex(n:Nat)(h:Nat->Bool):Cls' (ZW n h):=inferInstanceAs (Cls' (List.map _ _))
theorem qjg{P:Program}[Glob P]{cls:Cls}{id:Nat}{s:St}{K:V->St->Prop}{f a:Opd}{fid:FuncId}{caps as':List V}{x res:V}(hf:ev s f=.fn fid caps)(ha:ev s a=x)(hc:(cls == .r)=false)(hE:Ers true s.H (x::caps) as')(hp:Pure P fid as' res)(hfl:Flat res)(hk:K res s):qg P cls id s K (.call f [a]):=by
 show (match funArgs (ev s f) ([a].map (ev s))with
  | some (fid,w0)=>
    (∃bor as' res,(cls=.r->bor=false)/\Ers bor s.H w0 as'/\Pure P fid as' res/\(bor=true->Flat res)/\K res s)\/
    (qsx cls=true/\ze P fid w0 s.H s.next λv H' next'=>qbW cls s.next s.H H' next'/\K v {s with H:=H',next:=next'})
  |none=>False)
 rw[hf];subst ha;exact Or.inl ⟨true,as',res,λe=>(by subst e;cases hc),hE,hp,λ_=>hfl,hk⟩
theorem qdr{p:GPr}{token:Bool}{h:Nat->Bool}{n:Nat}(hr:∀s∈p.right,s<1000\/ ∃k:Nat,s=1000+(k:Int)/\k<n)(hl:p.right.length<=1000000)(hn:n<=1000000):Pure Tryz.prog 136 [p.V,.iptr 1 (.bool token) 0,.iptr 1 (.sl 1 false (ZW n h)) 0] (.bool (vJ token h p.right)):=by
 refine pure_intro Tryz.func136 nm_ qpP (by show 3<=33;decide) ?_
 show ewp _ qnf _ _;repeat' with_reducible first|refine s_ ?_|simp -implicitDefEqProofs only[wZZ,seval]|refine t_ ?_
 refine qc ?nx1 (λ(i:Nat) s=>s.f 1=?v1_1/\s.f 2=?v1_2/\s.f 8=?v1_8/\s.f 9=?v1_9/\s.f 10=vi i/\(i<=p.right.length)/\(∀s∈p.right.take i,(if s<1000 then token else h (s - 1000).toNat)=true)) (λi=>p.right.length - i) (0) wj_ (by refine⟨?_,?_,?_,?_,?_,wo_,wo_⟩<;>first|(simp -implicitDefEqProofs only[wL,wM,wN,wX,seval,Option.some.injEq]<;>exact wt_)|rfl|exact⟨_,rfl⟩) ?_;intro i s hnx ⟨g1,g2,g8,g9,g10,k1_0,k1_1⟩;have hz:=w1_ i;by_cases hi:i<p.right.length
 . have hst:=qgp hi k1_1;have hnx:(if p.right[i]<1000 then token else h (p.right[i] - 1000).toNat)=true->∀s∈p.right.take (i+1),(if s<1000 then token else h (s - 1000).toNat)=true:=λhh s hs=>by
    rw[List.take_add_one,ge_ hi]at hs;rcases List.mem_append.1 hs with hs|hs
    . exact k1_1 s hs
    . simp at hs;subst hs;exact hh
   rcases hr _ (List.getElem_mem hi)with hs|⟨k,hk,hkn⟩
   . rw [if_pos hs]at hst hnx;cases token with
     | true=>
       repeat' with_reducible first|refine s_ ?_|simp -implicitDefEqProofs only[wZZ,seval,g1,g2,g8,g9,g10,hz]|(first|apply qa|apply qy|apply qx)<;>intro h h_<;>(try simp only[wD,reduceCtorEq]at h_)<;>(try exact wb_)<;>(try simp only[h])|refine t_ ?_
       refine⟨wk_,i+1,o_,?_⟩;refine⟨?_,?_,?_,?_,?_,?_,?_⟩;iterate 5 (focus(first|(simp -implicitDefEqProofs only[wL,wM,wN,wX,seval,Option.some.injEq,g1,g2,g8,g9,g10]<;>exact wt_)|rfl|exact⟨_,rfl⟩))
       all_goals try omega
       exact hnx rfl
     | false=>
       rw[hst rfl];repeat' with_reducible first|refine s_ ?_|simp -implicitDefEqProofs only[wZZ,seval,g1,g2,g8,g9,g10,hz]|(first|apply qa|apply qy|apply qx)<;>intro h h_<;>(try simp only[wD,reduceCtorEq]at h_)<;>(try exact wb_)<;>(try simp only[h])|refine t_ ?_
       refine qw rfl (Or.inr rfl) ?_;simp -implicitDefEqProofs only[wL,seval,g1,g2,g8,g9,g10];refine er_ ?_
       try(with_reducible rfl)
   . have hz2:IntKind.i64.wrap (1000+(k:Int) - 1000)=(k:Int):=(by rw[wrap64 o_ o_];omega);rw[if_neg o_,hk,show ((1000+(k:Int)) - 1000).toNat=k by omega]at hst hnx;have hbg:=ZT (h:=h) hkn;cases hb:h k with
     | true=>
       repeat' with_reducible first|refine s_ ?_|simp -implicitDefEqProofs only[wZZ,seval,g1,g2,g8,g9,g10,hz,hk,hz2,hb]|(first|apply qa|apply qy|apply qx)<;>intro h h_<;>(try simp only[wD,reduceCtorEq]at h_)<;>(try exact wb_)<;>(try simp only[h])|(apply yN (qlk o_ (by with_unfolding_all exact hbg)))|refine t_ ?_
       refine⟨wk_,i+1,o_,?_⟩;refine⟨?_,?_,?_,?_,?_,?_,?_⟩;iterate 5 (focus(first|(simp -implicitDefEqProofs only[wL,wM,wN,wX,seval,Option.some.injEq,g1,g2,g8,g9,g10]<;>exact wt_)|rfl|exact⟨_,rfl⟩))
       all_goals try omega
       exact hnx hb
     | false=>
       rw[hst hb];repeat' with_reducible first|refine s_ ?_|simp -implicitDefEqProofs only[wZZ,seval,g1,g2,g8,g9,g10,hz,hk,hz2,hb]|(first|apply qa|apply qy|apply qx)<;>intro h h_<;>(try simp only[wD,reduceCtorEq]at h_)<;>(try exact wb_)<;>(try simp only[h])|(apply yN (qlk o_ (by with_unfolding_all exact hbg)))|refine t_ ?_
       refine qw rfl (Or.inr rfl) ?_;simp -implicitDefEqProofs only[wL,seval,g1,g2,g8,g9,g10];refine er_ ?_
       try(with_reducible rfl)
 . rw[List.take_of_length_le o_]at k1_1;have e:vJ token h p.right=true:=List.all_eq_true.2 k1_1;rw[e];repeat' with_reducible first|refine s_ ?_|simp -implicitDefEqProofs only[wZZ,seval,g1,g2,g8,g9,g10]|apply qa<;>intro h h_<;>(try simp only[wD,reduceCtorEq]at h_)<;>(try exact wb_)<;>(try simp only[h])
   refine qw rfl (Or.inr rfl) ?_;simp -implicitDefEqProofs only[wL,seval,g1,g2,g8,g9,g10];refine er_ ?_
   try(with_reducible rfl)

theorem qh4{H:Nat->Option MObj}{id sz:Nat}{ro:Bool}{e e':V}(hH:H id=some (.own sz [e] ro))(h:Er true H e e'):Er true H (.ptr id 0 0) (.iptr sz e' 0):= .ptr id 0 0 sz _ ro _ _ rfl hH rfl h
theorem qi8{H:Nat->Option MObj}{id n:Nat}{ro:Bool}{h:Nat->Bool}(hH:H id=some (.own 1 (ZW n h) ro)):Er true H (.msl id 1 0 n) (.sl 1 false (ZW n h)):=by have:=qex n h;exact yw hH (by rw[Qf];omega) (by rw[List.drop_zero];exact List.take_of_length_le (by rw[Qf];omega))
instance gpr_cl(p:GPr):Cl p.V:=⟨λb H=>ErL.agg (.cons (.int _ _) (.cons qf (.cons (.int _ _) (.cons (.str _) (.cons qf (.cons (.int _ _) .nil))))))⟩
theorem GOk.rt{g:Grammar}(h:GOk g){p:GPr}(hp:p∈g.prods):∀s∈p.right,s<1000\/ ∃k:Nat,s=1000+(k:Int)/\k<g.nons.length:=λs hs=>by
 rcases h.right p hp s hs with ⟨t,e,l⟩|⟨k,e,l⟩
 . have:=h.tk2;exact Or.inl o_
 . exact Or.inr ⟨k,e,l⟩
theorem JG{g:Grammar}{token:Bool}(hg:GOk g):∃E,IsGrow g token E/\Pure Tryz.prog 120 [g.V,.bool token] (.sl 1 false (ZW g.nons.length E)):=by
 have hh:=qoR (G:=λv=>∃E,v=.sl 1 false (ZW g.nons.length E)/\IsGrow g token E) (args:=[g.V,.bool token]) Tryz.func120 nm_ qpv (by show 2<=40;decide) ?_
 . obtain ⟨v,⟨E,rfl,h⟩,h2⟩:=hh;exact⟨E,h,h2⟩
 show ewp _ qpV _ _;have hnl:=hg.nn2;have hpl:=hg.pl2;have hb0:=qhZ g.nons.length;repeat' with_reducible first|refine s_ ?_|simp -implicitDefEqProofs only[wZZ,seval]|refine t_ ?_|apply qdm;exact wu_;exact wu_;exact wu_|apply qaU;exact wf_;exact wf_;(focus(unfold maxLen;first|omega|(simp only[wZ]<;>omega)))
 rw[hb0];refine qc ?nx1 (λ(q:(Nat->Bool)×Bool) s=>s.f 2=?v1_2/\s.f 5=?v1_5/\s.f 6=?v1_6/\s.H 0=some (MObj.own 5 [g.V] false)/\s.H 1=some (MObj.own 1 [.bool token] false)/\s.H 7=some (MObj.own 1 [.msl 6 1 0 g.nons.length] false)/\s.f 7=.bool q.2/\((s.H 6=some (MObj.own 1 (ZW g.nons.length q.1) false)))/\((∀F,Y0 g token F->∀k,q.1 k=true->F k=true))/\((q.2=false->Y0 g token q.1))) (λq=>2 *cf q.1 g.nons.length+(if q.2=true then 1 else 0)) ((λ_=>false,true)) wj_ (by refine⟨?_,?_,?_,?_,?_,?_,?_,wc_,(by intro F _ k h;cases h),(by intro h;cases h)⟩<;>first|(simp -implicitDefEqProofs only[wL,wM,wN,wX,seval,Option.some.injEq]<;>exact wt_)|rfl|exact⟨_,rfl⟩) ?_;intro q s hnx ⟨g2,g5,g6,o0,o1,o2,g7,k1_0,k1_1,k1_2⟩;obtain ⟨h,b⟩:=q;dsimp only at *;cases b with
 | false=>
   have hcl:=k1_2 rfl;repeat' with_reducible first|refine s_ ?_|simp -implicitDefEqProofs only[wZZ,seval,g2,g5,g6,g7,o0,o1,o2,k1_0]|apply Y9;exact wu_
   refine⟨_,⟨h,rfl,hcl,k1_1⟩,Or.inr rfl,.msl 6 1 0 g.nons.length,?_,qi8 (ro:=false) ?_⟩
   . show qjW _ [.inl 4]=_;simp[qjW,qgy,one,wL]
   . (simp only[wM];(repeat first|rw[if_pos trivial]|rw[if_pos rfl]|rw[if_neg o_]));exact k1_0
 | true =>
   repeat' with_reducible first|refine s_ ?_|simp -implicitDefEqProofs only[wZZ,seval,g2,g5,g6,g7,o0,o1,o2,k1_0]|refine t_ ?_
   refine qc ?nx2 (λ(r:Nat×(Nat->Bool)×Bool) s=>s.f 2=?v2_2/\s.f 5=?v2_5/\s.f 6=?v2_6/\s.f 17=?v2_17/\s.f 18=?v2_18/\s.H 0=some (MObj.own 5 [g.V] false)/\s.H 1=some (MObj.own 1 [.bool token] false)/\s.H 7=some (MObj.own 1 [.msl 6 1 0 g.nons.length] false)/\s.f 7=.bool r.2.2/\s.f 19=vi r.1/\(r.1<=g.prods.length)/\((s.H 6=some (MObj.own 1 (ZW g.nons.length r.2.1) false)))/\((∀F,Y0 g token F->∀k,r.2.1 k=true->F k=true))/\((r.2.2=false->r.2.1=h/\∀p∈g.prods.take r.1,vJ token h p.right=true->h p.left.toNat=true))/\((r.2.2=true->cf r.2.1 g.nons.length<cf h g.nons.length))) (λr=>g.prods.length - r.1) ((0,h,false)) wj_ (by refine⟨?_,?_,?_,?_,?_,?_,?_,?_,?_,?_,wo_,(by(simp only[wM];(repeat first|rw[if_pos trivial]|rw[if_pos rfl]|rw[if_neg o_]));exact k1_0),(by exact k1_1),(by exact λ_=>⟨rfl,λp hp=>by simp at hp⟩),(by intro h;cases h)⟩<;>first|(simp -implicitDefEqProofs only[wL,wM,wN,wX,seval,Option.some.injEq,g2,g5,g6,g7,o0,o1,o2]<;>exact wt_)|rfl|exact⟨_,rfl⟩) ?_;intro r s hnx ⟨g2,g5,g6,g17,g18,o0,o1,o2,g7,g19,k2_0,k2_1,k2_2,k2_3,k2_4⟩;obtain ⟨i,h',b'⟩:=r;dsimp only at *;have hz:=w1_ i;by_cases hi:i<g.prods.length
   . have hmem:=List.getElem_mem hi;obtain ⟨lf,hl1,hl2⟩:=hg.left _ hmem;have hrt:=hg.rt hmem;have hrl:=hg.rlen _ hmem;have htk:g.prods.take (i+1)=g.prods.take i++[g.prods[i]]:=(by rw[List.take_add_one,ge_ hi];rfl);generalize hp:g.prods[i]=p at *;have hcl:=qdr (p:=p) (token:=token) (h:=h') (n:=g.nons.length) hrt o_ o_;have hgp:g.prods[i]?=some p:=(by rw[ge_ hi,hp]);have hpm:p∈g.prods:=hp ▸ List.getElem_mem hi;clear hp;obtain ⟨pl,pr,pc,pco,pa,pat⟩:=p;dsimp only at hl1 hrt hrl hcl;subst hl1;have hnew:(b'=false->h'=h/\∀p∈g.prods.take i,vJ token h p.right=true->h p.left.toNat=true)->(vJ token h' pr=true->h' lf=true)->(b'=false->h'=h/\∀p∈g.prods.take (i+1),vJ token h p.right=true->h p.left.toNat=true):=λq1 q2 hb=>by
      obtain ⟨e1,e2⟩:=q1 hb;refine⟨e1,λp hp hf=>?_⟩;rw[htk]at hp;rcases List.mem_append.1 hp with hp|hp
      . exact e2 p hp hf
      . rw[List.mem_singleton]at hp;subst hp;subst e1;exact q2 hf
     repeat' with_reducible first|refine s_ ?_|simp -implicitDefEqProofs only[wZZ,seval,g2,g5,g6,g17,g18,g7,g19,o0,o1,o2,k2_1,hz]|(first|apply qa|apply qy|apply qx)<;>intro h h_<;>(try simp only[wD,reduceCtorEq]at h_)<;>(try exact wb_)<;>(try simp only[h])|(refine ldB hl2 ?_)|refine t_ ?_|apply Y9;exact wu_|simp -implicitDefEqProofs (disch:=omega) only[w64,if_neg]
     . refine qjg (fid:=136) (caps:=[.ptr 1 0 0,.ptr 7 0 0]) (as':=[GPr.V {left:=lf,right:=pr,prec:=pc,code:=pco,args:=pa,at_:=pat},.iptr 1 (.bool token) 0,.iptr 1 (.sl 1 false (ZW g.nons.length h')) 0]) (x:=GPr.V {left:=lf,right:=pr,prec:=pc,code:=pco,args:=pa,at_:=pat}) (by rfl) (by rfl) rfl ?_ hcl (Flat.bool _) ?_
       . refine qP qf (qP (qh4 (ro:=false) (by(simp only[wM];(repeat first|rw[if_pos trivial]|rw[if_pos rfl]|rw[if_neg o_]));exact o1) (.bool _)) (qP (qh4 (ro:=false) (by(simp only[wM];(repeat first|rw[if_pos trivial]|rw[if_pos rfl]|rw[if_neg o_]));exact o2) (qi8 (ro:=false) (by(simp only[wM];(repeat first|rw[if_pos trivial]|rw[if_pos rfl]|rw[if_neg o_]));exact k2_1))) jy))
       cases hfit:vJ token h' pr with
       | true=>
         repeat' with_reducible first|refine s_ ?_|simp -implicitDefEqProofs only[wZZ,seval,g2,g5,g6,g17,g18,g7,g19,o0,o1,o2,k2_1,hz]|(refine stB hl2 ?_)|refine t_ ?_|apply Y9;exact wu_|simp -implicitDefEqProofs (disch:=omega) only[w64,if_neg]
         refine⟨wg_,(i+1,qK h' lf true,true),by dsimp only;omega,trivial,trivial,trivial,trivial,trivial,trivial,trivial,trivial,rfl,rfl,by dsimp only;omega,rfl,λF hF k hk=>?_,λe=>(by cases e),λ_=>?_⟩
         . dsimp only at hk;unfold qK at hk;split at hk
           . rename_i e;subst e;exact hF _ hpm (qfI (k2_2 F hF) hfit)
           . exact k2_2 F hF k hk
         . have:=(qlt (h:=h') (k:=lf) (by assumption) g.nons.length).2 hl2
           show cf (qK h' lf true) g.nons.length<_;cases b' with
           |false=>have e:=(k2_3 rfl).1;subst e;omega
           |true=>have:=k2_4 rfl;omega
       | false=>
         repeat' with_reducible first|refine s_ ?_|simp -implicitDefEqProofs only[wZZ,seval,g2,g5,g6,g17,g18,g7,g19,o0,o1,o2,k2_1,hz]|simp -implicitDefEqProofs (disch:=omega) only[w64,if_neg]
         refine⟨wg_,(i+1,h',b'),by dsimp only;omega,trivial,trivial,trivial,trivial,trivial,trivial,trivial,trivial,rfl,rfl,by dsimp only;omega,rfl,k2_2,hnew k2_3 (λe=>by rw[hfit]at e;cases e),k2_4⟩
     . refine⟨wg_,(i+1,h',b'),by dsimp only;omega,trivial,trivial,trivial,trivial,trivial,trivial,trivial,trivial,rfl,rfl,by dsimp only;omega,rfl,k2_2,hnew k2_3 (λ_=>by assumption),k2_4⟩
   . have e:i=g.prods.length:=o_;subst e;rw[List.take_length]at k2_3;repeat' with_reducible first|refine s_ ?_|simp -implicitDefEqProofs only[wZZ,seval,g2,g5,g6,g17,g18,g7,g19,o0,o1,o2,k2_1]
     refine⟨wg_,(h',b'),?_,trivial,trivial,trivial,trivial,trivial,trivial,rfl,rfl,k2_2,λhb=>?_⟩
     . dsimp only;cases b' with
       |false=>have e:=(k2_3 rfl).1;subst e;simp
       |true=>have:=k2_4 rfl;simp;omega
     . obtain ⟨e1,e2⟩:=k2_3 hb;dsimp only;rw[e1];exact e2
end Go.Proofs
