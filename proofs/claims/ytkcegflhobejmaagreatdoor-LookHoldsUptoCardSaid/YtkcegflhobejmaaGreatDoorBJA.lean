import Derived.Test.YtkcegflhobejmaaGreatDoorBGC
set_option maxRecDepth 20000
set_option linter.all false
namespace Go.Proofs
open Go.E
def vW(nt nn:Nat)(s:Int):Prop:=(∃t:Nat,s=t/\t<nt)\/ ∃k:Nat,s=1000+(k:Int)/\k<nn
structure GOk(g:Grammar):Prop where
 tk:3<=g.toks.length
 tk2:g.toks.length<=40
 nn:1<=g.nons.length
 nn2:g.nons.length<=24
 pl:1<=g.prods.length
 pl2:g.prods.length<=60
 left:∀p∈g.prods,∃l:Nat,p.left=l/\l<g.nons.length
 rlen:∀p∈g.prods,p.right.length<=8
 right:∀p∈g.prods,∀s∈p.right,vW g.toks.length g.nons.length s
 prec:∀p∈g.prods,p.prec= -1\/ ∃t:Nat,p.prec=t/\t<g.toks.length
 head:∃p r,g.prods=p::r/\p.left=0/\(∃k:Nat,p.right=[1000+(k:Int)]/\k<g.nons.length)
structure MInv(m:Mk):Prop where
 tk:3<=m.toks.length
 inn:0<=m.inner
 left:∀p∈m.prods,0<=p.left/\p.left<=m.lefts.length+m.inner
 right:∀p∈m.prods,∀s∈p.right,vW m.toks.length (1+m.lefts.length+m.inner.toNat) s
 prec:∀p∈m.prods,p.prec= -1\/(0<=p.prec/\p.prec<m.toks.length)
theorem vW.mono{a b a' b':Nat}{s:Int}(h:vW a b s)(h1:a<=a')(h2:b<=b'):vW a' b' s:=by
 rcases h with ⟨t,e,l⟩|⟨k,e,l⟩
 . exact Or.inl ⟨t,e,o_⟩
 . exact Or.inr ⟨k,e,o_⟩
theorem MInv.up{m m':Mk}(h:MInv m)(hp:m'.prods=m.prods)(ht:m.toks.length<=m'.toks.length)(hl:m'.lefts=m.lefts)(hi:m.inner<=m'.inner):MInv m':=by
 have:=h.inn;refine⟨by have:=h.tk;omega,o_,λp hq=>?_,λp hq s hs=>?_,λp hq=>?_⟩
 . rw[hp]at hq;have:=h.left p hq;rw[hl];omega
 . rw[hp]at hq;rw[hl];exact(h.right p hq s hs).mono ht o_
 . rw[hp]at hq;rcases h.prec p hq with h|⟨h1,h2⟩
   . exact Or.inl h
   . exact Or.inr ⟨h1,o_⟩
variable {p:GPr}
theorem MInv.put{m:Mk}(h:MInv m)(h1:0<=p.left/\p.left<=m.lefts.length+m.inner)(h2:∀s∈p.right,vW m.toks.length (1+m.lefts.length+m.inner.toNat) s)(h3:p.prec= -1\/(0<=p.prec/\p.prec<m.toks.length)):MInv {m with prods:=m.prods++[p]}:=by
 refine⟨h.tk,h.inn,λq hq=>?_,λq hq=>?_,λq hq=>?_⟩<;>rcases List.mem_append.1 hq with hq|hq
 . exact h.left q hq
 . rw[List.mem_singleton]at hq;subst hq;exact h1
 . exact h.right q hq
 . rw[List.mem_singleton]at hq;subst hq;exact h2
 . exact h.prec q hq
 . rw[List.mem_singleton]at hq;subst hq;exact h3
theorem qjt{m:Mk}(x:Sym)(ht:3<=m.toks.length)(hi:0<=m.inner):vW (yJ m x).1.toks.length (1+m.lefts.length+m.inner.toNat) (yJ m x).2/\(x.lit=true\/qD x.name m.lefts 0<0->0<=(yJ m x).2/\(yJ m x).2<(yJ m x).1.toks.length):=by
 have hb:=qic m x o_;have hl:=jH x.name m.lefts 0;have htk:=qbe x m.toks o_;have hf:=(zP m x.at_ x.name).1;have tokI:∀{n:Nat} {s:Int},0<=s->s<n->vW n (1+m.lefts.length+m.inner.toNat) s:=λh1 h2=>Or.inl ⟨_,(Int.toNat_of_nonneg h1).symm,o_⟩;unfold yJ;split
 . exact⟨tokI hb.1 hb.2,λ_=>hb⟩
 . rename_i hx;split
   . rename_i h0;refine⟨Or.inr ⟨(1+qD x.name m.lefts 0).toNat,d_,o_⟩,λh=>?_⟩;rcases h with h|h
     . exact absurd h hx
     . omega
   . split
     . dsimp only;rw[hf];exact⟨tokI o_ o_,λ_=>⟨o_,o_⟩⟩
     . dsimp only;exact⟨tokI o_ o_,λ_=>⟨o_,o_⟩⟩
theorem Ye:∀(l:List Part) (m:Mk) (p:GPr),MInv m->(∀s∈p.right,vW m.toks.length (1+m.lefts.length+m.inner.toNat) s)->MInv (zR l (m,p)).1/\∀s∈(zR l (m,p)).2.right,vW (zR l (m,p)).1.toks.length (1+(zR l (m,p)).1.lefts.length+(zR l (m,p)).1.inner.toNat) s
 |[],m,p,h,hp=>by rw[JM];exact⟨h,hp⟩
 | w :: r, m,p,h,hp=>by
   rw[vU];obtain ⟨y1,y2,y3,y4,y5,y6,y7,y8⟩:=Qo m w.sym;have hs:=(qjt w.sym h.tk h.inn).1;have hi:=h.inn;split
   . refine Ye r _ _ (h.up y3 y7 y2 o_) λs hs2=>?_;rw[y2,y6];rcases List.mem_append.1 hs2 with hs2|hs2
     . exact(hp s hs2).mono y7 (Nat.le_refl _)
     . rw[List.mem_singleton]at hs2;subst hs2;exact hs
   . split
     . exact⟨h,hp⟩
     . refine Ye r _ _ ?_ λs hs2=>?_
       . refine(h.up (m':={m with inner:=m.inner+1}) rfl (Nat.le_refl _) rfl d_).put ⟨d_,d_⟩ (λs hs2=>by cases hs2) (Or.inl rfl)
       . dsimp only at hs2 ⊢;rcases List.mem_append.1 hs2 with hs2|hs2
         . exact(hp s hs2).mono (Nat.le_refl _) o_
         . rw[List.mem_singleton]at hs2;exact Or.inr ⟨m.lefts.length+(m.inner+1).toNat,by rw[hs2];omega,o_⟩
theorem qcI(n:Nat):∀(l:List Int) (p:Int),(∀s∈l,0<=s/\(s<1000->s<n))->(p= -1\/(0<=p/\p<n))->(yS l p= -1\/(0<=yS l p/\yS l p<n))
 |[],p,_,hp=>hp
 | x::r,p,h,hp=>by
   rw[yS];refine qcI n r _ (λs hs=>h s (List.mem_cons_of_mem _ hs)) ?_;split
   . rename_i hx;have:=h x (by simp);exact Or.inr ⟨this.1,this.2 hx⟩
   . exact hp
theorem qg3{m:Mk}(n:List UInt8)(a:Alt)(h:MInv m):MInv (Yb m n a):=by
 have hl:=jH n m.lefts 0;obtain ⟨g1,g2,g3,g4,g5,g6,g7,g8,g9,g10⟩:=Va a.parts m {left:=1+qD n m.lefts 0,prec:= -1,at_:=a.at_};obtain ⟨h1,h2⟩:=Ye a.parts m {left:=1+qD n m.lefts 0,prec:= -1,at_:=a.at_} h (λs hs=>by cases hs);have hi:=h.inn;unfold Yb;dsimp only;generalize zR a.parts (m,{left:=1+qD n m.lefts 0,prec:= -1,at_:=a.at_})=q at *;have hlf:0<=q.2.left/\q.2.left<=q.1.lefts.length+q.1.inner:=by rw[g5,g1];dsimp only;omega
 obtain ⟨ff1,ff2,ff3,ff4,ff5,ff6,ff7,ff8⟩:=zP q.1 a.prec.at_ a.prec.name;split
 . split
   . rename_i hc;obtain ⟨y1,y2,y3,y4,y5,y6,y7,y8⟩:=Qo q.1 a.prec;have hs:=(qjt a.prec h1.tk h1.inn).2 (by rcases hc with hc|hc<;>simp[hc]);refine(h1.up y3 y7 y2 o_).put (by rw[y2,y6];exact hlf) (λs hs2=>?_) (Or.inr hs);rw[y2,y6];exact(h2 s hs2).mono y7 (Nat.le_refl _)
   . refine(h1.up (m':=zu q.1 a.prec.at_ a.prec.name) ff5 (by rw[ff1];omega) ff3 o_).put (p:={q.2 with prec:= -1,args:=q.2.right}) (by rw[ff3,ff8];exact hlf) (λs hs2=>by rw[ff1,ff3,ff8];exact h2 s hs2) (Or.inl rfl) |> λhh=>?_
     rw[ff5]at hh;exact hh
 . refine h1.put hlf h2 ?_;refine qcI _ _ _ (λs hs=>?_) (Or.inl rfl);rcases h2 s hs with ⟨t,e,l⟩|⟨k,e,l⟩
   . exact⟨o_,λ_=>o_⟩
   . exact⟨o_,λ_=>o_⟩
theorem Vx(n:List UInt8):∀(l:List Alt) (m:Mk),MInv m->MInv (zX n l m)
 |[],m,h=>h
 |a::r,m,h=>by rw[yx];exact Vx n r _ (qg3 n a h)
theorem qfb:∀(l:List Rule) (m:Mk),MInv m->MInv (vH l m)
 |[],m,h=>h
 |r::l,m,h=>by rw[kN];exact qfb l _ (Vx r.left r.alts m h)
def HdP(P:GPr)(m:Mk):Prop:= ∃r,m.prods=P::r
theorem qax(P:GPr):∀(l:List Part) (m:Mk) (p:GPr),HdP P m->HdP P (zR l (m,p)).1
 |[],m,p,h=>h
 | w ::r,m,p,h=>by
   rw[vU];obtain ⟨y1,y2,y3,y4,y5,y6,y7,y8⟩:=Qo m w.sym;obtain ⟨t,ht⟩:=h;split
   . exact qax P r _ _ ⟨t,by rw[y3];exact ht⟩
   . split
     . exact⟨t,ht⟩
     . exact qax P r _ _ ⟨_,by dsimp only;rw[ht];rfl⟩
theorem qoD(P:GPr){m:Mk}(n:List UInt8)(a:Alt)(h:HdP P m):HdP P (Yb m n a):=by
 have h1:=qax P a.parts m {left:=1+qD n m.lefts 0,prec:= -1,at_:=a.at_} h;unfold Yb;dsimp only;generalize zR a.parts (m,{left:=1+qD n m.lefts 0,prec:= -1,at_:=a.at_})=q at *;obtain ⟨t,ht⟩:=h1;obtain ⟨y1,y2,y3,y4,y5,y6,y7,y8⟩:=Qo q.1 a.prec;split
 . split
   . exact⟨_,by dsimp only;rw[y3,ht];rfl⟩
   . exact⟨_,by dsimp only;rw[ht];rfl⟩
 . exact⟨_,by dsimp only;rw[ht];rfl⟩
theorem qcF(P:GPr)(n:List UInt8):∀(l:List Alt) (m:Mk),HdP P m->HdP P (zX n l m)
 |[],m,h=>h
 |a::r,m,h=>by rw[yx];exact qcF P n r _ (qoD P n a h)
theorem qe2(P:GPr):∀(l:List Rule) (m:Mk),HdP P m->HdP P (vH l m)
 |[],m,h=>h
 |r::l,m,h=>by rw[kN];exact qe2 P l _ (qcF P r.left r.alts m h)
theorem Vp(g:List Bool):∀(f i:Nat) (l:List Tok) (n:Int),(qal g f i (l,n)).1.length=l.length
 |0,i,l,n=>rfl
 | f+1,i,l,n=>by
   rw[KI];split
   . exact Vp g f _ _ _
   . rw[Vp];simp
theorem qdc(d:Decl):∀(l:List Sym) (m:Mk) (st:List UInt8),Qf m (zY d l (m,st)).1/\m.toks.length<=(zY d l (m,st)).1.toks.length
 |[],m,st=>⟨⟨rfl,rfl,rfl,rfl⟩,Nat.le_refl _⟩
 | x ::r,m,st=>by
   rw[Xz];obtain ⟨⟨a1,a2,a3,a4⟩,_,h2,_⟩:=qjF m d x;obtain ⟨ff1,ff2,ff3,ff4,ff5,ff6,ff7,ff8⟩:=zP m x.at_ x.name;split
   . obtain ⟨⟨b1,b2,b3,b4⟩,k2⟩:=qdc d r (kS m d x) st;exact⟨⟨b1.trans a1,b2.trans a2,b3.trans a3,b4.trans a4⟩,o_⟩
   . have key:∀m',Qf m m'->m.toks.length<=m'.toks.length->Qf m (zY d r (m',x.name)).1/\m.toks.length<=(zY d r (m',x.name)).1.toks.length:=λm' hm ht=>by
      obtain ⟨⟨b1,b2,b3,b4⟩,k2⟩:=qdc d r m' x.name;exact⟨⟨b1.trans hm.1,b2.trans hm.2.1,b3.trans hm.2.2.1,b4.trans hm.2.2.2⟩,o_⟩
     split
     . exact key _ ⟨ff3,ff5,ff6,ff8⟩ (by rw[ff1];omega)
     . exact key _ ⟨rfl,rfl,rfl,rfl⟩ (Nat.le_refl _)
theorem qgG:∀(l:List Decl) (m:Mk) (st:List UInt8),Qf m (jY l (m,st)).1/\m.toks.length<=(jY l (m,st)).1.toks.length
 |[],m,st=>⟨⟨rfl,rfl,rfl,rfl⟩,Nat.le_refl _⟩
 | d::r,m,st=>by
   rw[J8];have key:∀m',Qf m m'->m.toks.length<=m'.toks.length->Qf m (jY r (zY d d.syms (m',st))).1/\m.toks.length<=(jY r (zY d d.syms (m',st))).1.toks.length:=λm' hm ht=>by obtain ⟨⟨a1,a2,a3,a4⟩,k1⟩:=qdc d d.syms m' st;obtain ⟨⟨b1,b2,b3,b4⟩,k2⟩:=qgG r (zY d d.syms (m',st)).1 (zY d d.syms (m',st)).2;exact⟨⟨b1.trans (a1.trans hm.1),b2.trans (a2.trans hm.2.1),b3.trans (a3.trans hm.2.2.1),b4.trans (a4.trans hm.2.2.2)⟩,by show m.toks.length<=(jY r ((zY d d.syms (m',st)).1,(zY d d.syms (m',st)).2)).1.toks.length;omega⟩
   split
   . exact key _ ⟨rfl,rfl,rfl,rfl⟩ (Nat.le_refl _)
   . exact key _ ⟨rfl,rfl,rfl,rfl⟩ (Nat.le_refl _)
theorem qiD:∀(l:List Rule) (m:Mk),(yh l m).toks=m.toks/\(yh l m).inner=m.inner/\(yh l m).nons=m.nons
 |[],m=>⟨rfl,rfl,rfl⟩
 | r::l,m=>by
   rw[Xp];obtain ⟨d1,d2,d3,d4,d5,d6⟩:=qeO m r;obtain ⟨h1,h2,h3⟩:=qiD l (XQ (Zi m r) r.left);have e:(XQ (Zi m r) r.left).toks=m.toks/\(XQ (Zi m r) r.left).inner=m.inner/\(XQ (Zi m r) r.left).nons=m.nons:=by
    unfold XQ;split
    . exact⟨d1,d6,d5⟩
    . exact⟨d1,d6,d5⟩
   exact⟨h1.trans e.1,h2.trans e.2.1,h3.trans e.2.2⟩
theorem qaw(kind:Int):∀(l:List Sym) (m:Mk),yo m (j5 kind l m)
 |[],m=>yo.rfl' m
 |x::r,m=>by rw[kU];exact(qlG m kind x).trans' (qaw kind r _)
theorem qdO:∀(l:List Decl) (m:Mk),yo m (Qv l m)
 |[],m=>yo.rfl' m
 |d::r,m=>by rw[Zl];exact(qaw d.kind d.syms m).trans' (qdO r _)
def qbl(src:Source):Mk:=Qv src.decls (yh src.rules (jY src.decls ({},[])).1)
def Qn(src:Source):List UInt8:=if (jY src.decls ({},[])).2=[]then(src.rules.headD {}).left else(jY src.decls ({},[])).2
def VW(src:Source):GPr:={left:=0,right:=[1001+qD (Qn src) (qbl src).lefts 0],prec:= -1}
theorem qav(src:Source):xG src=vH src.rules {qbl src with prods:=[VW src]}:=rfl
theorem qlW(src:Source):3<=(qbl src).toks.length/\(qbl src).inner=0/\(qbl src).nons=[]:=by
 obtain ⟨⟨a1,a2,a3,a4⟩,k1⟩:=qgG src.decls {} [];obtain ⟨l1,l2,l3⟩:=qiD src.rules (jY src.decls ({},[])).1;obtain ⟨u1,u2,u3,u4,u5,u6,u7⟩:=qdO src.decls (yh src.rules (jY src.decls ({},[])).1);refine⟨?_,?_,?_⟩
 . show 3<=(Qv _ _).toks.length;rw[u1,l1];exact k1
 . show (Qv _ _).inner=0;rw[u7,l2];exact a4
 . show (Qv _ _).nons=[];rw[u6,l3];exact a3
theorem qjX(src:Source):MInv (xG src)/\HdP (VW src) (xG src):=by
 obtain ⟨h1,h2,h3⟩:=qlW src;have hl:=jH (Qn src) (qbl src).lefts 0;rw[qav];refine⟨qfb _ _ ⟨h1,d_,λp hp=>?_,λp hp s hs=>?_,λp hp=>?_⟩,qe2 _ _ _ ⟨[],rfl⟩⟩<;>(dsimp only at hp;rw[List.mem_singleton]at hp;subst hp)
 . unfold VW;dsimp only;omega
 . unfold VW at hs;dsimp only at hs ⊢;rw[List.mem_singleton]at hs;subst hs;exact Or.inr ⟨(1+qD (Qn src) (qbl src).lefts 0).toNat,o_,o_⟩
 . exact Or.inl rfl
theorem Vj(n:List UInt8):∀(l:List Alt) (m:Mk),(zX n l m).nons=m.nons/\(zX n l m).lefts=m.lefts
 |[],m=>⟨rfl,rfl⟩
 | a::r,m=>by rw[yx];obtain ⟨h1,_,h3,_⟩:=qlI m n a;obtain ⟨k1,k2⟩:=Vj n r (Yb m n a);exact⟨k1.trans h3,k2.trans h1⟩
theorem K4:∀(l:List Rule) (m:Mk),(vH l m).nons=m.nons/\(vH l m).lefts=m.lefts
 |[],m=>⟨rfl,rfl⟩
 | r::l,m=>by rw[kN];obtain ⟨h1,h2⟩:=Vj r.left r.alts m;obtain ⟨k1,k2⟩:=K4 l (zX r.left r.alts m);exact⟨k1.trans h1,k2.trans h2⟩
theorem qcW(m:Mk):(yF m).toks.length=m.toks.length/\(yF m).nons.length=1+m.lefts.length+m.inner.toNat/\(yF m).prods=m.prods:=by unfold yF;dsimp only;refine⟨Vp _ _ _ _ _,?_,rfl⟩;rw[List.length_append,List.length_append,Yu,qeo];rfl
theorem qeQ{src:Source}(h:YN src=true):Vd src=true/\(xG src).e=0/\VR (yF (xG src))=false/\jC src={toks:=(yF (xG src)).toks,nons:=(yF (xG src)).nons,prods:=(yF (xG src)).prods,pro:=src.pro,tail:=src.tail}:=by
 have h:=of_decide_eq_true h;unfold jC;unfold ofS at *;by_cases h1:Vd src=true
 . rw [if_pos h1]at *;by_cases h2:(xG src).e≠0
   . rw[if_pos h2]at h;exact absurd h h2
   . rw[if_neg h2]at *;by_cases h3:VR (yF (xG src))=true
     . rw[if_pos h3]at h;cases h
     . rw[if_neg h3]at *;exact⟨h1,by simpa using h2,by simpa using h3,rfl⟩
 . rw[if_neg h1]at h;cases h
theorem gok{src:Source}(h:YN src=true):GOk (jC src):=by
 obtain ⟨_,_,hl,he⟩:=qeQ h;obtain ⟨hi,r,hr⟩:=qjX src;obtain ⟨n1,n2,n3⟩:=qcW (xG src);unfold VR at hl;simp only[Bool.or_eq_false_iff,decide_eq_false_iff_not,List.any_eq_false,decide_eq_true_eq]at hl;obtain ⟨⟨⟨l1,l2⟩,l3⟩,l4⟩:=hl;have hinn:=hi.inn;rw[he];refine⟨?_,?_,?_,?_,?_,?_,λp hp=>?_,λp hp=>?_,λp hp s hs=>?_,λp hp=>?_,?_⟩<;>dsimp only at *
 . rw[n1];exact hi.tk
 . omega
 . rw[n2];omega
 . omega
 . rw[n3,hr];simp
 . omega
 . rw[n3]at hp;have:=hi.left p hp;exact⟨p.left.toNat,o_,o_⟩
 . have:=l4 p hp;omega
 . rw[n3]at hp;rw[n1,n2];exact hi.right p hp s hs
 . rw[n3]at hp;rcases hi.prec p hp with h|⟨h1,h2⟩
   . exact Or.inl h
   . exact Or.inr ⟨p.prec.toNat,o_,o_⟩
 . refine⟨VW src,r,by rw[n3];exact hr,rfl,(1+qD (Qn src) (qbl src).lefts 0).toNat,?_,?_⟩
   . have:=jH (Qn src) (qbl src).lefts 0;unfold VW;dsimp only;rw[show (1001+qD (Qn src) (qbl src).lefts 0:Int)=1000+((1+qD (Qn src) (qbl src).lefts 0).toNat:Int) by omega]
   . have:=jH (Qn src) (qbl src).lefts 0;have:=(K4 src.rules {qbl src with prods:=[VW src]}).2;rw[<- qav]at this;dsimp only at this;rw[n2,this];omega

set_option maxHeartbeats 4000000
abbrev itV(x:Int):V:= .agg [vi (x / 16),vi (x % 16)]
abbrev prV(p:Int×Int):V:= .agg [vi p.1,vi p.2]
def Qx(g:Grammar)(x:Int):Prop:=0<=x/\∃p,g.prods[(x / 16).toNat]?=some p/\(x % 16).toNat<=p.right.length
def nxt(g:Grammar)(x:Int):Int:=((g.prods[(x / 16).toNat]?).bind λp=>p.right[(x % 16).toNat]?).getD (-1)
theorem qiN(p d:Nat)(hd:d<16):((16 *(p:Int)+d) / 16)=p/\((16 *(p:Int)+d) % 16)=d:=o_
def qwo(g:Grammar)(l:List Int)(D:Int->Prop):Prop:=(∀x∈l,D x)/\∀x,D x->∀(m:Nat) p,g.prods[m]?=some p->1000<=nxt g x->p.left=nxt g x - 1000->D (16 *(m:Int))
structure IsCl(g:Grammar)(l c:List Int):Prop where
 rise:jq c
 clo:qwo g l (· ∈c)
 least:∀D,qwo g l D->∀x∈c,D x
variable {g:Grammar} {l c:List Int}
theorem IsCl.uniq{c':List Int}(h:IsCl g l c)(h':IsCl g l c'):c=c':=
 vw h.rise h'.rise λx=>⟨h.least _ h'.clo x,h'.least _ h.clo x⟩
theorem qd8{m:Nat}(h:g.prods[m]?=some p):Qx g (16 *(m:Int)):=by have e:(16 *(m:Int)) / 16=m:=o_;have e2:(16 *(m:Int)) % 16=0:=o_;exact⟨o_,p,by rw[e];exact h,by rw[e2];exact Nat.zero_le _⟩
theorem IsCl.ok(h:IsCl g l c)(hl:∀x∈l,Qx g x):∀x∈c,Qx g x:=
 h.least _ ⟨hl,λx hx m p hp _ _=>qd8 hp⟩
theorem IsCl.cases(h:IsCl g l c):∀x∈c,x∈l\/ ∃y∈c,∃(m:Nat) (p:GPr),x=16 *(m:Int)/\g.prods[m]?=some p/\1000<=nxt g y/\p.left=nxt g y - 1000:=by have:=h.least (λx=>x∈c/\(x∈l\/ ∃y∈c,∃(m:Nat) (p:GPr),x=16 *(m:Int)/\g.prods[m]?=some p/\1000<=nxt g y/\p.left=nxt g y - 1000)) ⟨λx hx=>⟨h.clo.1 x hx,Or.inl hx⟩,λx hx m p hp h1 h2=>⟨h.clo.2 x hx.1 m p hp h1 h2,Or.inr ⟨x,hx.1,m,p,rfl,hp,h1,h2⟩⟩⟩;exact λx hx=>(this x hx).2
def qrD(g:Grammar)(s:Int)(o:List Int):List Int:=(List.range g.prods.length).foldl (λo (m:Nat)=>if 1000<=s/\(g.prods[m]?.map (·.left)).getD 0=s - 1000 then xw o (16 *(m:Int))else o) o
def qfI(g:Grammar)(c:List Int):List Int:=c.foldl (λo x=>qrD g (nxt g x) o) c
def qdV(g:Grammar):Nat->List Int->List Int
 |0,c=>c
 |n+1,c=>if qfI g c=c then c else qdV g n (qfI g c)
theorem YS{α β:Type}{P:β->Prop}{f:β->α->β}:∀(l:List α) (b:β),P b->(∀b a,a∈l->P b->P (f b a))->P (l.foldl f b)
 |[],b,h,_=>h
 |a::l,b,h,hf=>YS l (f b a) (hf b a (by simp) h) λb x hx=>hf b x (List.mem_cons_of_mem _ hx)
theorem qkl{s:Int}{o:List Int}:∀x,x∈qrD g s o↔x∈o\/ ∃(m:Nat) (p:GPr),x=16 *(m:Int)/\g.prods[m]?=some p/\1000<=s/\p.left=s - 1000:=by
 have key :∀(k:Nat) (o:List Int),k<=g.prods.length->∀x,x∈(List.range k).foldl (λo (m:Nat)=>if 1000<=s/\(g.prods[m]?.map (·.left)).getD 0=s - 1000 then xw o (16 *(m:Int))else o) o↔x∈o\/ ∃(m:Nat) (p:GPr),m<k/\x=16 *(m:Int)/\g.prods[m]?=some p/\1000<=s/\p.left=s - 1000:=by
  intro k
  induction k with
  |zero=>intro o _ x;simp
  | succ k ih=>
    intro o hk x;rw[List.range_succ,List.foldl_append,List.foldl_cons,List.foldl_nil];have hgp:g.prods[k]?=some g.prods[k]:=ge_ o_;by_cases hc:1000<=s/\(g.prods[k]?.map (·.left)).getD 0=s - 1000
    . rw [if_pos hc,zL,ih o o_];rw[hgp]at hc;constructor
      . rintro ((h|⟨m,p,h1,h2⟩)|h)
        . exact Or.inl h
        . exact Or.inr ⟨m,p,o_,h2⟩
        . exact Or.inr ⟨k,_,o_,h,hgp,hc.1,hc.2⟩
      . rintro (h|⟨m,p,h1,h2,h3⟩)
        . exact Or.inl (Or.inl h)
        . by_cases e:m=k
          . subst e;exact Or.inr h2
          . exact Or.inl (Or.inr ⟨m,p,o_,h2,h3⟩)
    . rw [if_neg hc,ih o o_];constructor
      . rintro (h|⟨m,p,h1,h2⟩)
        . exact Or.inl h
        . exact Or.inr ⟨m,p,o_,h2⟩
      . rintro (h|⟨m,p,h1,h2,h3,h4⟩)
        . exact Or.inl h
        . by_cases e:m=k
          . subst e;rw[h3]at hc;exact absurd h4 hc
          . exact Or.inr ⟨m,p,o_,h2,h3,h4⟩
 intro x;unfold qrD;rw[key _ o (Nat.le_refl _)];constructor
 . rintro (h|⟨m,p,_,h⟩)
   . exact Or.inl h
   . exact Or.inr ⟨m,p,h⟩
 . rintro (h|⟨m,p,h1,h2,h3⟩)
   . exact Or.inl h
   . exact Or.inr ⟨m,p,(List.getElem?_eq_some_iff.1 h2).1,h1,h2,h3⟩
theorem qgE{s:Int}{o:List Int}(h:jq o):jq (qrD g s o):=
 YS _ _ h λb a _ hb=>by split;exact jU hb;exact hb
theorem JH:∀x,x∈qfI g c↔x∈c\/ ∃y∈c,∃(m:Nat) (p:GPr),x=16 *(m:Int)/\g.prods[m]?=some p/\1000<=nxt g y/\p.left=nxt g y - 1000:=by
 have key:∀(l o:List Int) x,x∈l.foldl (λo x=>qrD g (nxt g x) o) o↔x∈o\/ ∃y∈l,∃(m:Nat) (p:GPr),x=16 *(m:Int)/\g.prods[m]?=some p/\1000<=nxt g y/\p.left=nxt g y - 1000:=by
  intro l
  induction l with
  |nil=>intro o x;simp
  | cons a l ih=>
    intro o x;rw[List.foldl_cons,ih,qkl];constructor
    . rintro ((h|h)|⟨y,h1,h2⟩)
      . exact Or.inl h
      . exact Or.inr ⟨a,by simp,h⟩
      . exact Or.inr ⟨y,List.mem_cons_of_mem _ h1,h2⟩
    . rintro (h|⟨y,h1,h2⟩)
      . exact Or.inl (Or.inl h)
      . rcases List.mem_cons.1 h1 with rfl|h1
        . exact Or.inl (Or.inr h2)
        . exact Or.inr ⟨y,h1,h2⟩
 exact λx=>key c c x
theorem Kn(h:jq c):jq (qfI g c):=YS _ _ h λb a _ hb=>qgE hb
theorem xY{N:Nat}:∀{l:List Int} {a:Int},jq l->(∀x∈l,a<=x/\x<a+N)->l.length<=N:=by
 intro l
 induction l generalizing N with
 |nil=>intros;exact Nat.zero_le _
 | cons x l ih=>
   intro a h hb;have h':=List.pairwise_cons.1 h;have h1:=hb x (by simp);cases N with
   |zero=>omega
   | succ N=>
     have:=ih (N:=N) (a:=a+1) h'.2 λy hy=>by have:=h'.1 y hy;have:=hb y (List.mem_cons_of_mem _ hy);omega
     rw[List.length_cons];omega
theorem JS{a b:List Int}(ha:jq a)(hb:jq b)(h:∀x∈a,x∈b)(hl:b.length<=a.length):a=b:=by
 have hs:a.Sublist b:=by
  clear hl
  induction b generalizing a with
  | nil=>
    cases a with
    |nil=>exact List.Sublist.slnil
    |cons x a=>exact absurd (h x (by simp)) (by simp)
  | cons y b ih=>
    have hb':=List.pairwise_cons.1 hb;cases a with
    |nil=>exact List.nil_sublist _
    | cons x a=>
      have ha':=List.pairwise_cons.1 ha;rcases List.mem_cons.1 (h x (by simp))with e|e
      . subst e;refine List.Sublist.cons_cons _ (ih ha'.2 hb'.2 λz hz=>?_);rcases List.mem_cons.1 (h z (List.mem_cons_of_mem _ hz))with e|e
        . subst e;have:=ha'.1 z hz;omega
        . exact e
      . refine List.Sublist.cons _ (ih ha hb'.2 λz hz=>?_);rcases List.mem_cons.1 (h z hz)with e2|e2
        . subst e2;have h1:=hb'.1 x e;rcases List.mem_cons.1 hz with e3|e3
          . omega
          . have:=ha'.1 z e3;omega
        . exact e2
 exact hs.eq_of_length_le hl
theorem YD{g:Grammar}{l:List Int}(hlen:g.prods.length<=60)(hrl:∀p∈g.prods,p.right.length<=8)(hl:∀x∈l,Qx g x):∀(n:Nat) (c:List Int),jq c->(∀x∈l,x∈c)->(∀D,qwo g l D->∀x∈c,D x)->(∀x∈c,Qx g x)->961<=c.length+n->IsCl g l (qdV g n c)
 | n, c, hr,h1,h2,h3,hn=>by
   have hb:∀x∈c,0<=x/\x<0+(960:Nat):=λx hx=>by obtain ⟨h0,p,hp,_⟩:=h3 x hx;have:=(List.getElem?_eq_some_iff.1 hp).1;omega
   have hc:=xY hr hb
   match n with
   |0=>omega
   | n + 1=>
     unfold qdV;have up:∀x∈c,x∈qfI g c:=λx hx=>(JH x).2 (Or.inl hx);split
     . rename_i e;exact⟨hr,⟨h1,λx hx m p hp h4 h5=>by rw[<- e];exact(JH _).2 (Or.inr ⟨x,hx,m,p,rfl,hp,h4,h5⟩)⟩,h2⟩
     . rename_i e;refine YD hlen hrl hl n _ (Kn hr) (λx hx=>up x (h1 x hx)) (λD hD x hx=>?_) (λx hx=>?_) ?_
       . rcases (JH x).1 hx with h|⟨y,hy,m,p,rfl,hp,h4,h5⟩
         . exact h2 D hD x h
         . exact hD.2 y (h2 D hD y hy) m p hp h4 h5
       . rcases (JH x).1 hx with h|⟨y,hy,m,p,rfl,hp,h4,h5⟩
         . exact h3 x h
         . exact qd8 hp
       . have: ¬ (qfI g c).length<=c.length:=λh=>e (JS hr (Kn hr) up h).symm
         omega
def qK(g:Grammar)(l:List Int):List Int:=qdV g 961 l
theorem qb2(hlen:g.prods.length<=60)(hrl:∀p∈g.prods,p.right.length<=8)(hl:∀x∈l,Qx g x)(hr:jq l):IsCl g l (qK g l):=
 YD hlen hrl hl 961 l hr (λ_ h=>h) (λD hD=>hD.1) hl o_

variable {H:Nat->Option MObj} {z n:Nat} {es:List Go.E.V} {ro:Bool}
theorem qa5{id:Nat}{es':List V}(hH:H id=some (.own z es ro))(he:ErL true H es es')(hn:es.length=n):Er true H (.msl id z 0 n) (.sl z false es'):=by obtain ⟨h1,h2⟩:=he.get;refine .msl id z 0 n es ro es' rfl hH o_ o_ λi c c' h3 h4=>?_;rw[Nat.zero_add]at h3;exact h2 i c c' h3 h4
variable {K:Go.E.V->Prop} {k off:Nat} {cs:List Go.E.V}
theorem qq8{c:V}(hx:es[k]?=some (.agg cs))(hc:cs[off]?=some c)(hk:K c):onS (ldQ (some (.own z es ro)) false 1 k off) K:=by
 have e:ldQ (some (.own z es ro)) false 1 k off=some c:=by simp only[ldQ,hx,jD];rw[if_neg (by simp[V.isAgg])];simp[QH,V.cells,hc]
 rw[e];exact hk
variable {s:St} {v:Go.E.V}
theorem qtW{K:St->Prop}{id:Nat}(hx:es[k]?=some (.agg cs))(hv:v.cells=[v])(hc:v.okCell=true)(ha:v.isAgg=false)(ho:off<cs.length)
(hk:K (s.setO id (some (.own z (es.set k (.agg (cs.set off v))) false)))):onS (stQ s (some (.own z es false)) 1 id k off v) K:=by
 have e0:je 1 z (.agg cs) v off=some (.agg (cs.set off v)):=by unfold je;rw[if_neg (by rw[ha];simp[V.isAgg])];cases v<;>simp_all [V.isAgg]
 have e:stQ s (some (.own z es false)) 1 id k off v=some (s.setO id (some (.own z (es.set k (.agg (cs.set off v))) false))):=by simp only[stQ,hx,e0,hv,hc,List.length_singleton,and_self,if_true,Option.map_some]
 rw[e];exact hk
theorem qaE{K:St->Prop}{id:Nat}{o:Option MObj}(hO:o=some (.own z es false))(hx:es[k]?=some (.agg cs))(hv:v.cells=[v])(hc:v.okCell=true)(ha:v.isAgg=false)(ho:off<cs.length)
(hk:K (s.setO id (some (.own z (es.set k (.agg (cs.set off v))) false)))):onS (stQ s o 1 id k off v) K:=by subst hO;exact qtW hx hv hc ha ho hk
theorem QV{c:V}{o:Option MObj}(hO:o=some (.own z es ro))(hx:es[k]?=some (.agg cs))(hc:cs[off]?=some c)(hk:K c):onS (ldQ o false 1 k off) K:=by subst hO;exact qq8 hx hc hk
theorem Gr.ok{next:Nat}(h:Gr H next z es v):v.cells=[v]/\v.okCell=true/\v.isAgg=false:=by rcases h with rfl|⟨id,f,rfl,_⟩<;>exact⟨rfl,rfl,rfl⟩
def DI(H:Nat->Option MObj)(next:Nat)(v:V)(out:List Decl):Prop:=
 (out=[]/\v=.sl 4 true [])\/ ∃id es k vS ss,∃(o:List Decl) (sy:List Sym),v=.msl id 4 0 (es.length+1)/\H id=some (.own 4 (es++[.agg [vi k,.str [],vS,vi 0]]) false)/\id<next/\Gr H next 4 ss vS/\J6 es (o.map Decl.V)/\J6 ss (sy.map Sym.V)/\out=o++[{kind:=k,syms:=sy}]/\es.length<=4/\ss.length<=4
variable {H':Nat->Option MObj} {next':Nat}
theorem DI.mono{next:Nat}{out:List Decl}(h:DI H next v out)(hn:next<=next')(hH:∀j,j<next->H' j=H j):DI H' next' v out:=by
 rcases h with h|⟨id,es,k,vS,ss,o,sy,h1,h2,h3,h4,h5⟩
 . exact Or.inl h
 . exact Or.inr ⟨id,es,k,vS,ss,o,sy,h1,by rw[hH id h3];exact h2,o_,h4.mono hn (λj _ hj=>hH j hj),h5⟩

structure GrI where
 nons:Int:=0
 rules:List (List Int):=[]
 levels:List Int:=[]
 inner:List Int:=[]
 bare:Bool:=false
 deriving DecidableEq,Inhabited
abbrev zS(l:List Int):V:= .sl 1 false (l.map (V.int .i64))
@[reducible] def GrI.V(x:GrI):V:= .agg [vi x.nons,.sl 1 false (x.rules.map zS),zS x.levels,zS x.inner,.bool x.bare]
def qzT:List UInt8:=[101,114,114,111,114]
theorem getD_some{α:Type}{l:List α}{i:Nat}{d:α}(h:i<l.length):l[i]?=some (l.getD i d):=by rw[List.getD_eq_getElem?_getD,ge_ h];rfl
structure AltAt(s:St)(s0:St)(a:Nat)(ps:List Part)(pl:Bool):Prop where
 ex:∃vP es,s.H a=some (.own 6 [.agg [vP,.str [],.bool false,vi 0,vi 0,vi 0]] false)/\Gr s.H s.next 6 es vP/\J6 es (ps.map Part.V)/\∀j,gid vP=some j->s0.next<=j
 pl:s.f 10=.bool pl
 fr:∀t,t<10->s.f t=s0.f t
 hp:∀j,j<s0.next->j≠a->s.H j=s0.H j
 nx:s0.next<=s.next

@[reducible] def qAq(vA:Nat->V)(k:Nat):V:= .agg [.str (qzu k),vA k,vi 0]
def qzP(n:Nat)(vA:Nat->V):List V:=(List.range n).map (qAq vA)
def QN(n:Nat)(h:Nat->Bool):List V:=(List.range n).map λk=>V.bool (h k)
theorem Qc(n:Nat)(h:Nat->Bool):(QN n h).length=n:=by simp[QN]
variable {h:Nat->Bool}
theorem Zb(hk:k<n):(QN n h)[k]?=some (.bool (h k)):=by simp[QN,hk]
theorem qlk{v:Bool}(hk:k<n):(QN n h).set k (.bool v)=QN n (ze h k v):=by
 refine List.ext_getElem? λi=>?_;rw[List.getElem?_set];by_cases hi:i<n
 . rw[Zb hi,Qc,Zb hi];by_cases e:k=i
   . subst e;simp[hi,ze]
   . simp[e,ze,Ne.symm e]
 . rw[List.getElem?_eq_none (by rw[Qc];omega),List.getElem?_eq_none (by rw[Qc];omega)];rw[Qc];simp;omega
theorem qiH(n:Nat):List.replicate n (V.bool false)=QN n (λ_=>false):=by
 refine List.ext_getElem? λi=>?_;by_cases h:i<n
 . rw[Zb h];simp[h]
 . rw[List.getElem?_eq_none so_,List.getElem?_eq_none (by rw[Qc];omega)]
variable {nn:Nat}
theorem ldB{S:Nat->Bool}(h:k<nn)(hk:K (.bool (S k))):onS (ldQ (some (.own 1 (QN nn S) ro)) false 1 k 0) K:=by
 have e:ldQ (some (.own 1 (QN nn S) ro)) false 1 k 0=some (.bool (S k)):=by simp[ldQ,Zb h,jD,V.isAgg]
 rw[e];exact hk
theorem stB{K:St->Prop}{id:Nat}{x:Bool}{S:Nat->Bool}(h:k<nn)(hk:K (s.setO id (some (.own 1 (QN nn (ze S k x)) false)))):onS (stQ s (some (.own 1 (QN nn S) false)) 1 id k 0 (.bool x)) K:=by
 have e:stQ s (some (.own 1 (QN nn S) false)) 1 id k 0 (.bool x)=some (s.setO id (some (.own 1 (QN nn (ze S k x)) false))):=by rw[<- qlk h];simp[stQ,Zb h,V.cells,V.okCell,je,V.isAgg]
 rw[e];exact hk
structure RW(H:Nat->Option MObj)(next rid n:Nat)(vA:Nat->V)(als:Nat->List V)(alts:Nat->List Alt):Prop where
 ho:H rid=some (.own 3 (qzP n vA) false)
 lr:rid<next
 gr:∀k,k<n->Gr H next 6 (als k) (vA k)
 ep:∀k,k<n->J6 (als k) ((alts k).map Alt.V)
 sep:∀j k,j<n->k<n->j≠k->Sep (vA j) (vA k)
 len:∀k,k<n->(als k).length<=100
variable {rid:Nat} {vA:Nat->Go.E.V} {als:Nat->List Go.E.V} {alts:Nat->List Alt}
theorem RW.mono{next:Nat}(h:RW H next rid n vA als alts)(hn:next<=next')(hr:H' rid=H rid)(hH:∀k,k<n->∀j,gid (vA k)=some j->j<next->H' j=H j):RW H' next' rid n vA als alts:=
 ⟨by rw[hr];exact h.ho,by have:=h.lr;omega,λk hk=>(h.gr k hk).mono hn (hH k hk),h.ep,h.sep,h.len⟩
theorem RW.ne{next:Nat}(h:RW H next rid n vA als alts){j:Nat}(hj:∀f,H j≠some (.tok f))(hk:k<n):gid (vA k)≠some j:=(h.gr k hk).ne hj
theorem RW.put{next id:Nat}{a:Alt}(h:RW H next rid n vA als alts)(hk:k<n)(hv:ErP v a.V)
(hl:(als k).length<100)(hid:next<=id)(hid2:id<next')(hr:H' rid=some (.own 3 (qzP n (ze vA k (.asl id ((als k).length+1) 6 (als k++[v])))) false))(ht:H' id=some (.tok ((als k).length+1)))
(hH:∀q,q<n->q≠k->∀j,gid (vA q)=some j->j<next->H' j=H j):
 RW H' next' rid n (ze vA k (.asl id ((als k).length+1) 6 (als k++[v]))) (ze als k (als k++[v])) (ze alts k (alts k++[a])):=by
 refine⟨hr,by have:=h.lr;omega,λq hq=>?_,λq hq=>?_,λj q hj hq hjq=>?_,λq hq=>?_⟩
 . unfold ze;by_cases e:q=k
   . subst e;simp only[if_true];exact Gr.tok ht hid2
   . simp only[if_neg e];exact(h.gr q hq).mono o_ (hH q hq e)
 . unfold ze;by_cases e:q=k
   . subst e;simp only[if_true];rw[List.map_append];exact(h.ep q hq).snoc hv
   . simp only[if_neg e];exact h.ep q hq
 . unfold ze;by_cases e:j=k
   . subst e;simp only[if_true,if_neg (Ne.symm hjq)];exact Sep.newL (h.gr q hq) hid
   . by_cases e2:q=k
     . subst e2;simp only[if_true,if_neg hjq];exact Sep.newR (h.gr j hj) hid
     . simp only[if_neg e,if_neg e2];exact h.sep j q hj hq hjq
 . unfold ze;by_cases e:q=k
   . subst e;simp only[if_true,List.length_append,List.length_cons,List.length_nil];omega
   . simp only[if_neg e];exact h.len q hq

def zl(token:Bool)(h:Nat->Bool)(l:List Int):Bool:=l.all λs=>if s<1000 then token else h (s - 1000).toNat
def xQ(g:Grammar)(token:Bool)(E:Nat->Bool):Prop:= ∀p∈g.prods,zl token E p.right=true->E p.left.toNat=true
structure IsGrow(g:Grammar)(token:Bool)(E:Nat->Bool):Prop where
 closed:xQ g token E
 least:∀F,xQ g token F->∀k,E k=true->F k=true
variable {token:Bool}
theorem IsGrow.uniq{E F:Nat->Bool}(h:IsGrow g token E)(k:IsGrow g token F):E=F:=by funext n;rw[Bool.eq_iff_iff];exact⟨h.least F k.closed n,k.least E h.closed n⟩
theorem KZ{F:Nat->Bool}(hh:∀k,h k=true->F k=true)(hl:zl token h l=true):zl token F l=true:=by
 unfold zl at *;rw[List.all_eq_true]at *;intro s hs;have:=hl s hs;split
 . rename_i h1;rwa [if_pos h1]at this
 . rename_i h1;rw[if_neg h1]at this;exact hh _ this
theorem qfX{i:Nat}(hi:i<l.length)(ht:∀s∈l.take i,(if s<1000 then token else h (s - 1000).toNat)=true):(if l[i]<1000 then token else h (l[i] - 1000).toNat)=false->zl token h l=false:=λhf=>
 List.all_eq_false.2 ⟨l[i],List.getElem_mem hi,by rw[hf];exact Bool.false_ne_true⟩
def cf(h:Nat->Bool):Nat->Nat
 |0=>0
 |n+1=>cf h n+if h n=true then 0 else 1
theorem qjC{h:Nat->Bool}{k:Nat}(hk:h k=false):∀n,(n<=k->cf (ze h k true) n=cf h n)/\(k<n->cf (ze h k true) n+1=cf h n)
 |0=>⟨λ_=>rfl,λh=>o_⟩
 | n +1=>by
   obtain ⟨h1,h2⟩:=qjC hk n;unfold cf;by_cases e:n=k
   . subst e;have e2:ze h n true n=true:=(by unfold ze;rw[if_pos rfl]);rw[e2,h1 (Nat.le_refl _),hk];exact⟨λh=>o_,λ_=>by simp⟩
   . have e2:ze h k true n=h n:=(by unfold ze;rw[if_neg e]);rw[e2];exact⟨λh=>by rw[h1 o_],λh=>by have:=h2 o_;omega⟩
theorem qel(n:Nat)(h:Nat->Bool):Cls' (QN n h):=inferInstanceAs (Cls' (List.map _ _))
theorem qiA{P:Program}[Glob P]{cls:Cls}{id:Nat}{K:V->St->Prop}{f a:Opd}{fid:FuncId}{caps as':List V}{x res:V}(hf:ev s f=.fn fid caps)(ha:ev s a=x)(hc:(cls == .r)=false)(hE:Ers true s.H (x::caps) as')(hp:Pure P fid as' res)(hfl:Flat res)(hk:K res s):qg P cls id s K (.call f [a]):=by
 show (match funArgs (ev s f) ([a].map (ev s))with
  | some (fid,w0)=>
    (∃bor as' res,(cls=.r->bor=false)/\Ers bor s.H w0 as'/\Pure P fid as' res/\(bor=true->Flat res)/\K res s)\/
    (qxl cls=true/\zh P fid w0 s.H s.next λv H' next'=>qcr cls s.next s.H H' next'/\K v {s with H:=H',next:=next'})
  |none=>False)
 rw[hf];subst ha;exact Or.inl ⟨true,as',res,λe=>(by subst e;cases hc),hE,hp,λ_=>hfl,hk⟩
theorem qcU(hr:∀s∈p.right,s<1000\/ ∃k:Nat,s=1000+(k:Int)/\k<n)(hl:p.right.length<=1000000)(hn:n<=1000000):Pure Tryz.prog 136 [p.V,.iptr 1 (.bool token) 0,.iptr 1 (.sl 1 false (QN n h)) 0] (.bool (zl token h p.right)):=by
 refine pure_intro Tryz.func136 nm_ qpE (by show 3<=33;decide) ?_
 show ewp _ qnQ _ _;repeat' with_reducible first|refine s_ ?_|simp -implicitDefEqProofs only[wZZ,seval]|refine t_ ?_
 refine qb ?nx1 (λ(i:Nat) s=>s.f 1=?v1_1/\s.f 2=?v1_2/\s.f 8=?v1_8/\s.f 9=?v1_9/\s.f 10=vi i/\(i<=p.right.length)/\(∀s∈p.right.take i,(if s<1000 then token else h (s - 1000).toNat)=true)) (λi=>p.right.length - i) (0) wj_ (by refine⟨?_,?_,?_,?_,?_,wo_,wo_⟩<;>first|(simp -implicitDefEqProofs only[wL,wM,wN,wX,seval,Option.some.injEq]<;>exact wt_)|rfl|exact⟨_,rfl⟩) ?_;intro i s hnx ⟨g1,g2,g8,g9,g10,k1_0,k1_1⟩;have hz:=w1_ i;by_cases hi:i<p.right.length
 . have hst:=qfX hi k1_1;have hnx:(if p.right[i]<1000 then token else h (p.right[i] - 1000).toNat)=true->∀s∈p.right.take (i+1),(if s<1000 then token else h (s - 1000).toNat)=true:=λhh s hs=>by
    rw[List.take_add_one,ge_ hi]at hs;rcases List.mem_append.1 hs with hs|hs
    . exact k1_1 s hs
    . simp at hs;subst hs;exact hh
   rcases hr _ (List.getElem_mem hi)with hs|⟨k,hk,hkn⟩
   . rw [if_pos hs]at hst hnx;cases token with
     | true=>
       repeat' with_reducible first|refine s_ ?_|simp -implicitDefEqProofs only[wZZ,seval,g1,g2,g8,g9,g10,hz]|(first|apply qa|apply qA|apply qB)<;>intro h h_<;>(try simp only[wD,reduceCtorEq]at h_)<;>(try exact wb_)<;>(try simp only[h])|refine t_ ?_
       refine⟨wk_,i+1,o_,?_⟩;refine⟨?_,?_,?_,?_,?_,?_,?_⟩;iterate 5 (focus(first|(simp -implicitDefEqProofs only[wL,wM,wN,wX,seval,Option.some.injEq,g1,g2,g8,g9,g10]<;>exact wt_)|rfl|exact⟨_,rfl⟩))
       all_goals try omega
       exact hnx rfl
     | false=>
       rw[hst rfl];repeat' with_reducible first|refine s_ ?_|simp -implicitDefEqProofs only[wZZ,seval,g1,g2,g8,g9,g10,hz]|(first|apply qa|apply qA|apply qB)<;>intro h h_<;>(try simp only[wD,reduceCtorEq]at h_)<;>(try exact wb_)<;>(try simp only[h])|refine t_ ?_
       refine qz rfl (Or.inr rfl) ?_;simp -implicitDefEqProofs only[wL,seval,g1,g2,g8,g9,g10];refine er_ ?_
       try(with_reducible rfl)
   . have hz2:IntKind.i64.wrap (1000+(k:Int) - 1000)=(k:Int):=(by rw[wrap64 o_ o_];omega);rw[if_neg o_,hk,show ((1000+(k:Int)) - 1000).toNat=k by omega]at hst hnx;have hbg:=Zb (h:=h) hkn;cases hb:h k with
     | true=>
       repeat' with_reducible first|refine s_ ?_|simp -implicitDefEqProofs only[wZZ,seval,g1,g2,g8,g9,g10,hz,hk,hz2,hb]|(first|apply qa|apply qA|apply qB)<;>intro h h_<;>(try simp only[wD,reduceCtorEq]at h_)<;>(try exact wb_)<;>(try simp only[h])|(apply yw (qly o_ (by with_unfolding_all exact hbg)))|refine t_ ?_
       refine⟨wk_,i+1,o_,?_⟩;refine⟨?_,?_,?_,?_,?_,?_,?_⟩;iterate 5 (focus(first|(simp -implicitDefEqProofs only[wL,wM,wN,wX,seval,Option.some.injEq,g1,g2,g8,g9,g10]<;>exact wt_)|rfl|exact⟨_,rfl⟩))
       all_goals try omega
       exact hnx hb
     | false=>
       rw[hst hb];repeat' with_reducible first|refine s_ ?_|simp -implicitDefEqProofs only[wZZ,seval,g1,g2,g8,g9,g10,hz,hk,hz2,hb]|(first|apply qa|apply qA|apply qB)<;>intro h h_<;>(try simp only[wD,reduceCtorEq]at h_)<;>(try exact wb_)<;>(try simp only[h])|(apply yw (qly o_ (by with_unfolding_all exact hbg)))|refine t_ ?_
       refine qz rfl (Or.inr rfl) ?_;simp -implicitDefEqProofs only[wL,seval,g1,g2,g8,g9,g10];refine er_ ?_
       try(with_reducible rfl)
 . rw[List.take_of_length_le o_]at k1_1;have e:zl token h p.right=true:=List.all_eq_true.2 k1_1;rw[e];repeat' with_reducible first|refine s_ ?_|simp -implicitDefEqProofs only[wZZ,seval,g1,g2,g8,g9,g10]|apply qa<;>intro h h_<;>(try simp only[wD,reduceCtorEq]at h_)<;>(try exact wb_)<;>(try simp only[h])
   refine qz rfl (Or.inr rfl) ?_;simp -implicitDefEqProofs only[wL,seval,g1,g2,g8,g9,g10];refine er_ ?_
   try(with_reducible rfl)

theorem qgL{id sz:Nat}{e e':V}(hH:H id=some (.own sz [e] ro))(h:Er true H e e'):Er true H (.ptr id 0 0) (.iptr sz e' 0):= .ptr id 0 0 sz _ ro _ _ rfl hH rfl h
theorem qhj{id:Nat}(hH:H id=some (.own 1 (QN n h) ro)):Er true H (.msl id 1 0 n) (.sl 1 false (QN n h)):=by have:=qel n h;exact xD hH (by rw[Qc];omega) (by rw[List.drop_zero];exact List.take_of_length_le (by rw[Qc];omega))
instance gpr_cl(p:GPr):Cl p.V:=⟨λb H=>ErL.agg (.cons (.int _ _) (.cons qd (.cons (.int _ _) (.cons (.str _) (.cons qd (.cons (.int _ _) .nil))))))⟩
theorem GOk.rt(h:GOk g)(hp:p∈g.prods):∀s∈p.right,s<1000\/ ∃k:Nat,s=1000+(k:Int)/\k<g.nons.length:=λs hs=>by
 rcases h.right p hp s hs with ⟨t,e,l⟩|⟨k,e,l⟩
 . have:=h.tk2;exact Or.inl o_
 . exact Or.inr ⟨k,e,l⟩
theorem Js(hg:GOk g):∃E,IsGrow g token E/\Pure Tryz.prog 120 [g.V,.bool token] (.sl 1 false (QN g.nons.length E)):=by
 have hh:=qaY (G:=λv=>∃E,v=.sl 1 false (QN g.nons.length E)/\IsGrow g token E) (args:=[g.V,.bool token]) Tryz.func120 nm_ qoU (by show 2<=40;decide) ?_
 . obtain ⟨v,⟨E,rfl,h⟩,h2⟩:=hh;exact⟨E,h,h2⟩
 show ewp _ qmS _ _;have hnl:=hg.nn2;have hpl:=hg.pl2;have hb0:=qiH g.nons.length;repeat' with_reducible first|refine s_ ?_|simp -implicitDefEqProofs only[wZZ,seval]|refine t_ ?_|apply qc8;exact wu_;exact wu_;exact wu_|apply V5;exact wf_;exact wf_;(focus(unfold maxLen;first|omega|(simp only[wZ]<;>omega)))
 rw[hb0];refine qb ?nx1 (λ(q:(Nat->Bool)×Bool) s=>s.f 2=?v1_2/\s.f 5=?v1_5/\s.f 6=?v1_6/\s.H 0=some (MObj.own 5 [g.V] false)/\s.H 1=some (MObj.own 1 [.bool token] false)/\s.H 7=some (MObj.own 1 [.msl 6 1 0 g.nons.length] false)/\s.f 7=.bool q.2/\((s.H 6=some (MObj.own 1 (QN g.nons.length q.1) false)))/\((∀F,xQ g token F->∀k,q.1 k=true->F k=true))/\((q.2=false->xQ g token q.1))) (λq=>2 *cf q.1 g.nons.length+(if q.2=true then 1 else 0)) ((λ_=>false,true)) wj_ (by refine⟨?_,?_,?_,?_,?_,?_,?_,wc_,(by intro F _ k h;cases h),(by intro h;cases h)⟩<;>first|(simp -implicitDefEqProofs only[wL,wM,wN,wX,seval,Option.some.injEq]<;>exact wt_)|rfl|exact⟨_,rfl⟩) ?_;intro q s hnx ⟨g2,g5,g6,o0,o1,o2,g7,k1_0,k1_1,k1_2⟩;obtain ⟨h,b⟩:=q;dsimp only at *;cases b with
 | false=>
   have hcl:=k1_2 rfl;repeat' with_reducible first|refine s_ ?_|simp -implicitDefEqProofs only[wZZ,seval,g2,g5,g6,g7,o0,o1,o2,k1_0]|apply Vw;exact wu_
   refine⟨_,⟨h,rfl,hcl,k1_1⟩,Or.inr rfl,.msl 6 1 0 g.nons.length,?_,qhj (ro:=false) ?_⟩
   . show qcM _ [.inl 4]=_;simp[qcM,qb4,one,wL]
   . (simp only[wM];(repeat first|rw[if_pos trivial]|rw[if_pos rfl]|rw[if_neg o_]));exact k1_0
 | true =>
   repeat' with_reducible first|refine s_ ?_|simp -implicitDefEqProofs only[wZZ,seval,g2,g5,g6,g7,o0,o1,o2,k1_0]|refine t_ ?_
   refine qb ?nx2 (λ(r:Nat×(Nat->Bool)×Bool) s=>s.f 2=?v2_2/\s.f 5=?v2_5/\s.f 6=?v2_6/\s.f 17=?v2_17/\s.f 18=?v2_18/\s.H 0=some (MObj.own 5 [g.V] false)/\s.H 1=some (MObj.own 1 [.bool token] false)/\s.H 7=some (MObj.own 1 [.msl 6 1 0 g.nons.length] false)/\s.f 7=.bool r.2.2/\s.f 19=vi r.1/\(r.1<=g.prods.length)/\((s.H 6=some (MObj.own 1 (QN g.nons.length r.2.1) false)))/\((∀F,xQ g token F->∀k,r.2.1 k=true->F k=true))/\((r.2.2=false->r.2.1=h/\∀p∈g.prods.take r.1,zl token h p.right=true->h p.left.toNat=true))/\((r.2.2=true->cf r.2.1 g.nons.length<cf h g.nons.length))) (λr=>g.prods.length - r.1) ((0,h,false)) wj_ (by refine⟨?_,?_,?_,?_,?_,?_,?_,?_,?_,?_,wo_,(by(simp only[wM];(repeat first|rw[if_pos trivial]|rw[if_pos rfl]|rw[if_neg o_]));exact k1_0),(by exact k1_1),(by exact λ_=>⟨rfl,λp hp=>by simp at hp⟩),(by intro h;cases h)⟩<;>first|(simp -implicitDefEqProofs only[wL,wM,wN,wX,seval,Option.some.injEq,g2,g5,g6,g7,o0,o1,o2]<;>exact wt_)|rfl|exact⟨_,rfl⟩) ?_;intro r s hnx ⟨g2,g5,g6,g17,g18,o0,o1,o2,g7,g19,k2_0,k2_1,k2_2,k2_3,k2_4⟩;obtain ⟨i,h',b'⟩:=r;dsimp only at *;have hz:=w1_ i;by_cases hi:i<g.prods.length
   . have hmem:=List.getElem_mem hi;obtain ⟨lf,hl1,hl2⟩:=hg.left _ hmem;have hrt:=hg.rt hmem;have hrl:=hg.rlen _ hmem;have htk:g.prods.take (i+1)=g.prods.take i++[g.prods[i]]:=(by rw[List.take_add_one,ge_ hi];rfl);generalize hp:g.prods[i]=p at *;have hcl:=qcU (p:=p) (token:=token) (h:=h') (n:=g.nons.length) hrt o_ o_;have hgp:g.prods[i]?=some p:=(by rw[ge_ hi,hp]);have hpm:p∈g.prods:=hp ▸ List.getElem_mem hi;clear hp;obtain ⟨pl,pr,pc,pco,pa,pat⟩:=p;dsimp only at hl1 hrt hrl hcl;subst hl1;have hnew:(b'=false->h'=h/\∀p∈g.prods.take i,zl token h p.right=true->h p.left.toNat=true)->(zl token h' pr=true->h' lf=true)->(b'=false->h'=h/\∀p∈g.prods.take (i+1),zl token h p.right=true->h p.left.toNat=true):=λq1 q2 hb=>by
      obtain ⟨e1,e2⟩:=q1 hb;refine⟨e1,λp hp hf=>?_⟩;rw[htk]at hp;rcases List.mem_append.1 hp with hp|hp
      . exact e2 p hp hf
      . rw[List.mem_singleton]at hp;subst hp;subst e1;exact q2 hf
     repeat' with_reducible first|refine s_ ?_|simp -implicitDefEqProofs only[wZZ,seval,g2,g5,g6,g17,g18,g7,g19,o0,o1,o2,k2_1,hz]|(first|apply qa|apply qA|apply qB)<;>intro h h_<;>(try simp only[wD,reduceCtorEq]at h_)<;>(try exact wb_)<;>(try simp only[h])|(refine ldB hl2 ?_)|refine t_ ?_|apply Vw;exact wu_|simp -implicitDefEqProofs (disch:=omega) only[w64,if_neg]
     . refine qiA (fid:=136) (caps:=[.ptr 1 0 0,.ptr 7 0 0]) (as':=[GPr.V {left:=lf,right:=pr,prec:=pc,code:=pco,args:=pa,at_:=pat},.iptr 1 (.bool token) 0,.iptr 1 (.sl 1 false (QN g.nons.length h')) 0]) (x:=GPr.V {left:=lf,right:=pr,prec:=pc,code:=pco,args:=pa,at_:=pat}) (by rfl) (by rfl) rfl ?_ hcl (Flat.bool _) ?_
       . refine qI qd (qI (qgL (ro:=false) (by(simp only[wM];(repeat first|rw[if_pos trivial]|rw[if_pos rfl]|rw[if_neg o_]));exact o1) (.bool _)) (qI (qgL (ro:=false) (by(simp only[wM];(repeat first|rw[if_pos trivial]|rw[if_pos rfl]|rw[if_neg o_]));exact o2) (qhj (ro:=false) (by(simp only[wM];(repeat first|rw[if_pos trivial]|rw[if_pos rfl]|rw[if_neg o_]));exact k2_1))) ji))
       cases hfit:zl token h' pr with
       | true=>
         repeat' with_reducible first|refine s_ ?_|simp -implicitDefEqProofs only[wZZ,seval,g2,g5,g6,g17,g18,g7,g19,o0,o1,o2,k2_1,hz]|(refine stB hl2 ?_)|refine t_ ?_|apply Vw;exact wu_|simp -implicitDefEqProofs (disch:=omega) only[w64,if_neg]
         refine⟨wg_,(i+1,ze h' lf true,true),d_,trivial,trivial,trivial,trivial,trivial,trivial,trivial,trivial,rfl,rfl,d_,rfl,λF hF k hk=>?_,λe=>(by cases e),λ_=>?_⟩
         . dsimp only at hk;unfold ze at hk;split at hk
           . rename_i e;subst e;exact hF _ hpm (KZ (k2_2 F hF) hfit)
           . exact k2_2 F hF k hk
         . have:=(qjC (h:=h') (k:=lf) as_ g.nons.length).2 hl2
           show cf (ze h' lf true) g.nons.length<_;cases b' with
           |false=>have e:=(k2_3 rfl).1;subst e;omega
           |true=>have:=k2_4 rfl;omega
       | false=>
         repeat' with_reducible first|refine s_ ?_|simp -implicitDefEqProofs only[wZZ,seval,g2,g5,g6,g17,g18,g7,g19,o0,o1,o2,k2_1,hz]|simp -implicitDefEqProofs (disch:=omega) only[w64,if_neg]
         refine⟨wg_,(i+1,h',b'),d_,trivial,trivial,trivial,trivial,trivial,trivial,trivial,trivial,rfl,rfl,d_,rfl,k2_2,hnew k2_3 (λe=>by rw[hfit]at e;cases e),k2_4⟩
     . refine⟨wg_,(i+1,h',b'),d_,trivial,trivial,trivial,trivial,trivial,trivial,trivial,trivial,rfl,rfl,d_,rfl,k2_2,hnew k2_3 (λ_=>as_),k2_4⟩
   . have e:i=g.prods.length:=o_;subst e;rw[List.take_length]at k2_3;repeat' with_reducible first|refine s_ ?_|simp -implicitDefEqProofs only[wZZ,seval,g2,g5,g6,g17,g18,g7,g19,o0,o1,o2,k2_1]
     refine⟨wg_,(h',b'),?_,trivial,trivial,trivial,trivial,trivial,trivial,rfl,rfl,k2_2,λhb=>?_⟩
     . dsimp only;cases b' with
       |false=>have e:=(k2_3 rfl).1;subst e;simp
       |true=>have:=k2_4 rfl;simp;omega
     . obtain ⟨e1,e2⟩:=k2_3 hb;dsimp only;rw[e1];exact e2
end Go.Proofs
