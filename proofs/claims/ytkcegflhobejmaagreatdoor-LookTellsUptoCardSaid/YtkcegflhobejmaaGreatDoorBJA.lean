import Derived.Test.YtkcegflhobejmaaGreatDoorBGC
set_option maxRecDepth 20000
set_option linter.all false
namespace Go.Proofs
open Go.E
def Qz(nt nn:Nat)(s:Int):Prop:=(∃t:Nat,s=t/\t<nt)\/ ∃k:Nat,s=1000+(k:Int)/\k<nn
structure GOk(g:Grammar):Prop where
 tk:3<=g.toks.length
 tk2:g.toks.length<=40
 nn:1<=g.nons.length
 nn2:g.nons.length<=24
 pl:1<=g.prods.length
 pl2:g.prods.length<=60
 left:∀p∈g.prods,∃l:Nat,p.left=l/\l<g.nons.length
 rlen:∀p∈g.prods,p.right.length<=8
 right:∀p∈g.prods,∀s∈p.right,Qz g.toks.length g.nons.length s
 prec:∀p∈g.prods,p.prec= -1\/ ∃t:Nat,p.prec=t/\t<g.toks.length
 head:∃p r,g.prods=p::r/\p.left=0/\(∃k:Nat,p.right=[1000+(k:Int)]/\k<g.nons.length)
structure MInv(m:Mk):Prop where
 tk:3<=m.toks.length
 inn:0<=m.inner
 left:∀p∈m.prods,0<=p.left/\p.left<=m.lefts.length+m.inner
 right:∀p∈m.prods,∀s∈p.right,Qz m.toks.length (1+m.lefts.length+m.inner.toNat) s
 prec:∀p∈m.prods,p.prec= -1\/(0<=p.prec/\p.prec<m.toks.length)
theorem Qz.mono{a b a' b':Nat}{s:Int}(h:Qz a b s)(h1:a<=a')(h2:b<=b'):Qz a' b' s:=by
 rcases h with ⟨t,e,l⟩|⟨k,e,l⟩
 . exact Or.inl ⟨t,e,o_⟩
 . exact Or.inr ⟨k,e,o_⟩
theorem MInv.up{m m':Mk}(h:MInv m)(hp:m'.prods=m.prods)(ht:m.toks.length<=m'.toks.length)(hl:m'.lefts=m.lefts)(hi:m.inner<=m'.inner):MInv m':=by
 have:=h.inn;refine⟨by have:=h.tk;omega,o_,λp hq=>?_,λp hq s hs=>?_,λp hq=>?_⟩
 . rw[hp]at hq;have:=h.left p hq;rw[hl];omega
 . rw[hp]at hq;rw[hl];exact(h.right p hq s hs).mono ht o_
 . rw[hp]at hq;rcases h.prec p hq with h|⟨h1,h2⟩
   . exact Or.inl h
   . exact Or.inr ⟨h1,o_⟩
variable {p:GPr}
theorem MInv.put{m:Mk}(h:MInv m)(h1:0<=p.left/\p.left<=m.lefts.length+m.inner)(h2:∀s∈p.right,Qz m.toks.length (1+m.lefts.length+m.inner.toNat) s)(h3:p.prec= -1\/(0<=p.prec/\p.prec<m.toks.length)):MInv {m with prods:=m.prods++[p]}:=by
 refine⟨h.tk,h.inn,λq hq=>?_,λq hq=>?_,λq hq=>?_⟩<;>rcases List.mem_append.1 hq with hq|hq
 . exact h.left q hq
 . rw[List.mem_singleton]at hq;subst hq;exact h1
 . exact h.right q hq
 . rw[List.mem_singleton]at hq;subst hq;exact h2
 . exact h.prec q hq
 . rw[List.mem_singleton]at hq;subst hq;exact h3
theorem qiX{m:Mk}(x:Sym)(ht:3<=m.toks.length)(hi:0<=m.inner):Qz (yQ m x).1.toks.length (1+m.lefts.length+m.inner.toNat) (yQ m x).2/\(x.lit=true\/qz x.name m.lefts 0<0->0<=(yQ m x).2/\(yQ m x).2<(yQ m x).1.toks.length):=by
 have hb:=qhO m x o_;have hl:=jv x.name m.lefts 0;have htk:=qaw x m.toks o_;have hf:=(zx m x.at_ x.name).1;have tokI:∀{n:Nat} {s:Int},0<=s->s<n->Qz n (1+m.lefts.length+m.inner.toNat) s:=λh1 h2=>Or.inl ⟨_,(Int.toNat_of_nonneg h1).symm,o_⟩;unfold yQ;split
 . exact⟨tokI hb.1 hb.2,λ_=>hb⟩
 . rename_i hx;split
   . rename_i h0;refine⟨Or.inr ⟨(1+qz x.name m.lefts 0).toNat,d_,o_⟩,λh=>?_⟩;rcases h with h|h
     . exact absurd h hx
     . omega
   . split
     . dsimp only;rw[hf];exact⟨tokI o_ o_,λ_=>⟨o_,o_⟩⟩
     . dsimp only;exact⟨tokI o_ o_,λ_=>⟨o_,o_⟩⟩
theorem Ym:∀(l:List Part) (m:Mk) (p:GPr),MInv m->(∀s∈p.right,Qz m.toks.length (1+m.lefts.length+m.inner.toNat) s)->MInv (zB l (m,p)).1/\∀s∈(zB l (m,p)).2.right,Qz (zB l (m,p)).1.toks.length (1+(zB l (m,p)).1.lefts.length+(zB l (m,p)).1.inner.toNat) s
 |[],m,p,h,hp=>by rw[JP];exact⟨h,hp⟩
 | w :: r, m,p,h,hp=>by
   rw[vW];obtain ⟨y1,y2,y3,y4,y5,y6,y7,y8⟩:=Qu m w.sym;have hs:=(qiX w.sym h.tk h.inn).1;have hi:=h.inn;split
   . refine Ym r _ _ (h.up y3 y7 y2 o_) λs hs2=>?_;rw[y2,y6];rcases List.mem_append.1 hs2 with hs2|hs2
     . exact(hp s hs2).mono y7 (Nat.le_refl _)
     . rw[List.mem_singleton]at hs2;subst hs2;exact hs
   . split
     . exact⟨h,hp⟩
     . refine Ym r _ _ ?_ λs hs2=>?_
       . refine(h.up (m':={m with inner:=m.inner+1}) rfl (Nat.le_refl _) rfl d_).put ⟨d_,d_⟩ (λs hs2=>by cases hs2) (Or.inl rfl)
       . dsimp only at hs2 ⊢;rcases List.mem_append.1 hs2 with hs2|hs2
         . exact(hp s hs2).mono (Nat.le_refl _) o_
         . rw[List.mem_singleton]at hs2;exact Or.inr ⟨m.lefts.length+(m.inner+1).toNat,by rw[hs2];omega,o_⟩
theorem qbT(n:Nat):∀(l:List Int) (p:Int),(∀s∈l,0<=s/\(s<1000->s<n))->(p= -1\/(0<=p/\p<n))->(yV l p= -1\/(0<=yV l p/\yV l p<n))
 |[],p,_,hp=>hp
 | x::r,p,h,hp=>by
   rw[yV];refine qbT n r _ (λs hs=>h s (List.mem_cons_of_mem _ hs)) ?_;split
   . rename_i hx;have:=h x (by simp);exact Or.inr ⟨this.1,this.2 hx⟩
   . exact hp
theorem qgU{m:Mk}(n:List UInt8)(a:Alt)(h:MInv m):MInv (Yr m n a):=by
 have hl:=jv n m.lefts 0;obtain ⟨g1,g2,g3,g4,g5,g6,g7,g8,g9,g10⟩:=Yx a.parts m {left:=1+qz n m.lefts 0,prec:= -1,at_:=a.at_};obtain ⟨h1,h2⟩:=Ym a.parts m {left:=1+qz n m.lefts 0,prec:= -1,at_:=a.at_} h (λs hs=>by cases hs);have hi:=h.inn;unfold Yr;dsimp only;generalize zB a.parts (m,{left:=1+qz n m.lefts 0,prec:= -1,at_:=a.at_})=q at *;have hlf:0<=q.2.left/\q.2.left<=q.1.lefts.length+q.1.inner:=by rw[g5,g1];dsimp only;omega
 obtain ⟨ff1,ff2,ff3,ff4,ff5,ff6,ff7,ff8⟩:=zx q.1 a.prec.at_ a.prec.name;split
 . split
   . rename_i hc;obtain ⟨y1,y2,y3,y4,y5,y6,y7,y8⟩:=Qu q.1 a.prec;have hs:=(qiX a.prec h1.tk h1.inn).2 (by rcases hc with hc|hc<;>simp[hc]);refine(h1.up y3 y7 y2 o_).put (by rw[y2,y6];exact hlf) (λs hs2=>?_) (Or.inr hs);rw[y2,y6];exact(h2 s hs2).mono y7 (Nat.le_refl _)
   . refine(h1.up (m':=za q.1 a.prec.at_ a.prec.name) ff5 (by rw[ff1];omega) ff3 o_).put (p:={q.2 with prec:= -1,args:=q.2.right}) (by rw[ff3,ff8];exact hlf) (λs hs2=>by rw[ff1,ff3,ff8];exact h2 s hs2) (Or.inl rfl) |> λhh=>?_
     rw[ff5]at hh;exact hh
 . refine h1.put hlf h2 ?_;refine qbT _ _ _ (λs hs=>?_) (Or.inl rfl);rcases h2 s hs with ⟨t,e,l⟩|⟨k,e,l⟩
   . exact⟨o_,λ_=>o_⟩
   . exact⟨o_,λ_=>o_⟩
theorem YU(n:List UInt8):∀(l:List Alt) (m:Mk),MInv m->MInv (zK n l m)
 |[],m,h=>h
 |a::r,m,h=>by rw[yJ];exact YU n r _ (qgU n a h)
theorem qeS:∀(l:List Rule) (m:Mk),MInv m->MInv (vQ l m)
 |[],m,h=>h
 |r::l,m,h=>by rw[kE];exact qeS l _ (YU r.left r.alts m h)
def HdP(P:GPr)(m:Mk):Prop:= ∃r,m.prods=P::r
theorem qa4(P:GPr):∀(l:List Part) (m:Mk) (p:GPr),HdP P m->HdP P (zB l (m,p)).1
 |[],m,p,h=>h
 | w ::r,m,p,h=>by
   rw[vW];obtain ⟨y1,y2,y3,y4,y5,y6,y7,y8⟩:=Qu m w.sym;obtain ⟨t,ht⟩:=h;split
   . exact qa4 P r _ _ ⟨t,by rw[y3];exact ht⟩
   . split
     . exact⟨t,ht⟩
     . exact qa4 P r _ _ ⟨_,by dsimp only;rw[ht];rfl⟩
theorem qmR(P:GPr){m:Mk}(n:List UInt8)(a:Alt)(h:HdP P m):HdP P (Yr m n a):=by
 have h1:=qa4 P a.parts m {left:=1+qz n m.lefts 0,prec:= -1,at_:=a.at_} h;unfold Yr;dsimp only;generalize zB a.parts (m,{left:=1+qz n m.lefts 0,prec:= -1,at_:=a.at_})=q at *;obtain ⟨t,ht⟩:=h1;obtain ⟨y1,y2,y3,y4,y5,y6,y7,y8⟩:=Qu q.1 a.prec;split
 . split
   . exact⟨_,by dsimp only;rw[y3,ht];rfl⟩
   . exact⟨_,by dsimp only;rw[ht];rfl⟩
 . exact⟨_,by dsimp only;rw[ht];rfl⟩
theorem qcb(P:GPr)(n:List UInt8):∀(l:List Alt) (m:Mk),HdP P m->HdP P (zK n l m)
 |[],m,h=>h
 |a::r,m,h=>by rw[yJ];exact qcb P n r _ (qmR P n a h)
theorem qea(P:GPr):∀(l:List Rule) (m:Mk),HdP P m->HdP P (vQ l m)
 |[],m,h=>h
 |r::l,m,h=>by rw[kE];exact qea P l _ (qcb P r.left r.alts m h)
theorem VE(g:List Bool):∀(f i:Nat) (l:List Tok) (n:Int),(qbb g f i (l,n)).1.length=l.length
 |0,i,l,n=>rfl
 | f+1,i,l,n=>by
   rw[Ko];split
   . exact VE g f _ _ _
   . rw[VE];simp
theorem qdr(d:Decl):∀(l:List Sym) (m:Mk) (st:List UInt8),kS m (zN d l (m,st)).1/\m.toks.length<=(zN d l (m,st)).1.toks.length
 |[],m,st=>⟨⟨rfl,rfl,rfl,rfl⟩,Nat.le_refl _⟩
 | x ::r,m,st=>by
   rw[Xl];obtain ⟨⟨a1,a2,a3,a4⟩,_,h2,_⟩:=qhX m d x;obtain ⟨ff1,ff2,ff3,ff4,ff5,ff6,ff7,ff8⟩:=zx m x.at_ x.name;split
   . obtain ⟨⟨b1,b2,b3,b4⟩,k2⟩:=qdr d r (kT m d x) st;exact⟨⟨b1.trans a1,b2.trans a2,b3.trans a3,b4.trans a4⟩,o_⟩
   . have key:∀m',kS m m'->m.toks.length<=m'.toks.length->kS m (zN d r (m',x.name)).1/\m.toks.length<=(zN d r (m',x.name)).1.toks.length:=λm' hm ht=>by
      obtain ⟨⟨b1,b2,b3,b4⟩,k2⟩:=qdr d r m' x.name;exact⟨⟨b1.trans hm.1,b2.trans hm.2.1,b3.trans hm.2.2.1,b4.trans hm.2.2.2⟩,o_⟩
     split
     . exact key _ ⟨ff3,ff5,ff6,ff8⟩ (by rw[ff1];omega)
     . exact key _ ⟨rfl,rfl,rfl,rfl⟩ (Nat.le_refl _)
theorem qjd:∀(l:List Decl) (m:Mk) (st:List UInt8),kS m (jY l (m,st)).1/\m.toks.length<=(jY l (m,st)).1.toks.length
 |[],m,st=>⟨⟨rfl,rfl,rfl,rfl⟩,Nat.le_refl _⟩
 | d::r,m,st=>by
   rw[Xx];have key:∀m',kS m m'->m.toks.length<=m'.toks.length->kS m (jY r (zN d d.syms (m',st))).1/\m.toks.length<=(jY r (zN d d.syms (m',st))).1.toks.length:=λm' hm ht=>by obtain ⟨⟨a1,a2,a3,a4⟩,k1⟩:=qdr d d.syms m' st;obtain ⟨⟨b1,b2,b3,b4⟩,k2⟩:=qjd r (zN d d.syms (m',st)).1 (zN d d.syms (m',st)).2;exact⟨⟨b1.trans (a1.trans hm.1),b2.trans (a2.trans hm.2.1),b3.trans (a3.trans hm.2.2.1),b4.trans (a4.trans hm.2.2.2)⟩,by show m.toks.length<=(jY r ((zN d d.syms (m',st)).1,(zN d d.syms (m',st)).2)).1.toks.length;omega⟩
   split
   . exact key _ ⟨rfl,rfl,rfl,rfl⟩ (Nat.le_refl _)
   . exact key _ ⟨rfl,rfl,rfl,rfl⟩ (Nat.le_refl _)
theorem qi6:∀(l:List Rule) (m:Mk),(yG l m).toks=m.toks/\(yG l m).inner=m.inner/\(yG l m).nons=m.nons
 |[],m=>⟨rfl,rfl,rfl⟩
 | r::l,m=>by
   rw[Xm];obtain ⟨d1,d2,d3,d4,d5,d6⟩:=qeP m r;obtain ⟨h1,h2,h3⟩:=qi6 l (X3 (Zm m r) r.left);have e:(X3 (Zm m r) r.left).toks=m.toks/\(X3 (Zm m r) r.left).inner=m.inner/\(X3 (Zm m r) r.left).nons=m.nons:=by
    unfold X3;split
    . exact⟨d1,d6,d5⟩
    . exact⟨d1,d6,d5⟩
   exact⟨h1.trans e.1,h2.trans e.2.1,h3.trans e.2.2⟩
theorem qaV(kind:Int):∀(l:List Sym) (m:Mk),yN m (xh kind l m)
 |[],m=>yN.rfl' m
 |x::r,m=>by rw[Qn];exact(qlu m kind x).trans' (qaV kind r _)
theorem qdM:∀(l:List Decl) (m:Mk),yN m (QA l m)
 |[],m=>yN.rfl' m
 |d::r,m=>by rw[Zh];exact(qaV d.kind d.syms m).trans' (qdM r _)
def qbn(src:Source):Mk:=QA src.decls (yG src.rules (jY src.decls ({},[])).1)
def Qt(src:Source):List UInt8:=if (jY src.decls ({},[])).2=[]then(src.rules.headD {}).left else(jY src.decls ({},[])).2
def V5(src:Source):GPr:={left:=0,right:=[1001+qz (Qt src) (qbn src).lefts 0],prec:= -1}
theorem qbd(src:Source):xL src=vQ src.rules {qbn src with prods:=[V5 src]}:=rfl
theorem qlv(src:Source):3<=(qbn src).toks.length/\(qbn src).inner=0/\(qbn src).nons=[]:=by
 obtain ⟨⟨a1,a2,a3,a4⟩,k1⟩:=qjd src.decls {} [];obtain ⟨l1,l2,l3⟩:=qi6 src.rules (jY src.decls ({},[])).1;obtain ⟨u1,u2,u3,u4,u5,u6,u7⟩:=qdM src.decls (yG src.rules (jY src.decls ({},[])).1);refine⟨?_,?_,?_⟩
 . show 3<=(QA _ _).toks.length;rw[u1,l1];exact k1
 . show (QA _ _).inner=0;rw[u7,l2];exact a4
 . show (QA _ _).nons=[];rw[u6,l3];exact a3
theorem qk6(src:Source):MInv (xL src)/\HdP (V5 src) (xL src):=by
 obtain ⟨h1,h2,h3⟩:=qlv src;have hl:=jv (Qt src) (qbn src).lefts 0;rw[qbd];refine⟨qeS _ _ ⟨h1,d_,λp hp=>?_,λp hp s hs=>?_,λp hp=>?_⟩,qea _ _ _ ⟨[],rfl⟩⟩<;>(dsimp only at hp;rw[List.mem_singleton]at hp;subst hp)
 . unfold V5;dsimp only;omega
 . unfold V5 at hs;dsimp only at hs ⊢;rw[List.mem_singleton]at hs;subst hs;exact Or.inr ⟨(1+qz (Qt src) (qbn src).lefts 0).toNat,o_,o_⟩
 . exact Or.inl rfl
theorem Vs(n:List UInt8):∀(l:List Alt) (m:Mk),(zK n l m).nons=m.nons/\(zK n l m).lefts=m.lefts
 |[],m=>⟨rfl,rfl⟩
 | a::r,m=>by rw[yJ];obtain ⟨h1,_,h3,_⟩:=qlK m n a;obtain ⟨k1,k2⟩:=Vs n r (Yr m n a);exact⟨k1.trans h3,k2.trans h1⟩
theorem KY:∀(l:List Rule) (m:Mk),(vQ l m).nons=m.nons/\(vQ l m).lefts=m.lefts
 |[],m=>⟨rfl,rfl⟩
 | r::l,m=>by rw[kE];obtain ⟨h1,h2⟩:=Vs r.left r.alts m;obtain ⟨k1,k2⟩:=KY l (zK r.left r.alts m);exact⟨k1.trans h1,k2.trans h2⟩
theorem qdP(m:Mk):(yD m).toks.length=m.toks.length/\(yD m).nons.length=1+m.lefts.length+m.inner.toNat/\(yD m).prods=m.prods:=by unfold yD;dsimp only;refine⟨VE _ _ _ _ _,?_,rfl⟩;rw[List.length_append,List.length_append,Vo,qfe];rfl
theorem qeM{src:Source}(h:Ki src=true):Yn src=true/\(xL src).e=0/\V6 (yD (xL src))=false/\jl src={toks:=(yD (xL src)).toks,nons:=(yD (xL src)).nons,prods:=(yD (xL src)).prods,pro:=src.pro,tail:=src.tail}:=by
 have h:=of_decide_eq_true h;unfold jl;unfold ofS at *;by_cases h1:Yn src=true
 . rw [if_pos h1]at *;by_cases h2:(xL src).e≠0
   . rw[if_pos h2]at h;exact absurd h h2
   . rw[if_neg h2]at *;by_cases h3:V6 (yD (xL src))=true
     . rw[if_pos h3]at h;cases h
     . rw[if_neg h3]at *;exact⟨h1,by simpa using h2,by simpa using h3,rfl⟩
 . rw[if_neg h1]at h;cases h
theorem gok{src:Source}(h:Ki src=true):GOk (jl src):=by
 obtain ⟨_,_,hl,he⟩:=qeM h;obtain ⟨hi,r,hr⟩:=qk6 src;obtain ⟨n1,n2,n3⟩:=qdP (xL src);unfold V6 at hl;simp only[Bool.or_eq_false_iff,decide_eq_false_iff_not,List.any_eq_false,decide_eq_true_eq]at hl;obtain ⟨⟨⟨l1,l2⟩,l3⟩,l4⟩:=hl;have hinn:=hi.inn;rw[he];refine⟨?_,?_,?_,?_,?_,?_,λp hp=>?_,λp hp=>?_,λp hp s hs=>?_,λp hp=>?_,?_⟩<;>dsimp only at *
 . rw[n1];exact hi.tk
 . omega
 . rw[n2];omega
 . omega
 . rw[n3,hr];simp
 . omega
 . rw[n3]at hp;have:=hi.left p hp;exact⟨p.left.toNat,o_,o_⟩
 . have:=l4 p hp;omega
 . rw[n3]at hp;rw[n1,n2];exact hi.right p hp s hs
 . rw[n3]at hp;rcases hi.prec p hp with h|⟨h1,h2⟩
   . exact Or.inl h
   . exact Or.inr ⟨p.prec.toNat,o_,o_⟩
 . refine⟨V5 src,r,by rw[n3];exact hr,rfl,(1+qz (Qt src) (qbn src).lefts 0).toNat,?_,?_⟩
   . have:=jv (Qt src) (qbn src).lefts 0;unfold V5;dsimp only;rw[show (1001+qz (Qt src) (qbn src).lefts 0:Int)=1000+((1+qz (Qt src) (qbn src).lefts 0).toNat:Int) by omega]
   . have:=jv (Qt src) (qbn src).lefts 0;have:=(KY src.rules {qbn src with prods:=[V5 src]}).2;rw[<- qbd]at this;dsimp only at this;rw[n2,this];omega

set_option maxHeartbeats 4000000
abbrev itV(x:Int):V:= .agg [vi (x / 16),vi (x % 16)]
abbrev prV(p:Int×Int):V:= .agg [vi p.1,vi p.2]
def Zn(g:Grammar)(x:Int):Prop:=0<=x/\∃p,g.prods[(x / 16).toNat]?=some p/\(x % 16).toNat<=p.right.length
def nxt(g:Grammar)(x:Int):Int:=((g.prods[(x / 16).toNat]?).bind λp=>p.right[(x % 16).toNat]?).getD (-1)
theorem qus(p d:Nat)(hd:d<16):((16 *(p:Int)+d) / 16)=p/\((16 *(p:Int)+d) % 16)=d:=o_
def qqy(g:Grammar)(l:List Int)(D:Int->Prop):Prop:=(∀x∈l,D x)/\∀x,D x->∀(m:Nat) p,g.prods[m]?=some p->1000<=nxt g x->p.left=nxt g x - 1000->D (16 *(m:Int))
structure IsCl(g:Grammar)(l c:List Int):Prop where
 rise:jP c
 clo:qqy g l (· ∈c)
 least:∀D,qqy g l D->∀x∈c,D x
variable {g:Grammar} {l c:List Int}
theorem IsCl.uniq{c':List Int}(h:IsCl g l c)(h':IsCl g l c'):c=c':=
 ve h.rise h'.rise λx=>⟨h.least _ h'.clo x,h'.least _ h.clo x⟩
theorem qeF{m:Nat}(h:g.prods[m]?=some p):Zn g (16 *(m:Int)):=by have e:(16 *(m:Int)) / 16=m:=o_;have e2:(16 *(m:Int)) % 16=0:=o_;exact⟨o_,p,by rw[e];exact h,by rw[e2];exact Nat.zero_le _⟩
theorem IsCl.ok(h:IsCl g l c)(hl:∀x∈l,Zn g x):∀x∈c,Zn g x:=
 h.least _ ⟨hl,λx hx m p hp _ _=>qeF hp⟩
theorem IsCl.cases(h:IsCl g l c):∀x∈c,x∈l\/ ∃y∈c,∃(m:Nat) (p:GPr),x=16 *(m:Int)/\g.prods[m]?=some p/\1000<=nxt g y/\p.left=nxt g y - 1000:=by have:=h.least (λx=>x∈c/\(x∈l\/ ∃y∈c,∃(m:Nat) (p:GPr),x=16 *(m:Int)/\g.prods[m]?=some p/\1000<=nxt g y/\p.left=nxt g y - 1000)) ⟨λx hx=>⟨h.clo.1 x hx,Or.inl hx⟩,λx hx m p hp h1 h2=>⟨h.clo.2 x hx.1 m p hp h1 h2,Or.inr ⟨x,hx.1,m,p,rfl,hp,h1,h2⟩⟩⟩;exact λx hx=>(this x hx).2
def qth(g:Grammar)(s:Int)(o:List Int):List Int:=(List.range g.prods.length).foldl (λo (m:Nat)=>if 1000<=s/\(g.prods[m]?.map (·.left)).getD 0=s - 1000 then jm o (16 *(m:Int))else o) o
def qfT(g:Grammar)(c:List Int):List Int:=c.foldl (λo x=>qth g (nxt g x) o) c
def qfd(g:Grammar):Nat->List Int->List Int
 |0,c=>c
 |n+1,c=>if qfT g c=c then c else qfd g n (qfT g c)
theorem YH{α β:Type}{P:β->Prop}{f:β->α->β}:∀(l:List α) (b:β),P b->(∀b a,a∈l->P b->P (f b a))->P (l.foldl f b)
 |[],b,h,_=>h
 |a::l,b,h,hf=>YH l (f b a) (hf b a (by simp) h) λb x hx=>hf b x (List.mem_cons_of_mem _ hx)
theorem qj8{s:Int}{o:List Int}:∀x,x∈qth g s o↔x∈o\/ ∃(m:Nat) (p:GPr),x=16 *(m:Int)/\g.prods[m]?=some p/\1000<=s/\p.left=s - 1000:=by
 have key :∀(k:Nat) (o:List Int),k<=g.prods.length->∀x,x∈(List.range k).foldl (λo (m:Nat)=>if 1000<=s/\(g.prods[m]?.map (·.left)).getD 0=s - 1000 then jm o (16 *(m:Int))else o) o↔x∈o\/ ∃(m:Nat) (p:GPr),m<k/\x=16 *(m:Int)/\g.prods[m]?=some p/\1000<=s/\p.left=s - 1000:=by
  intro k
  induction k with
  |zero=>intro o _ x;simp
  | succ k ih=>
    intro o hk x;rw[List.range_succ,List.foldl_append,List.foldl_cons,List.foldl_nil];have hgp:g.prods[k]?=some g.prods[k]:=ge_ o_;by_cases hc:1000<=s/\(g.prods[k]?.map (·.left)).getD 0=s - 1000
    . rw [if_pos hc,zC,ih o o_];rw[hgp]at hc;constructor
      . rintro ((h|⟨m,p,h1,h2⟩)|h)
        . exact Or.inl h
        . exact Or.inr ⟨m,p,o_,h2⟩
        . exact Or.inr ⟨k,_,o_,h,hgp,hc.1,hc.2⟩
      . rintro (h|⟨m,p,h1,h2,h3⟩)
        . exact Or.inl (Or.inl h)
        . by_cases e:m=k
          . subst e;exact Or.inr h2
          . exact Or.inl (Or.inr ⟨m,p,o_,h2,h3⟩)
    . rw [if_neg hc,ih o o_];constructor
      . rintro (h|⟨m,p,h1,h2⟩)
        . exact Or.inl h
        . exact Or.inr ⟨m,p,o_,h2⟩
      . rintro (h|⟨m,p,h1,h2,h3,h4⟩)
        . exact Or.inl h
        . by_cases e:m=k
          . subst e;rw[h3]at hc;exact absurd h4 hc
          . exact Or.inr ⟨m,p,o_,h2,h3,h4⟩
 intro x;unfold qth;rw[key _ o (Nat.le_refl _)];constructor
 . rintro (h|⟨m,p,_,h⟩)
   . exact Or.inl h
   . exact Or.inr ⟨m,p,h⟩
 . rintro (h|⟨m,p,h1,h2,h3⟩)
   . exact Or.inl h
   . exact Or.inr ⟨m,p,(List.getElem?_eq_some_iff.1 h2).1,h1,h2,h3⟩
theorem qje{s:Int}{o:List Int}(h:jP o):jP (qth g s o):=
 YH _ _ h λb a _ hb=>by split;exact jA hb;exact hb
theorem JC:∀x,x∈qfT g c↔x∈c\/ ∃y∈c,∃(m:Nat) (p:GPr),x=16 *(m:Int)/\g.prods[m]?=some p/\1000<=nxt g y/\p.left=nxt g y - 1000:=by
 have key:∀(l o:List Int) x,x∈l.foldl (λo x=>qth g (nxt g x) o) o↔x∈o\/ ∃y∈l,∃(m:Nat) (p:GPr),x=16 *(m:Int)/\g.prods[m]?=some p/\1000<=nxt g y/\p.left=nxt g y - 1000:=by
  intro l
  induction l with
  |nil=>intro o x;simp
  | cons a l ih=>
    intro o x;rw[List.foldl_cons,ih,qj8];constructor
    . rintro ((h|h)|⟨y,h1,h2⟩)
      . exact Or.inl h
      . exact Or.inr ⟨a,by simp,h⟩
      . exact Or.inr ⟨y,List.mem_cons_of_mem _ h1,h2⟩
    . rintro (h|⟨y,h1,h2⟩)
      . exact Or.inl (Or.inl h)
      . rcases List.mem_cons.1 h1 with rfl|h1
        . exact Or.inl (Or.inr h2)
        . exact Or.inr ⟨y,h1,h2⟩
 exact λx=>key c c x
theorem Kn(h:jP c):jP (qfT g c):=YH _ _ h λb a _ hb=>qje hb
theorem yh{N:Nat}:∀{l:List Int} {a:Int},jP l->(∀x∈l,a<=x/\x<a+N)->l.length<=N:=by
 intro l
 induction l generalizing N with
 |nil=>intros;exact Nat.zero_le _
 | cons x l ih=>
   intro a h hb;have h':=List.pairwise_cons.1 h;have h1:=hb x (by simp);cases N with
   |zero=>omega
   | succ N=>
     have:=ih (N:=N) (a:=a+1) h'.2 λy hy=>by have:=h'.1 y hy;have:=hb y (List.mem_cons_of_mem _ hy);omega
     rw[List.length_cons];omega
theorem JM{a b:List Int}(ha:jP a)(hb:jP b)(h:∀x∈a,x∈b)(hl:b.length<=a.length):a=b:=by
 have hs:a.Sublist b:=by
  clear hl
  induction b generalizing a with
  | nil=>
    cases a with
    |nil=>exact List.Sublist.slnil
    |cons x a=>exact absurd (h x (by simp)) (by simp)
  | cons y b ih=>
    have hb':=List.pairwise_cons.1 hb;cases a with
    |nil=>exact List.nil_sublist _
    | cons x a=>
      have ha':=List.pairwise_cons.1 ha;rcases List.mem_cons.1 (h x (by simp))with e|e
      . subst e;refine List.Sublist.cons_cons _ (ih ha'.2 hb'.2 λz hz=>?_);rcases List.mem_cons.1 (h z (List.mem_cons_of_mem _ hz))with e|e
        . subst e;have:=ha'.1 z hz;omega
        . exact e
      . refine List.Sublist.cons _ (ih ha hb'.2 λz hz=>?_);rcases List.mem_cons.1 (h z hz)with e2|e2
        . subst e2;have h1:=hb'.1 x e;rcases List.mem_cons.1 hz with e3|e3
          . omega
          . have:=ha'.1 z e3;omega
        . exact e2
 exact hs.eq_of_length_le hl
theorem Vu{g:Grammar}{l:List Int}(hlen:g.prods.length<=60)(hrl:∀p∈g.prods,p.right.length<=8)(hl:∀x∈l,Zn g x):∀(n:Nat) (c:List Int),jP c->(∀x∈l,x∈c)->(∀D,qqy g l D->∀x∈c,D x)->(∀x∈c,Zn g x)->961<=c.length+n->IsCl g l (qfd g n c)
 | n, c, hr,h1,h2,h3,hn=>by
   have hb:∀x∈c,0<=x/\x<0+(960:Nat):=λx hx=>by obtain ⟨h0,p,hp,_⟩:=h3 x hx;have:=(List.getElem?_eq_some_iff.1 hp).1;omega
   have hc:=yh hr hb
   match n with
   |0=>omega
   | n + 1=>
     unfold qfd;have up:∀x∈c,x∈qfT g c:=λx hx=>(JC x).2 (Or.inl hx);split
     . rename_i e;exact⟨hr,⟨h1,λx hx m p hp h4 h5=>by rw[<- e];exact(JC _).2 (Or.inr ⟨x,hx,m,p,rfl,hp,h4,h5⟩)⟩,h2⟩
     . rename_i e;refine Vu hlen hrl hl n _ (Kn hr) (λx hx=>up x (h1 x hx)) (λD hD x hx=>?_) (λx hx=>?_) ?_
       . rcases (JC x).1 hx with h|⟨y,hy,m,p,rfl,hp,h4,h5⟩
         . exact h2 D hD x h
         . exact hD.2 y (h2 D hD y hy) m p hp h4 h5
       . rcases (JC x).1 hx with h|⟨y,hy,m,p,rfl,hp,h4,h5⟩
         . exact h3 x h
         . exact qeF hp
       . have: ¬ (qfT g c).length<=c.length:=λh=>e (JM hr (Kn hr) up h).symm
         omega
def zo(g:Grammar)(l:List Int):List Int:=qfd g 961 l
theorem qcj(hlen:g.prods.length<=60)(hrl:∀p∈g.prods,p.right.length<=8)(hl:∀x∈l,Zn g x)(hr:jP l):IsCl g l (zo g l):=
 Vu hlen hrl hl 961 l hr (λ_ h=>h) (λD hD=>hD.1) hl o_

variable {H:Nat->Option MObj} {z n:Nat} {es:List Go.E.V} {ro:Bool}
theorem qbk{id:Nat}{es':List V}(hH:H id=some (.own z es ro))(he:ErL true H es es')(hn:es.length=n):Er true H (.msl id z 0 n) (.sl z false es'):=by obtain ⟨h1,h2⟩:=he.get;refine .msl id z 0 n es ro es' rfl hH o_ o_ λi c c' h3 h4=>?_;rw[Nat.zero_add]at h3;exact h2 i c c' h3 h4
variable {K:Go.E.V->Prop} {k off:Nat} {cs:List Go.E.V}
theorem qbM{c:V}(hx:es[k]?=some (.agg cs))(hc:cs[off]?=some c)(hk:K c):onS (ldQ (some (.own z es ro)) false 1 k off) K:=by
 have e:ldQ (some (.own z es ro)) false 1 k off=some c:=by simp only[ldQ,hx,jQ];rw[if_neg (by simp[V.isAgg])];simp[QR,V.cells,hc]
 rw[e];exact hk
variable {s:St} {v:Go.E.V}
theorem qcx{K:St->Prop}{id:Nat}(hx:es[k]?=some (.agg cs))(hv:v.cells=[v])(hc:v.okCell=true)(ha:v.isAgg=false)(ho:off<cs.length)
(hk:K (s.setO id (some (.own z (es.set k (.agg (cs.set off v))) false)))):onS (stQ s (some (.own z es false)) 1 id k off v) K:=by
 have e0:zU 1 z (.agg cs) v off=some (.agg (cs.set off v)):=by unfold zU;rw[if_neg (by rw[ha];simp[V.isAgg])];cases v<;>simp_all [V.isAgg]
 have e:stQ s (some (.own z es false)) 1 id k off v=some (s.setO id (some (.own z (es.set k (.agg (cs.set off v))) false))):=by simp only[stQ,hx,e0,hv,hc,List.length_singleton,and_self,if_true,Option.map_some]
 rw[e];exact hk
theorem qi5{K:St->Prop}{id:Nat}{o:Option MObj}(hO:o=some (.own z es false))(hx:es[k]?=some (.agg cs))(hv:v.cells=[v])(hc:v.okCell=true)(ha:v.isAgg=false)(ho:off<cs.length)
(hk:K (s.setO id (some (.own z (es.set k (.agg (cs.set off v))) false)))):onS (stQ s o 1 id k off v) K:=by subst hO;exact qcx hx hv hc ha ho hk
theorem Yu{c:V}{o:Option MObj}(hO:o=some (.own z es ro))(hx:es[k]?=some (.agg cs))(hc:cs[off]?=some c)(hk:K c):onS (ldQ o false 1 k off) K:=by subst hO;exact qbM hx hc hk
theorem Gr.ok{next:Nat}(h:Gr H next z es v):v.cells=[v]/\v.okCell=true/\v.isAgg=false:=by rcases h with rfl|⟨id,f,rfl,_⟩<;>exact⟨rfl,rfl,rfl⟩
variable {cls:Cls}
theorem qb8{id:Nat}{K:V->St->Prop}{bytes:Nat}{vy:V}{ys:List V}(hcl:(cls == .t)=false)(hs:qM s.H z ys vy)
(hb:ys.length *bytes<=140737488355328)(hl:ys.length<=maxLen)
(hk:K (.msl id z 0 ys.length) (s.setO id (some (.own z ys false)))):Yi cls id s K true z bytes (.sl z true []) vy:=by
 unfold Yi;rw[hs.1 s rfl];refine⟨λe=>(by subst e;cases hcl),?_⟩;have e:qB id s true z (.sl z true []) ys=some (.msl id z 0 ys.length,s.setO id (some (.own z ys false)),ys.length):=by simp[qB]
 rw[e];exact⟨hb,hl,hk⟩
def qau(s:Sym):List Decl->List Decl
 |[]=>[]
 |[d]=>[{d with syms:=d.syms++[s]}]
 |d::e::r=>d::qau s (e::r)
theorem QZ(s:Sym)(o:List Decl)(d:Decl):qau s (o++[d])=o++[{d with syms:=d.syms++[s]}]:=by
 induction o with
 |nil=>rfl
 | cons a o ih=>
   cases o with
   |nil=>rfl
   |cons b o=>show a::qau s (b::o++[d])=_;rw[ih];rfl
def yM(i:Nat)(x:Int)(out:List Decl):List Decl:=
 if x % 8 % 4=0 then out else if 4<x % 8/\out≠[]then qau (QC i) out else out++[{kind:=1+x % 8 % 4,syms:=[QC i]}]
def jb(l:List Int):Nat->List Decl
 |0=>[]
 |i+1=>yM i (l.getD i 0) (jb l i)
def Qq(l:List Int):List Decl:=jb l (min 4 l.length)
def DI(H:Nat->Option MObj)(next:Nat)(v:V)(out:List Decl):Prop:=
 (out=[]/\v=.sl 4 true [])\/ ∃id es k vS ss,∃(o:List Decl) (sy:List Sym),v=.msl id 4 0 (es.length+1)/\H id=some (.own 4 (es++[.agg [vi k,.str [],vS,vi 0]]) false)/\id<next/\Gr H next 4 ss vS/\Ja es (o.map Decl.V)/\Ja ss (sy.map Sym.V)/\out=o++[{kind:=k,syms:=sy}]/\es.length<=4/\ss.length<=4
variable {H':Nat->Option MObj} {next':Nat}
theorem DI.mono{next:Nat}{out:List Decl}(h:DI H next v out)(hn:next<=next')(hH:∀j,j<next->H' j=H j):DI H' next' v out:=by
 rcases h with h|⟨id,es,k,vS,ss,o,sy,h1,h2,h3,h4,h5⟩
 . exact Or.inl h
 . exact Or.inr ⟨id,es,k,vS,ss,o,sy,h1,by rw[hH id h3];exact h2,o_,h4.mono hn (λj _ hj=>hH j hj),h5⟩
theorem Q7(hl:l.length<=1099511627776):Pure Tryz.prog 46 [.sl 1 false (l.map (V.int .i64))] (.sl 4 false ((Qq l).map Decl.V)):=by
 refine pure_intro Tryz.func46 nm_ qr8 (by show 1<=59;decide) ?_
 show ewp _ qqS _ _;repeat' with_reducible first|refine s_ ?_|simp -implicitDefEqProofs only[wZZ,seval]
 refine qc ?nx1 (λ(i:Nat) s=>s.f 0=?v1_0/\s.f 4=vi i/\(i<=l.length)/\(i<=4)/\((∃v,s.f 3=v/\DI s.H s.next v (jb l i)/\(jb l i).length<=i/\∀d∈jb l i,d.syms.length<=i))) (λi=>l.length - i) (0) wj_ (by refine⟨?_,?_,wo_,wo_,(by exact⟨_,by simp -implicitDefEqProofs only[wL,seval],Or.inl ⟨rfl,rfl⟩,Nat.le_refl _,λd h=>by cases h⟩)⟩<;>first|(simp -implicitDefEqProofs only[wL,wM,wN,wX,seval,Option.some.injEq]<;>exact wt_)|rfl|exact⟨_,rfl⟩) ?_;intro i s hnx ⟨g0,g4,k1_0,k1_1,k1_2⟩;obtain ⟨v3,g3,hD,hln,hsy⟩:=k1_2;have hzi:=w1_ i;by_cases hi:i<l.length/\i<4
 . obtain ⟨hi1,hi4⟩:=hi;obtain ⟨q,hq⟩:∃q:Nat,l[i] % 8=q:=⟨(l[i] % 8).toNat,o_⟩;have hq8:q<8:=o_;have hm:(q:Int).tmod 4=((q % 4:Nat):Int):=(by rw[Int.tmod_eq_emod_of_nonneg o_];omega);have hst:jb l (i+1)=yM i l[i] (jb l i):=(by show yM i (l.getD i 0) _=_;rw[List.getD_eq_getElem?_getD,ge_ hi1];rfl);unfold yM at hst;rw[hq]at hst;by_cases h0:q % 4=0
   . rw[if_pos o_]at hst;repeat' with_reducible first|refine s_ ?_|simp -implicitDefEqProofs only[wZZ,seval,g0,g4,g3,hq,hm,hzi]|(first|apply qa|apply ql|apply qj)<;>intro h h_<;>(try simp only[wD,reduceCtorEq]at h_)<;>(try exact wb_)<;>(try simp only[h])|refine t_ ?_|refine zJ we_ we_ (qR wf_ wf_) ?_
     refine⟨wk_,i+1,o_,?_⟩;refine⟨?_,?_,?_,?_,?_⟩;iterate 2 (focus(first|(simp -implicitDefEqProofs only[wL,wM,wN,wX,seval,Option.some.injEq,g0,g4]<;>exact wt_)|rfl|exact⟨_,rfl⟩))
     all_goals try omega
     exact⟨v3,rfl,by rw[hst];exact hD.mono o_ (λ_ _=>rfl),by rw[hst];omega,λd hd=>by rw[hst]at hd;have:=hsy d hd;omega⟩
   . rw [if_neg o_]at hst;have hqm:0<q % 4:=o_;have hz1:IntKind.i64.wrap (1+((q % 4:Nat):Int))=1+((q % 4:Nat):Int):=wrap64 o_ o_;rcases hD with ⟨h1,rfl⟩|⟨id,es,k,vS,ss,o,sy,rfl,h2,h3,h4,h5,h6,h7,h8,h9⟩
     . rw[h1,if_neg (by simp)]at hst;repeat' with_reducible first|refine s_ ?_|simp -implicitDefEqProofs only[wZZ,seval,g0,g4,g3,hq,hm,hzi,hz1]|(first|apply qa|apply ql|apply qj)<;>intro h h_<;>(try simp only[wD,reduceCtorEq]at h_)<;>(try exact wb_)<;>(try simp only[h])|(refine qb8 rfl qM.sl (by simp only[wZ]<;>omega) (by unfold maxLen;simp only[wZ]<;>omega) ?_)|refine t_ ?_|refine zJ we_ we_ (qR wf_ wf_) ?_|refine jy we_ (jU wf_ wf_) ?_
       all_goals
        refine⟨by(try simp only[wN])<;>omega,i+1,o_,trivial,rfl,o_,o_,_,rfl,?_,by rw[hst];simp,λd hd=>by rw[hst]at hd;simp at hd;subst hd;simp⟩;rw[hst];refine Or.inr ⟨_,[],1+((q % 4:Nat):Int),.sl 4 true [(QC i).V],[(QC i).V],[],[QC i],rfl,?_,by(try simp only[wN])<;>omega,Gr.clip,.nil,.cons qf .nil,by simp,by simp,by simp⟩;simp only[wM]
        repeat(first|rw[if_pos trivial]|rw[if_pos rfl]|rw[if_neg o_])
        rfl
     . have hol:o.length=es.length:=(by have:=h5.len;simpa using this);have hdl:(jb l i).length=o.length+1:=(by rw[h7];simp);have hzl:IntKind.i64.wrap (((es.length+1:Nat):Int) - 1)=(es.length:Int):=(by rw[wrap64 o_ o_];omega);by_cases hq4:4<q
       . rw [if_pos ⟨o_,by rw[h7];simp⟩,h7,QZ]at hst;have hg1:(es++[V.agg [vi k,.str [],vS,vi 0]])[es.length]?=some (V.agg [vi k,.str [],vS,vi 0]):=(by simp);have hne:gid vS≠some id:=h4.ne (λf e=>by rw[h2]at e;cases e);repeat' with_reducible first|refine s_ ?_|simp -implicitDefEqProofs only[wZZ,seval,g0,g4,g3,hq,hm,hzi,hz1,hzl,h2,qb hne]|(first|apply qa|apply ql|apply qj)<;>intro h h_<;>(try simp only[wD,reduceCtorEq]at h_)<;>(try exact wb_)<;>(try simp only[h])|apply qX rfl (h4.mono (Nat.le_refl _) (λid h1 h2=>by(try simp only[wM]);(repeat rw[if_neg o_])));(focus(first|exact qM.sl|exact qM.asl));(focus(simp only[wZ]<;>omega));(focus(unfold maxLen;simp only[wZ]<;>omega))|(refine qbM hg1 rfl ?_)|apply qcx hg1;exact wu_;exact wu_;exact wu_;(focus(simp only[wZ]<;>omega))|refine t_ ?_|refine zJ we_ we_ (qR wf_ wf_) ?_|refine jy we_ (jU wf_ wf_) ?_|simp -implicitDefEqProofs (disch:=omega) only[w64,if_neg]
         have hsl:(es++[V.agg [vi k,.str [],vS,vi 0]]).length=es.length+1:=by simp
         all_goals
          refine⟨by(try simp only[wN])<;>omega,i+1,o_,trivial,rfl,o_,o_,_,rfl,?_,?_,λd hd=>?_⟩
          . rw[hst];refine Or.inr ⟨id,es,k,.asl (s.next+8+6+3+3+6+12) (ss.length+1) 4 (ss++[(QC i).V]),ss++[(QC i).V],o,sy++[QC i],rfl,?_,by(try simp only[wN])<;>omega,Gr.tok (fin:=ss.length+1) ?_ ?_,h5,?_,rfl,h8,?_⟩
            . simp only[wM]
              repeat(first|rw[if_pos trivial]|rw[if_pos rfl]|rw[if_neg o_])
              simp
            . simp only[wM]
              repeat(first|rw[if_pos trivial]|rw[if_pos rfl]|rw[if_neg o_])
            . (try simp only[wN])<;>omega
            . rw[List.map_append];exact h6.snoc qf
            . have:=hsy _ (show ({kind:=k,syms:=sy}:Decl)∈jb l i by rw[h7];simp);have:=h6.len;simp at *;omega
          . rw[hst];simp;omega
          . rw[hst]at hd;rcases List.mem_append.1 hd with hd|hd
            . have:=hsy d (by rw[h7];exact List.mem_append_left _ hd);omega
            . rw[List.mem_singleton]at hd;have:=hsy _ (show ({kind:=k,syms:=sy}:Decl)∈jb l i by rw[h7];simp);subst hd;simp at this ⊢;omega
       . rw [if_neg o_,h7]at hst;repeat' with_reducible first|refine s_ ?_|simp -implicitDefEqProofs only[wZZ,seval,g0,g4,g3,hq,hm,hzi,hz1,hzl,h2]|(first|apply qa|apply ql|apply qj)<;>intro h h_<;>(try simp only[wD,reduceCtorEq]at h_)<;>(try exact wb_)<;>(try simp only[h])|(refine Ju (es:=es++[V.agg [vi k,.str [],vS,vi 0]]) rfl (by simp only[wM];exact h2) (by simp) qM.sl (by simp only[wZ]<;>omega) (by unfold maxLen;simp only[wZ]<;>omega) ?_)|refine t_ ?_|refine zJ we_ we_ (qR wf_ wf_) ?_|refine jy we_ (jU wf_ wf_) ?_
         all_goals
          refine⟨by(try simp only[wN])<;>omega,i+1,o_,trivial,rfl,o_,o_,_,rfl,?_,?_,λd hd=>?_⟩
          . rw[hst];refine Or.inr ⟨_,es++[V.agg [vi k,.str [],vS,vi 0]],1+((q % 4:Nat):Int),.sl 4 true [(QC i).V],[(QC i).V],o++[{kind:=k,syms:=sy}],[QC i],rfl,?_,by(try simp only[wN])<;>omega,Gr.clip,?_,.cons qf .nil,by simp,?_,by simp⟩
            . simp only[wM]
              repeat(first|rw[if_pos trivial]|rw[if_pos rfl]|rw[if_neg o_])
            . rw[List.map_append];exact h5.snoc (ErL.agg (.cons (.int _ _) (.cons (.str _) (.cons (h4.erL h6.up) (.cons (.int _ _) .nil)))))
            . simp;omega
          . rw[hst];simp;omega
          . rw[hst]at hd;rcases List.mem_append.1 hd with hd|hd
            . have:=hsy d (by rw[h7];exact hd);omega
            . rw[List.mem_singleton]at hd;subst hd;simp
 . have e:jb l i=Qq l:=(by unfold Qq;rw[show i=min 4 l.length by omega]);rcases hD with ⟨h1,rfl⟩|⟨id,es,k,vS,ss,o,sy,rfl,h2,h3,h4,h5,h6,h7,h8,h9⟩
   . repeat' with_reducible first|refine s_ ?_|simp -implicitDefEqProofs only[wZZ,seval,g0,g4,g3]|(first|apply qa|apply ql|apply qj)<;>intro h h_<;>(try simp only[wD,reduceCtorEq]at h_)<;>(try exact wb_)<;>(try simp only[h])
     rw[<- e,h1];all_goals refine qx rfl (Or.inr rfl) ?_
     all_goals(try simp -implicitDefEqProofs only[wL,seval,g0,g4])
     all_goals refine er_ ?_
     all_goals(try(with_reducible rfl))
     all_goals first|rfl|(rw[<- e,h1];rfl)
   . repeat' with_reducible first|refine s_ ?_|simp -implicitDefEqProofs only[wZZ,seval,g0,g4,g3]|(first|apply qa|apply ql|apply qj)<;>intro h h_<;>(try simp only[wD,reduceCtorEq]at h_)<;>(try exact wb_)<;>(try simp only[h])
     all_goals(rw[<- e,h7,List.map_append])
     all_goals(refine qx (t:=2) rfl (Or.inr rfl) ?_)
     all_goals(simp -implicitDefEqProofs only[wL,wM,seval])
     all_goals(refine qbk h2 (ErL.snoc h5.up (ErL.agg ?_)) (by simp))
     all_goals exact .cons (.int _ _) (.cons (.str _) (.cons (h4.erL h6.up) (.cons (.int _ _) .nil)))

structure GrI where
 nons:Int:=0
 rules:List (List Int):=[]
 levels:List Int:=[]
 inner:List Int:=[]
 bare:Bool:=false
 deriving DecidableEq,Inhabited
abbrev zF(l:List Int):V:= .sl 1 false (l.map (V.int .i64))
@[reducible] def GrI.V(x:GrI):V:= .agg [vi x.nons,.sl 1 false (x.rules.map zF),zF x.levels,zF x.inner,.bool x.bare]
def Jd:List UInt8:=[123,36,36,32,61,32,36,49,125]
def YC:List UInt8:=[123,102,40,36,36,41,125]
def qvo:List UInt8:=[101,114,114,111,114]
abbrev qlb(l:List Int)(n:Nat)(j:Nat):Sym:=Kl (l.getD j 0) n
def qgu(inner:List Int)(i:Nat):Bool:=decide (i<inner.length) && decide ((inner.getD i 0).tmod 3=1)
def qr5(inner:List Int)(i:Nat):Bool:=decide (i<inner.length) && !decide ((inner.getD i 0).tmod 2=0)
def xI(l:List Int)(n:Nat)(mid:Bool):Nat->List Part
 |0=>[]
 |j+1=>xI l n mid j++[{sym:=qlb l n (j+1)}]++(if j=0/\mid=true then[{code:=Jd}]else[])
def Vd(l:List Int)(n:Nat):Nat->Bool
 |0=>true
 |j+1=>Vd l n j && ((qlb l n (j+1)).lit || decide ((qlb l n (j+1)).name=qvo))
def qfC(l:List Int)(n:Nat)(inner:List Int)(i:Nat):Alt:=
 {parts:=xI l n (qgu inner i) (min 4 (l.length - 1))++(if qr5 inner i=true then[{code:=YC}]else[])}
def qbN(l:List Int)(n:Nat):Bool:=Vd l n (min 4 (l.length - 1))
theorem qgk(l:List Int)(n:Nat)(mid:Bool)(j:Nat):(xI l n mid j).length<=2 *j:=by
 induction j with
 |zero=>simp[xI]
 |succ j ih=>unfold xI;simp only[List.length_append,List.length_cons,List.length_nil];split<;>simp<;>omega
theorem getD_some{α:Type}{l:List α}{i:Nat}{d:α}(h:i<l.length):l[i]?=some (l.getD i d):=by rw[List.getD_eq_getElem?_getD,ge_ h];rfl
structure AltAt(s:St)(s0:St)(a:Nat)(ps:List Part)(pl:Bool):Prop where
 ex:∃vP es,s.H a=some (.own 6 [.agg [vP,.str [],.bool false,vi 0,vi 0,vi 0]] false)/\Gr s.H s.next 6 es vP/\Ja es (ps.map Part.V)/\∀j,gid vP=some j->s0.next<=j
 pl:s.f 10=.bool pl
 fr:∀t,t<10->s.f t=s0.f t
 hp:∀j,j<s0.next->j≠a->s.H j=s0.H j
 nx:s0.next<=s.next
theorem AltAt.mk1{s0:St}{a:Nat}{ps:List Part}{pl:Bool}{vP:V}(h1:s.H a=some (.own 6 [.agg [vP,.str [],.bool false,vi 0,vi 0,vi 0]] false))(h2:Gr s.H s.next 6 es vP)(h3:Ja es (ps.map Part.V))(h4:∀j,gid vP=some j->s0.next<=j)
(h5:s.f 10=.bool pl)(h6:∀t,t<10->s.f t=s0.f t)(h7:∀j,j<s0.next->j≠a->s.H j=s0.H j)(h8:s0.next<=s.next):AltAt s s0 a ps pl:=⟨⟨vP,es,h1,h2,h3,h4⟩,h5,h6,h7,h8⟩
theorem qzJ{s0:St}{x:GrI}{n i a xb:Nat}{E:EC}{Q:Exit->St->Prop}(hn:0<n)(hn4:n<=4)(hi:i<x.rules.length)(hi9:i<9)(hne:(x.rules.getD i [])≠[])(hb:(x.rules.getD i []).length<=1099511627776)(hib:x.inner.length<=1099511627776)
(f1:s0.f 1=.ptr xb 0 0)(f3:s0.f 3=vi n)(f7:s0.f 7=vi i)(f9:s0.f 9=.ptr a 0 0)(f10:s0.f 10=.bool true)(hx:s0.H xb=some (.own 5 [x.V] false))(ha:s0.H a=some (.own 6 [.agg [.sl 6 true [],.str [],.bool false,vi 0,vi 0,vi 0]] false))
(lx:xb<s0.next)(la:a<s0.next)(hax:a≠xb)
(hQ:∀s',AltAt s' s0 a (qfC (x.rules.getD i []) n x.inner i).parts (qbN (x.rules.getD i []) n)->ewp Tryz.prog E Q s'):ewp Tryz.prog (.seq qiH (.seq qhu E)) Q s0:=by
 have hg:=getD_some (d:=[]) hi;generalize x.rules.getD i []=l at *;have hll:0<l.length:=List.length_pos_iff.2 hne;repeat' with_reducible first|refine s_ ?_|simp -implicitDefEqProofs only[wZZ,seval,f1,f3,f7,f9,f10]
 refine qc ?nx3 (λ(j:Nat) s=>s.f 1=?v3_1/\s.f 2=?v3_2/\s.f 3=?v3_3/\s.f 4=?v3_4/\s.f 5=?v3_5/\s.f 7=?v3_7/\s.f 8=?v3_8/\s.f 9=?v3_9/\s.f 11=vi ((j+1:Nat):Int)/\(j+1<=l.length)/\(j<=4)/\(AltAt s s0 a (xI l n (qgu x.inner i) j) (Vd l n j))) (λj=>l.length - j) (0) wj_ (by refine⟨?_,?_,?_,?_,?_,?_,?_,?_,?_,wo_,wo_,(by exact⟨⟨.sl 6 true [],[],by(simp only[wM];(repeat first|rw[if_pos trivial]|rw[if_pos rfl]|rw[if_neg o_]));exact ha,Gr.nil,.nil,λj h=>by cases h⟩,by(simp -implicitDefEqProofs only[wL,seval]);exact f10,λt ht=>by simp only[wL];repeat(first|rw[if_pos rfl]|rw[if_neg o_]),λj h1 h2=>mm_,wg_⟩)⟩<;>first|(simp -implicitDefEqProofs only[wL,wM,wN,wX,seval,Option.some.injEq]<;>exact wt_)|rfl|exact⟨_,rfl⟩) ?_;intro j s hnx ⟨g1,g2,g3,g4,g5,g7,g8,g9,g11,k3_0,k3_1,k3_2⟩;obtain ⟨⟨vP,es,o1,GP,eP,hfr⟩,hpl,hfl,hhp,hnx2⟩:=k3_2;have hx1:s.H xb=some (.own 5 [x.V] false):=by rw[hhp xb lx o_];exact hx
 have q1:=hfl 1 o_;have q3:=hfl 3 o_;have q7:=hfl 7 o_;have q9:=hfl 9 o_;rw[f1]at q1;rw[f3]at q3;rw[f7]at q7;rw[f9]at q9;have hzj:IntKind.i64.wrap ((j+1+1:Nat):Int)=((j+1+1:Nat):Int):=wrap64 o_ o_;have hPa:gid vP≠some a:=GP.ne (λf e=>by rw[o1]at e;cases e);have hPx:gid vP≠some xb:=GP.ne (λf e=>by rw[hx1]at e;cases e);have hle:=eP.len;have hle2:=qgk l n (qgu x.inner i) j;rw[List.length_map]at hle;by_cases hj:j+1<l.length/\j<4
 . have hgj:=getD_some (d:=(0:Int)) hj.1;have hsym:=qaX (x:=l.getD (j+1) 0) (nons:=n) o_ o_;have hps:xI l n (qgu x.inner i) (j+1)=xI l n (qgu x.inner i) j++[{sym:=qlb l n (j+1)}]++(if j=0/\qgu x.inner i=true then[{code:=Jd}]else[]):=rfl;have hpp:Vd l n (j+1)=(Vd l n j && ((qlb l n (j+1)).lit || decide ((qlb l n (j+1)).name=qvo))):=rfl;have hpl2:=hpl;have hy:Kl (l.getD (j+1) 0) n=qlb l n (j+1):=rfl;rw[hy]at hsym;generalize qlb l n (j+1)=y at *;generalize Vd l n j=pl at *;obtain ⟨ynm,ylt,ynu,yat⟩:=y;by_cases hmid:i<x.inner.length/\j=0/\(x.inner.getD i 0).tmod 3=1
   . have hgi:=getD_some (d:=(0:Int)) hmid.1;have hmb:qgu x.inner i=true:=(by unfold qgu;rw[Bool.and_eq_true,decide_eq_true_eq,decide_eq_true_eq];exact⟨hmid.1,hmid.2.2⟩);rw[if_pos ⟨hmid.2.1,hmb⟩]at hps;cases pl<;>cases ylt
     all_goals
      repeat' with_reducible first|refine s_ ?_|simp -implicitDefEqProofs only[wZZ,seval,g1,g2,g3,g4,g5,g7,g8,g9,g11,f1,f3,f7,f9,hpl2,hx1,o1,hzj,qb hPa,qb hPx]|(first|apply qa|apply ql|apply qj)<;>intro h h_<;>(try simp only[wD,reduceCtorEq]at h_)<;>(try exact wb_)<;>(try simp only[h])|refine t_ ?_|refine cq2 hsym qf qf ?_|apply qX rfl (GP.mono (Nat.le_refl _) (λid h1 h2=>by(try simp only[wM]);(repeat rw[if_neg o_])));(focus(first|exact qM.sl|exact qM.asl));(focus(simp only[wZ]<;>omega));(focus(unfold maxLen;simp only[wZ]<;>omega))|apply qlk;(focus((try simp only[wM]);(repeat first|rw[if_pos trivial]|rw[if_pos rfl]|rw[if_neg o_]);(try rfl)));exact qM.sl;(focus(simp only[wZ]<;>omega));(focus(unfold maxLen;simp only[wZ]<;>omega))|simp -implicitDefEqProofs (disch:=omega) only[w64,if_neg]
     all_goals
      refine⟨by(try simp only[wN])<;>omega,j+1,o_,trivial,trivial,trivial,trivial,trivial,trivial,trivial,trivial,rfl,o_,o_,?_⟩;apply AltAt.mk1
      . simp only[wM];(repeat first|rw[if_pos trivial]|rw[if_pos rfl]|rw[if_neg o_]);(try exact rfl)
      . exact Gr.tok wc_ wg_
      . rw[hps];(repeat rw[List.map_append]);refine(eP.snoc ?_).snoc ?_<;>exact qf
      . intro q hq;cases hq;omega
      . (simp -implicitDefEqProofs only[wL,seval]);rw[hpp];exact rfl
      . intro t ht;simp only[wL];(repeat first|rw[if_pos rfl]|rw[if_neg o_]);exact hfl t ht
      . intro q h1 h2;simp only[wM];(repeat first|rw[if_pos trivial]|rw[if_pos rfl]|rw[if_neg o_]|rw[qb (λe=>by have:=hfr _ e;omega)]);(try simp only[wM]);(repeat first|rw[if_pos trivial]|rw[if_pos rfl]|rw[if_neg o_]);exact hhp q h1 h2
      . ((try simp only[wN])<;>omega)
   . have hnm: ¬ (j=0/\qgu x.inner i=true):=λe=>hmid (by
      have:=e.2;unfold qgu at this;rw[Bool.and_eq_true,decide_eq_true_eq,decide_eq_true_eq]at this;exact⟨this.1,e.1,this.2⟩)
     rw[if_neg hnm,List.append_nil]at hps;by_cases hin:i<x.inner.length
     . have hgi:=getD_some (d:=(0:Int)) hin;by_cases hj0:j=0
       . have htm: ¬ (x.inner.getD i 0).tmod 3=1:=λe=>hmid ⟨hin,hj0,e⟩;clear hmid hnm;cases pl<;>cases ylt
         all_goals
          repeat' with_reducible first|refine s_ ?_|simp -implicitDefEqProofs only[wZZ,seval,g1,g2,g3,g4,g5,g7,g8,g9,g11,f1,f3,f7,f9,hpl2,hx1,o1,hzj,qb hPa,qb hPx]|(first|apply qa|apply ql|apply qj)<;>intro h h_<;>(try simp only[wD,reduceCtorEq]at h_)<;>(try exact wb_)<;>(try simp only[h])|refine t_ ?_|refine cq2 hsym qf qf ?_|apply qX rfl (GP.mono (Nat.le_refl _) (λid h1 h2=>by(try simp only[wM]);(repeat rw[if_neg o_])));(focus(first|exact qM.sl|exact qM.asl));(focus(simp only[wZ]<;>omega));(focus(unfold maxLen;simp only[wZ]<;>omega))|simp -implicitDefEqProofs (disch:=omega) only[w64,if_neg]
         all_goals
          refine⟨by(try simp only[wN])<;>omega,j+1,o_,trivial,trivial,trivial,trivial,trivial,trivial,trivial,trivial,rfl,o_,o_,?_⟩;apply AltAt.mk1
          . simp only[wM];(repeat first|rw[if_pos trivial]|rw[if_pos rfl]|rw[if_neg o_]);(try exact rfl)
          . exact Gr.tok wc_ wg_
          . rw[hps];(repeat rw[List.map_append]);refine eP.snoc ?_<;>exact qf
          . intro q hq;cases hq;omega
          . (simp -implicitDefEqProofs only[wL,seval]);rw[hpp];exact rfl
          . intro t ht;simp only[wL];(repeat first|rw[if_pos rfl]|rw[if_neg o_]);exact hfl t ht
          . intro q h1 h2;simp only[wM];(repeat first|rw[if_pos trivial]|rw[if_pos rfl]|rw[if_neg o_]|rw[qb (λe=>by have:=hfr _ e;omega)]);(try simp only[wM]);(repeat first|rw[if_pos trivial]|rw[if_pos rfl]|rw[if_neg o_]);exact hhp q h1 h2
          . ((try simp only[wN])<;>omega)
       . clear hmid hnm;cases pl<;>cases ylt
         all_goals
          repeat' with_reducible first|refine s_ ?_|simp -implicitDefEqProofs only[wZZ,seval,g1,g2,g3,g4,g5,g7,g8,g9,g11,f1,f3,f7,f9,hpl2,hx1,o1,hzj,qb hPa,qb hPx]|(first|apply qa|apply ql|apply qj)<;>intro h h_<;>(try simp only[wD,reduceCtorEq]at h_)<;>(try exact wb_)<;>(try simp only[h])|refine t_ ?_|refine cq2 hsym qf qf ?_|apply qX rfl (GP.mono (Nat.le_refl _) (λid h1 h2=>by(try simp only[wM]);(repeat rw[if_neg o_])));(focus(first|exact qM.sl|exact qM.asl));(focus(simp only[wZ]<;>omega));(focus(unfold maxLen;simp only[wZ]<;>omega))|simp -implicitDefEqProofs (disch:=omega) only[w64,if_neg]
         all_goals
          refine⟨by(try simp only[wN])<;>omega,j+1,o_,trivial,trivial,trivial,trivial,trivial,trivial,trivial,trivial,rfl,o_,o_,?_⟩;apply AltAt.mk1
          . simp only[wM];(repeat first|rw[if_pos trivial]|rw[if_pos rfl]|rw[if_neg o_]);(try exact rfl)
          . exact Gr.tok wc_ wg_
          . rw[hps];(repeat rw[List.map_append]);refine eP.snoc ?_<;>exact qf
          . intro q hq;cases hq;omega
          . (simp -implicitDefEqProofs only[wL,seval]);rw[hpp];exact rfl
          . intro t ht;simp only[wL];(repeat first|rw[if_pos rfl]|rw[if_neg o_]);exact hfl t ht
          . intro q h1 h2;simp only[wM];(repeat first|rw[if_pos trivial]|rw[if_pos rfl]|rw[if_neg o_]|rw[qb (λe=>by have:=hfr _ e;omega)]);(try simp only[wM]);(repeat first|rw[if_pos trivial]|rw[if_pos rfl]|rw[if_neg o_]);exact hhp q h1 h2
          . ((try simp only[wN])<;>omega)
     . have hgi:x.inner[i]?=none:=List.getElem?_eq_none o_;clear hmid hnm;cases pl<;>cases ylt
       all_goals
        repeat' with_reducible first|refine s_ ?_|simp -implicitDefEqProofs only[wZZ,seval,g1,g2,g3,g4,g5,g7,g8,g9,g11,f1,f3,f7,f9,hpl2,hx1,o1,hzj,qb hPa,qb hPx]|(first|apply qa|apply ql|apply qj)<;>intro h h_<;>(try simp only[wD,reduceCtorEq]at h_)<;>(try exact wb_)<;>(try simp only[h])|refine t_ ?_|refine cq2 hsym qf qf ?_|apply qX rfl (GP.mono (Nat.le_refl _) (λid h1 h2=>by(try simp only[wM]);(repeat rw[if_neg o_])));(focus(first|exact qM.sl|exact qM.asl));(focus(simp only[wZ]<;>omega));(focus(unfold maxLen;simp only[wZ]<;>omega))|simp -implicitDefEqProofs (disch:=omega) only[w64,if_neg]
       all_goals
        refine⟨by(try simp only[wN])<;>omega,j+1,o_,trivial,trivial,trivial,trivial,trivial,trivial,trivial,trivial,rfl,o_,o_,?_⟩;apply AltAt.mk1
        . simp only[wM];(repeat first|rw[if_pos trivial]|rw[if_pos rfl]|rw[if_neg o_]);(try exact rfl)
        . exact Gr.tok wc_ wg_
        . rw[hps];(repeat rw[List.map_append]);refine eP.snoc ?_<;>exact qf
        . intro q hq;cases hq;omega
        . (simp -implicitDefEqProofs only[wL,seval]);rw[hpp];exact rfl
        . intro t ht;simp only[wL];(repeat first|rw[if_pos rfl]|rw[if_neg o_]);exact hfl t ht
        . intro q h1 h2;simp only[wM];(repeat first|rw[if_pos trivial]|rw[if_pos rfl]|rw[if_neg o_]|rw[qb (λe=>by have:=hfr _ e;omega)]);(try simp only[wM]);(repeat first|rw[if_pos trivial]|rw[if_pos rfl]|rw[if_neg o_]);exact hhp q h1 h2
        . ((try simp only[wN])<;>omega)
 . have hjm:j=min 4 (l.length - 1):=o_;have hpl2:=hpl;have hps:(qfC l n x.inner i).parts=xI l n (qgu x.inner i) j++(if qr5 x.inner i=true then[{code:=YC}]else[]):=(by unfold qfC;rw[hjm]);have hpp:qbN l n=Vd l n j:=(by unfold qbN;rw[hjm]);rw[hpp]at hQ;by_cases hend:qr5 x.inner i=true
   . have h2:=hend;unfold qr5 at h2;rw[Bool.and_eq_true,decide_eq_true_eq,Bool.not_eq_true',decide_eq_false_iff_not]at h2;have hin:=h2.1;have htm:=h2.2;have hgi:=getD_some (d:=(0:Int)) hin;rw[if_pos hend]at hps;repeat' with_reducible first|refine s_ ?_|simp -implicitDefEqProofs only[wZZ,seval,g1,g2,g3,g4,g5,g7,g8,g9,g11,f1,f3,f7,f9,hpl2,hx1,o1,hzj,qb hPa,qb hPx]|(first|apply qa|apply ql|apply qj)<;>intro h h_<;>(try simp only[wD,reduceCtorEq]at h_)<;>(try exact wb_)<;>(try simp only[h])|refine t_ ?_|apply qX rfl (GP.mono (Nat.le_refl _) (λid h1 h2=>by(try simp only[wM]);(repeat rw[if_neg o_])));(focus(first|exact qM.sl|exact qM.asl));(focus(simp only[wZ]<;>omega));(focus(unfold maxLen;simp only[wZ]<;>omega))|simp -implicitDefEqProofs (disch:=omega) only[w64,if_neg]
     all_goals
      refine hQ _ ?_;apply AltAt.mk1
      . simp only[wM];(repeat first|rw[if_pos trivial]|rw[if_pos rfl]|rw[if_neg o_]);(try exact rfl)
      . exact Gr.tok wc_ wg_
      . rw[hps];(repeat rw[List.map_append]);refine eP.snoc ?_<;>exact qf
      . intro q hq;cases hq;omega
      . (simp -implicitDefEqProofs only[wL,seval,hpl])
      . intro t ht;simp only[wL];(repeat first|rw[if_pos rfl]|rw[if_neg o_]);exact hfl t ht
      . intro q h1 h2;simp only[wM];(repeat first|rw[if_pos trivial]|rw[if_pos rfl]|rw[if_neg o_]|rw[qb (λe=>by have:=hfr _ e;omega)]);(try simp only[wM]);(repeat first|rw[if_pos trivial]|rw[if_pos rfl]|rw[if_neg o_]);exact hhp q h1 h2
      . ((try simp only[wN])<;>omega)
   . have h2:=hend;rw[if_neg hend,List.append_nil]at hps;by_cases hin:i<x.inner.length
     . have hgi:=getD_some (d:=(0:Int)) hin;have htm:(x.inner.getD i 0).tmod 2=0:=by
        refine Classical.byContradiction λh=>hend ?_;unfold qr5;rw[Bool.and_eq_true,decide_eq_true_eq,Bool.not_eq_true',decide_eq_false_iff_not];exact⟨hin,h⟩
       repeat' with_reducible first|refine s_ ?_|simp -implicitDefEqProofs only[wZZ,seval,g1,g2,g3,g4,g5,g7,g8,g9,g11,f1,f3,f7,f9,hpl2,hx1,o1,hzj,qb hPa,qb hPx]|(first|apply qa|apply ql|apply qj)<;>intro h h_<;>(try simp only[wD,reduceCtorEq]at h_)<;>(try exact wb_)<;>(try simp only[h])|refine t_ ?_
       all_goals
        refine hQ _ ?_;apply AltAt.mk1
        . simp only[wM];exact o1
        . exact GP.mono wg_ (λq _ _=>mm_)
        . rw[hps];exact eP
        . exact hfr
        . (simp -implicitDefEqProofs only[wL,seval,hpl])
        . intro t ht;simp only[wL];(repeat first|rw[if_pos rfl]|rw[if_neg o_]);exact hfl t ht
        . intro q h1 h2;simp only[wM];exact hhp q h1 h2
        . ((try simp only[wN])<;>omega)
     . repeat' with_reducible first|refine s_ ?_|simp -implicitDefEqProofs only[wZZ,seval,g1,g2,g3,g4,g5,g7,g8,g9,g11,f1,f3,f7,f9,hpl2,hx1,o1,hzj,qb hPa,qb hPx]|(first|apply qa|apply ql|apply qj)<;>intro h h_<;>(try simp only[wD,reduceCtorEq]at h_)<;>(try exact wb_)<;>(try simp only[h])|refine t_ ?_
       all_goals
        refine hQ _ ?_;apply AltAt.mk1
        . simp only[wM];exact o1
        . exact GP.mono wg_ (λq _ _=>mm_)
        . rw[hps];exact eP
        . exact hfr
        . (simp -implicitDefEqProofs only[wL,seval,hpl])
        . intro t ht;simp only[wL];(repeat first|rw[if_pos rfl]|rw[if_neg o_]);exact hfl t ht
        . intro q h1 h2;simp only[wM];exact hhp q h1 h2
        . ((try simp only[wN])<;>omega)

@[reducible] def qzz(vA:Nat->V)(k:Nat):V:= .agg [.str (qb2 k),vA k,vi 0]
def qe8(n:Nat)(vA:Nat->V):List V:=(List.range n).map (qzz vA)
theorem Zc(n:Nat)(vA:Nat->V):(qe8 n vA).length=n:=by simp[qe8]
variable {vA:Nat->Go.E.V}
theorem vg(h:k<n):(qe8 n vA)[k]?=some (.agg [.str (qb2 k),vA k,vi 0]):=by simp[qe8,h]
theorem qfs(h:k<n):(qe8 n vA).set k (.agg [.str (qb2 k),v,vi 0])=qe8 n (qI vA k v):=by
 refine List.ext_getElem? λi=>?_;rw[List.getElem?_set];by_cases hi:i<n
 . rw[vg hi,Zc,vg hi];by_cases e:k=i
   . subst e;simp[hi,qI]
   . simp[e,qI,Ne.symm e]
 . rw[List.getElem?_eq_none (by rw[Zc];omega),List.getElem?_eq_none (by rw[Zc];omega)];rw[Zc];simp;omega
theorem qg4(n:Nat)(vA:Nat->V):qe8 (n+1) vA=qe8 n vA++[qzz vA n]:=by unfold qe8;rw[List.range_succ,List.map_append];rfl
def kR(n:Nat)(h:Nat->Bool):List V:=(List.range n).map λk=>V.bool (h k)
theorem Qb(n:Nat)(h:Nat->Bool):(kR n h).length=n:=by simp[kR]
variable {h:Nat->Bool}
theorem Zl(hk:k<n):(kR n h)[k]?=some (.bool (h k)):=by simp[kR,hk]
theorem qkg{v:Bool}(hk:k<n):(kR n h).set k (.bool v)=kR n (qI h k v):=by
 refine List.ext_getElem? λi=>?_;rw[List.getElem?_set];by_cases hi:i<n
 . rw[Zl hi,Qb,Zl hi];by_cases e:k=i
   . subst e;simp[hi,qI]
   . simp[e,qI,Ne.symm e]
 . rw[List.getElem?_eq_none (by rw[Qb];omega),List.getElem?_eq_none (by rw[Qb];omega)];rw[Qb];simp;omega
theorem qey(n:Nat):List.replicate n (V.bool false)=kR n (λ_=>false):=by
 refine List.ext_getElem? λi=>?_;by_cases h:i<n
 . rw[Zl h];simp[h]
 . rw[List.getElem?_eq_none so_,List.getElem?_eq_none (by rw[Qb];omega)]
variable {nn:Nat}
theorem ldB{S:Nat->Bool}(h:k<nn)(hk:K (.bool (S k))):onS (ldQ (some (.own 1 (kR nn S) ro)) false 1 k 0) K:=by
 have e:ldQ (some (.own 1 (kR nn S) ro)) false 1 k 0=some (.bool (S k)):=by simp[ldQ,Zl h,jQ,V.isAgg]
 rw[e];exact hk
theorem stB{K:St->Prop}{id:Nat}{x:Bool}{S:Nat->Bool}(h:k<nn)(hk:K (s.setO id (some (.own 1 (kR nn (qI S k x)) false)))):onS (stQ s (some (.own 1 (kR nn S) false)) 1 id k 0 (.bool x)) K:=by
 have e:stQ s (some (.own 1 (kR nn S) false)) 1 id k 0 (.bool x)=some (s.setO id (some (.own 1 (kR nn (qI S k x)) false))):=by rw[<- qkg h];simp[stQ,Zl h,V.cells,V.okCell,zU,V.isAgg]
 rw[e];exact hk
structure RW(H:Nat->Option MObj)(next rid n:Nat)(vA:Nat->V)(als:Nat->List V)(alts:Nat->List Alt):Prop where
 ho:H rid=some (.own 3 (qe8 n vA) false)
 lr:rid<next
 gr:∀k,k<n->Gr H next 6 (als k) (vA k)
 ep:∀k,k<n->Ja (als k) ((alts k).map Alt.V)
 sep:∀j k,j<n->k<n->j≠k->Sep (vA j) (vA k)
 len:∀k,k<n->(als k).length<=100
variable {rid:Nat} {als:Nat->List Go.E.V} {alts:Nat->List Alt}
theorem RW.mono{next:Nat}(h:RW H next rid n vA als alts)(hn:next<=next')(hr:H' rid=H rid)(hH:∀k,k<n->∀j,gid (vA k)=some j->j<next->H' j=H j):RW H' next' rid n vA als alts:=
 ⟨by rw[hr];exact h.ho,by have:=h.lr;omega,λk hk=>(h.gr k hk).mono hn (hH k hk),h.ep,h.sep,h.len⟩
theorem RW.ne{next:Nat}(h:RW H next rid n vA als alts){j:Nat}(hj:∀f,H j≠some (.tok f))(hk:k<n):gid (vA k)≠some j:=(h.gr k hk).ne hj
theorem RW.put{next id:Nat}{a:Alt}(h:RW H next rid n vA als alts)(hk:k<n)(hv:ErP v a.V)
(hl:(als k).length<100)(hid:next<=id)(hid2:id<next')(hr:H' rid=some (.own 3 (qe8 n (qI vA k (.asl id ((als k).length+1) 6 (als k++[v])))) false))(ht:H' id=some (.tok ((als k).length+1)))
(hH:∀q,q<n->q≠k->∀j,gid (vA q)=some j->j<next->H' j=H j):
 RW H' next' rid n (qI vA k (.asl id ((als k).length+1) 6 (als k++[v]))) (qI als k (als k++[v])) (qI alts k (alts k++[a])):=by
 refine⟨hr,by have:=h.lr;omega,λq hq=>?_,λq hq=>?_,λj q hj hq hjq=>?_,λq hq=>?_⟩
 . unfold qI;by_cases e:q=k
   . subst e;simp only[if_true];exact Gr.tok ht hid2
   . simp only[if_neg e];exact(h.gr q hq).mono o_ (hH q hq e)
 . unfold qI;by_cases e:q=k
   . subst e;simp only[if_true];rw[List.map_append];exact(h.ep q hq).snoc hv
   . simp only[if_neg e];exact h.ep q hq
 . unfold qI;by_cases e:j=k
   . subst e;simp only[if_true,if_neg (Ne.symm hjq)];exact Sep.newL (h.gr q hq) hid
   . by_cases e2:q=k
     . subst e2;simp only[if_true,if_neg hjq];exact Sep.newR (h.gr j hj) hid
     . simp only[if_neg e,if_neg e2];exact h.sep j q hj hq hjq
 . unfold qI;by_cases e:q=k
   . subst e;simp only[if_true,List.length_append,List.length_cons,List.length_nil];omega
   . simp only[if_neg e];exact h.len q hq
def Za(x:GrI)(n:Nat)(i:Nat)(q:(Nat->List Alt)×(Nat->Bool)):(Nat->List Alt)×(Nat->Bool):=
 let l:=x.rules.getD i []
 if l=[]then q else
  let k:=(l.getD 0 0 % n).toNat
  (qI q.1 k (q.1 k++[qfC l n x.inner i]),qI q.2 k (q.2 k || qbN l n))
def zO(x:GrI)(n:Nat):Nat->(Nat->List Alt)×(Nat->Bool)
 |0=>(λ_=>[],λ_=>false)
 |i+1=>Za x n i (zO x n i)
def Vb(bare:Bool)(q:(Nat->List Alt)×(Nat->Bool))(k:Nat):List Alt:=if q.1 k=[]\/(q.2 k=false/\bare=false)then q.1 k++[{parts:=[{sym:=QC k}]}]else q.1 k
def QB(x:GrI):Nat:=(1+x.nons % 4).toNat
def zP(x:GrI):Source:=
 {decls:=Qq x.levels,rules:=(List.range (QB x)).map λ(k:Nat)=>{left:=qb2 k,alts:=Vb x.bare (zO x (QB x) (min 9 x.rules.length)) k}}

def jo(token:Bool)(h:Nat->Bool)(l:List Int):Bool:=l.all λs=>if s<1000 then token else h (s - 1000).toNat
def QS(g:Grammar)(token:Bool)(E:Nat->Bool):Prop:= ∀p∈g.prods,jo token E p.right=true->E p.left.toNat=true
structure IsGrow(g:Grammar)(token:Bool)(E:Nat->Bool):Prop where
 closed:QS g token E
 least:∀F,QS g token F->∀k,E k=true->F k=true
variable {token:Bool}
theorem IsGrow.uniq{E F:Nat->Bool}(h:IsGrow g token E)(k:IsGrow g token F):E=F:=by funext n;rw[Bool.eq_iff_iff];exact⟨h.least F k.closed n,k.least E h.closed n⟩
theorem KW{F:Nat->Bool}(hh:∀k,h k=true->F k=true)(hl:jo token h l=true):jo token F l=true:=by
 unfold jo at *;rw[List.all_eq_true]at *;intro s hs;have:=hl s hs;split
 . rename_i h1;rwa [if_pos h1]at this
 . rename_i h1;rw[if_neg h1]at this;exact hh _ this
theorem qgg{i:Nat}(hi:i<l.length)(ht:∀s∈l.take i,(if s<1000 then token else h (s - 1000).toNat)=true):(if l[i]<1000 then token else h (l[i] - 1000).toNat)=false->jo token h l=false:=λhf=>
 List.all_eq_false.2 ⟨l[i],List.getElem_mem hi,by rw[hf];exact Bool.false_ne_true⟩
def cf(h:Nat->Bool):Nat->Nat
 |0=>0
 |n+1=>cf h n+if h n=true then 0 else 1
theorem qiU{h:Nat->Bool}{k:Nat}(hk:h k=false):∀n,(n<=k->cf (qI h k true) n=cf h n)/\(k<n->cf (qI h k true) n+1=cf h n)
 |0=>⟨λ_=>rfl,λh=>o_⟩
 | n +1=>by
   obtain ⟨h1,h2⟩:=qiU hk n;unfold cf;by_cases e:n=k
   . subst e;have e2:qI h n true n=true:=(by unfold qI;rw[if_pos rfl]);rw[e2,h1 (Nat.le_refl _),hk];exact⟨λh=>o_,λ_=>by simp⟩
   . have e2:qI h k true n=h n:=(by unfold qI;rw[if_neg e]);rw[e2];exact⟨λh=>by rw[h1 o_],λh=>by have:=h2 o_;omega⟩
theorem K6(n:Nat)(h:Nat->Bool):Cls' (kR n h):=inferInstanceAs (Cls' (List.map _ _))
theorem qlJ{P:Program}[Glob P]{id:Nat}{K:V->St->Prop}{f a:Opd}{fid:FuncId}{caps as':List V}{x res:V}(hf:ev s f=.fn fid caps)(ha:ev s a=x)(hc:(cls == .r)=false)(hE:Ers true s.H (x::caps) as')(hp:Pure P fid as' res)(hfl:Flat res)(hk:K res s):qh P cls id s K (.call f [a]):=by
 show (match funArgs (ev s f) ([a].map (ev s))with
  | some (fid,w0)=>
    (∃bor as' res,(cls=.r->bor=false)/\Ers bor s.H w0 as'/\Pure P fid as' res/\(bor=true->Flat res)/\K res s)\/
    (quO cls=true/\qV P fid w0 s.H s.next λv H' next'=>qbH cls s.next s.H H' next'/\K v {s with H:=H',next:=next'})
  |none=>False)
 rw[hf];subst ha;exact Or.inl ⟨true,as',res,λe=>(by subst e;cases hc),hE,hp,λ_=>hfl,hk⟩
theorem qdm(hr:∀s∈p.right,s<1000\/ ∃k:Nat,s=1000+(k:Int)/\k<n)(hl:p.right.length<=1000000)(hn:n<=1000000):Pure Tryz.prog 136 [p.V,.iptr 1 (.bool token) 0,.iptr 1 (.sl 1 false (kR n h)) 0] (.bool (jo token h p.right)):=by
 refine pure_intro Tryz.func136 nm_ qoA (by show 3<=33;decide) ?_
 show ewp _ qoZ _ _;repeat' with_reducible first|refine s_ ?_|simp -implicitDefEqProofs only[wZZ,seval]|refine t_ ?_
 refine qc ?nx1 (λ(i:Nat) s=>s.f 1=?v1_1/\s.f 2=?v1_2/\s.f 8=?v1_8/\s.f 9=?v1_9/\s.f 10=vi i/\(i<=p.right.length)/\(∀s∈p.right.take i,(if s<1000 then token else h (s - 1000).toNat)=true)) (λi=>p.right.length - i) (0) wj_ (by refine⟨?_,?_,?_,?_,?_,wo_,wo_⟩<;>first|(simp -implicitDefEqProofs only[wL,wM,wN,wX,seval,Option.some.injEq]<;>exact wt_)|rfl|exact⟨_,rfl⟩) ?_;intro i s hnx ⟨g1,g2,g8,g9,g10,k1_0,k1_1⟩;have hz:=w1_ i;by_cases hi:i<p.right.length
 . have hst:=qgg hi k1_1;have hnx:(if p.right[i]<1000 then token else h (p.right[i] - 1000).toNat)=true->∀s∈p.right.take (i+1),(if s<1000 then token else h (s - 1000).toNat)=true:=λhh s hs=>by
    rw[List.take_add_one,ge_ hi]at hs;rcases List.mem_append.1 hs with hs|hs
    . exact k1_1 s hs
    . simp at hs;subst hs;exact hh
   rcases hr _ (List.getElem_mem hi)with hs|⟨k,hk,hkn⟩
   . rw [if_pos hs]at hst hnx;cases token with
     | true=>
       repeat' with_reducible first|refine s_ ?_|simp -implicitDefEqProofs only[wZZ,seval,g1,g2,g8,g9,g10,hz]|(first|apply qa|apply ql|apply qj)<;>intro h h_<;>(try simp only[wD,reduceCtorEq]at h_)<;>(try exact wb_)<;>(try simp only[h])|refine t_ ?_
       refine⟨wk_,i+1,o_,?_⟩;refine⟨?_,?_,?_,?_,?_,?_,?_⟩;iterate 5 (focus(first|(simp -implicitDefEqProofs only[wL,wM,wN,wX,seval,Option.some.injEq,g1,g2,g8,g9,g10]<;>exact wt_)|rfl|exact⟨_,rfl⟩))
       all_goals try omega
       exact hnx rfl
     | false=>
       rw[hst rfl];repeat' with_reducible first|refine s_ ?_|simp -implicitDefEqProofs only[wZZ,seval,g1,g2,g8,g9,g10,hz]|(first|apply qa|apply ql|apply qj)<;>intro h h_<;>(try simp only[wD,reduceCtorEq]at h_)<;>(try exact wb_)<;>(try simp only[h])|refine t_ ?_
       refine qx rfl (Or.inr rfl) ?_;simp -implicitDefEqProofs only[wL,seval,g1,g2,g8,g9,g10];refine er_ ?_
       try(with_reducible rfl)
   . have hz2:IntKind.i64.wrap (1000+(k:Int) - 1000)=(k:Int):=(by rw[wrap64 o_ o_];omega);rw[if_neg o_,hk,show ((1000+(k:Int)) - 1000).toNat=k by omega]at hst hnx;have hbg:=Zl (h:=h) hkn;cases hb:h k with
     | true=>
       repeat' with_reducible first|refine s_ ?_|simp -implicitDefEqProofs only[wZZ,seval,g1,g2,g8,g9,g10,hz,hk,hz2,hb]|(first|apply qa|apply ql|apply qj)<;>intro h h_<;>(try simp only[wD,reduceCtorEq]at h_)<;>(try exact wb_)<;>(try simp only[h])|(apply yc (qlw o_ (by with_unfolding_all exact hbg)))|refine t_ ?_
       refine⟨wk_,i+1,o_,?_⟩;refine⟨?_,?_,?_,?_,?_,?_,?_⟩;iterate 5 (focus(first|(simp -implicitDefEqProofs only[wL,wM,wN,wX,seval,Option.some.injEq,g1,g2,g8,g9,g10]<;>exact wt_)|rfl|exact⟨_,rfl⟩))
       all_goals try omega
       exact hnx hb
     | false=>
       rw[hst hb];repeat' with_reducible first|refine s_ ?_|simp -implicitDefEqProofs only[wZZ,seval,g1,g2,g8,g9,g10,hz,hk,hz2,hb]|(first|apply qa|apply ql|apply qj)<;>intro h h_<;>(try simp only[wD,reduceCtorEq]at h_)<;>(try exact wb_)<;>(try simp only[h])|(apply yc (qlw o_ (by with_unfolding_all exact hbg)))|refine t_ ?_
       refine qx rfl (Or.inr rfl) ?_;simp -implicitDefEqProofs only[wL,seval,g1,g2,g8,g9,g10];refine er_ ?_
       try(with_reducible rfl)
 . rw[List.take_of_length_le o_]at k1_1;have e:jo token h p.right=true:=List.all_eq_true.2 k1_1;rw[e];repeat' with_reducible first|refine s_ ?_|simp -implicitDefEqProofs only[wZZ,seval,g1,g2,g8,g9,g10]|apply qa<;>intro h h_<;>(try simp only[wD,reduceCtorEq]at h_)<;>(try exact wb_)<;>(try simp only[h])
   refine qx rfl (Or.inr rfl) ?_;simp -implicitDefEqProofs only[wL,seval,g1,g2,g8,g9,g10];refine er_ ?_
   try(with_reducible rfl)

theorem qil{id sz:Nat}{e e':V}(hH:H id=some (.own sz [e] ro))(h:Er true H e e'):Er true H (.ptr id 0 0) (.iptr sz e' 0):= .ptr id 0 0 sz _ ro _ _ rfl hH rfl h
theorem qaE{id:Nat}(hH:H id=some (.own 1 (kR n h) ro)):Er true H (.msl id 1 0 n) (.sl 1 false (kR n h)):=by have:=K6 n h;exact yA hH (by rw[Qb];omega) (by rw[List.drop_zero];exact List.take_of_length_le (by rw[Qb];omega))
instance gpr_cl(p:GPr):Cl p.V:=⟨λb H=>ErL.agg (.cons (.int _ _) (.cons qf (.cons (.int _ _) (.cons (.str _) (.cons qf (.cons (.int _ _) .nil))))))⟩
theorem GOk.rt(h:GOk g)(hp:p∈g.prods):∀s∈p.right,s<1000\/ ∃k:Nat,s=1000+(k:Int)/\k<g.nons.length:=λs hs=>by
 rcases h.right p hp s hs with ⟨t,e,l⟩|⟨k,e,l⟩
 . have:=h.tk2;exact Or.inl o_
 . exact Or.inr ⟨k,e,l⟩
theorem JU(hg:GOk g):∃E,IsGrow g token E/\Pure Tryz.prog 120 [g.V,.bool token] (.sl 1 false (kR g.nons.length E)):=by
 have hh:=qhj (G:=λv=>∃E,v=.sl 1 false (kR g.nons.length E)/\IsGrow g token E) (args:=[g.V,.bool token]) Tryz.func120 nm_ qpL (by show 2<=40;decide) ?_
 . obtain ⟨v,⟨E,rfl,h⟩,h2⟩:=hh;exact⟨E,h,h2⟩
 show ewp _ qmk _ _;have hnl:=hg.nn2;have hpl:=hg.pl2;have hb0:=qey g.nons.length;repeat' with_reducible first|refine s_ ?_|simp -implicitDefEqProofs only[wZZ,seval]|refine t_ ?_|apply qml;exact wu_;exact wu_;exact wu_|apply Vk;exact wf_;exact wf_;(focus(unfold maxLen;first|omega|(simp only[wZ]<;>omega)))
 rw[hb0];refine qc ?nx1 (λ(q:(Nat->Bool)×Bool) s=>s.f 2=?v1_2/\s.f 5=?v1_5/\s.f 6=?v1_6/\s.H 0=some (MObj.own 5 [g.V] false)/\s.H 1=some (MObj.own 1 [.bool token] false)/\s.H 7=some (MObj.own 1 [.msl 6 1 0 g.nons.length] false)/\s.f 7=.bool q.2/\((s.H 6=some (MObj.own 1 (kR g.nons.length q.1) false)))/\((∀F,QS g token F->∀k,q.1 k=true->F k=true))/\((q.2=false->QS g token q.1))) (λq=>2 *cf q.1 g.nons.length+(if q.2=true then 1 else 0)) ((λ_=>false,true)) wj_ (by refine⟨?_,?_,?_,?_,?_,?_,?_,wc_,(by intro F _ k h;cases h),(by intro h;cases h)⟩<;>first|(simp -implicitDefEqProofs only[wL,wM,wN,wX,seval,Option.some.injEq]<;>exact wt_)|rfl|exact⟨_,rfl⟩) ?_;intro q s hnx ⟨g2,g5,g6,o0,o1,o2,g7,k1_0,k1_1,k1_2⟩;obtain ⟨h,b⟩:=q;dsimp only at *;cases b with
 | false=>
   have hcl:=k1_2 rfl;repeat' with_reducible first|refine s_ ?_|simp -implicitDefEqProofs only[wZZ,seval,g2,g5,g6,g7,o0,o1,o2,k1_0]|apply qdo;exact wu_
   refine⟨_,⟨h,rfl,hcl,k1_1⟩,Or.inr rfl,.msl 6 1 0 g.nons.length,?_,qaE (ro:=false) ?_⟩
   . show qjj _ [.inl 4]=_;simp[qjj,qfZ,one,wL]
   . (simp only[wM];(repeat first|rw[if_pos trivial]|rw[if_pos rfl]|rw[if_neg o_]));exact k1_0
 | true =>
   repeat' with_reducible first|refine s_ ?_|simp -implicitDefEqProofs only[wZZ,seval,g2,g5,g6,g7,o0,o1,o2,k1_0]|refine t_ ?_
   refine qc ?nx2 (λ(r:Nat×(Nat->Bool)×Bool) s=>s.f 2=?v2_2/\s.f 5=?v2_5/\s.f 6=?v2_6/\s.f 17=?v2_17/\s.f 18=?v2_18/\s.H 0=some (MObj.own 5 [g.V] false)/\s.H 1=some (MObj.own 1 [.bool token] false)/\s.H 7=some (MObj.own 1 [.msl 6 1 0 g.nons.length] false)/\s.f 7=.bool r.2.2/\s.f 19=vi r.1/\(r.1<=g.prods.length)/\((s.H 6=some (MObj.own 1 (kR g.nons.length r.2.1) false)))/\((∀F,QS g token F->∀k,r.2.1 k=true->F k=true))/\((r.2.2=false->r.2.1=h/\∀p∈g.prods.take r.1,jo token h p.right=true->h p.left.toNat=true))/\((r.2.2=true->cf r.2.1 g.nons.length<cf h g.nons.length))) (λr=>g.prods.length - r.1) ((0,h,false)) wj_ (by refine⟨?_,?_,?_,?_,?_,?_,?_,?_,?_,?_,wo_,(by(simp only[wM];(repeat first|rw[if_pos trivial]|rw[if_pos rfl]|rw[if_neg o_]));exact k1_0),(by exact k1_1),(by exact λ_=>⟨rfl,λp hp=>by simp at hp⟩),(by intro h;cases h)⟩<;>first|(simp -implicitDefEqProofs only[wL,wM,wN,wX,seval,Option.some.injEq,g2,g5,g6,g7,o0,o1,o2]<;>exact wt_)|rfl|exact⟨_,rfl⟩) ?_;intro r s hnx ⟨g2,g5,g6,g17,g18,o0,o1,o2,g7,g19,k2_0,k2_1,k2_2,k2_3,k2_4⟩;obtain ⟨i,h',b'⟩:=r;dsimp only at *;have hz:=w1_ i;by_cases hi:i<g.prods.length
   . have hmem:=List.getElem_mem hi;obtain ⟨lf,hl1,hl2⟩:=hg.left _ hmem;have hrt:=hg.rt hmem;have hrl:=hg.rlen _ hmem;have htk:g.prods.take (i+1)=g.prods.take i++[g.prods[i]]:=(by rw[List.take_add_one,ge_ hi];rfl);generalize hp:g.prods[i]=p at *;have hcl:=qdm (p:=p) (token:=token) (h:=h') (n:=g.nons.length) hrt o_ o_;have hgp:g.prods[i]?=some p:=(by rw[ge_ hi,hp]);have hpm:p∈g.prods:=hp ▸ List.getElem_mem hi;clear hp;obtain ⟨pl,pr,pc,pco,pa,pat⟩:=p;dsimp only at hl1 hrt hrl hcl;subst hl1;have hnew:(b'=false->h'=h/\∀p∈g.prods.take i,jo token h p.right=true->h p.left.toNat=true)->(jo token h' pr=true->h' lf=true)->(b'=false->h'=h/\∀p∈g.prods.take (i+1),jo token h p.right=true->h p.left.toNat=true):=λq1 q2 hb=>by
      obtain ⟨e1,e2⟩:=q1 hb;refine⟨e1,λp hp hf=>?_⟩;rw[htk]at hp;rcases List.mem_append.1 hp with hp|hp
      . exact e2 p hp hf
      . rw[List.mem_singleton]at hp;subst hp;subst e1;exact q2 hf
     repeat' with_reducible first|refine s_ ?_|simp -implicitDefEqProofs only[wZZ,seval,g2,g5,g6,g17,g18,g7,g19,o0,o1,o2,k2_1,hz]|(first|apply qa|apply ql|apply qj)<;>intro h h_<;>(try simp only[wD,reduceCtorEq]at h_)<;>(try exact wb_)<;>(try simp only[h])|(refine ldB hl2 ?_)|refine t_ ?_|apply qdo;exact wu_|simp -implicitDefEqProofs (disch:=omega) only[w64,if_neg]
     . refine qlJ (fid:=136) (caps:=[.ptr 1 0 0,.ptr 7 0 0]) (as':=[GPr.V {left:=lf,right:=pr,prec:=pc,code:=pco,args:=pa,at_:=pat},.iptr 1 (.bool token) 0,.iptr 1 (.sl 1 false (kR g.nons.length h')) 0]) (x:=GPr.V {left:=lf,right:=pr,prec:=pc,code:=pco,args:=pa,at_:=pat}) (by rfl) (by rfl) rfl ?_ hcl (Flat.bool _) ?_
       . refine qQ qf (qQ (qil (ro:=false) (by(simp only[wM];(repeat first|rw[if_pos trivial]|rw[if_pos rfl]|rw[if_neg o_]));exact o1) (.bool _)) (qQ (qil (ro:=false) (by(simp only[wM];(repeat first|rw[if_pos trivial]|rw[if_pos rfl]|rw[if_neg o_]));exact o2) (qaE (ro:=false) (by(simp only[wM];(repeat first|rw[if_pos trivial]|rw[if_pos rfl]|rw[if_neg o_]));exact k2_1))) jR))
       cases hfit:jo token h' pr with
       | true=>
         repeat' with_reducible first|refine s_ ?_|simp -implicitDefEqProofs only[wZZ,seval,g2,g5,g6,g17,g18,g7,g19,o0,o1,o2,k2_1,hz]|(refine stB hl2 ?_)|refine t_ ?_|apply qdo;exact wu_|simp -implicitDefEqProofs (disch:=omega) only[w64,if_neg]
         refine⟨wg_,(i+1,qI h' lf true,true),d_,trivial,trivial,trivial,trivial,trivial,trivial,trivial,trivial,rfl,rfl,d_,rfl,λF hF k hk=>?_,λe=>(by cases e),λ_=>?_⟩
         . dsimp only at hk;unfold qI at hk;split at hk
           . rename_i e;subst e;exact hF _ hpm (KW (k2_2 F hF) hfit)
           . exact k2_2 F hF k hk
         . have:=(qiU (h:=h') (k:=lf) as_ g.nons.length).2 hl2
           show cf (qI h' lf true) g.nons.length<_;cases b' with
           |false=>have e:=(k2_3 rfl).1;subst e;omega
           |true=>have:=k2_4 rfl;omega
       | false=>
         repeat' with_reducible first|refine s_ ?_|simp -implicitDefEqProofs only[wZZ,seval,g2,g5,g6,g17,g18,g7,g19,o0,o1,o2,k2_1,hz]|simp -implicitDefEqProofs (disch:=omega) only[w64,if_neg]
         refine⟨wg_,(i+1,h',b'),d_,trivial,trivial,trivial,trivial,trivial,trivial,trivial,trivial,rfl,rfl,d_,rfl,k2_2,hnew k2_3 (λe=>by rw[hfit]at e;cases e),k2_4⟩
     . refine⟨wg_,(i+1,h',b'),d_,trivial,trivial,trivial,trivial,trivial,trivial,trivial,trivial,rfl,rfl,d_,rfl,k2_2,hnew k2_3 (λ_=>as_),k2_4⟩
   . have e:i=g.prods.length:=o_;subst e;rw[List.take_length]at k2_3;repeat' with_reducible first|refine s_ ?_|simp -implicitDefEqProofs only[wZZ,seval,g2,g5,g6,g17,g18,g7,g19,o0,o1,o2,k2_1]
     refine⟨wg_,(h',b'),?_,trivial,trivial,trivial,trivial,trivial,trivial,rfl,rfl,k2_2,λhb=>?_⟩
     . dsimp only;cases b' with
       |false=>have e:=(k2_3 rfl).1;subst e;simp
       |true=>have:=k2_4 rfl;simp;omega
     . obtain ⟨e1,e2⟩:=k2_3 hb;dsimp only;rw[e1];exact e2
end Go.Proofs
