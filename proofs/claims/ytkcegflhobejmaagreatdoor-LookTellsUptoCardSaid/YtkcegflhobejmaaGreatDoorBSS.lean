import Derived.Test.YtkcegflhobejmaaGreatDoorBME
import Derived.Test.YtkcegflhobejmaaGreatDoorBRB
import Derived.Test.YtkcegflhobejmaaGreatDoorCards
import Derived.Test.YtkcegflhobejmaaGreatDoorTie
import Derived.ProofKit
import Derived.OpenShut
import Derived.Lib.LaidTab
set_option maxRecDepth 20000
set_option linter.all false
set_option maxHeartbeats 4000000
namespace Go.Proofs
open Go.E
abbrev qmC(s:Int):Prop:=s≠0/\s≠2/\s≠1000
abbrev RPr(l:List GPr):Prop:= ∀p∈l,∀s∈p.right,qmC s
abbrev Bad(m:Mk):Prop:=m.e≠0\/1000<m.toks.length
theorem qiu(x:Sym):∀(l:List Tok) (i:Nat),Qy x l i= -1\/((i:Int)<=Qy x l i/\Qy x l i≠2)
 |[],i=>Or.inl rfl
 | t ::r,i=>by
   rw[Qy];split
   . rename_i h;exact Or.inr ⟨Int.le_refl _,by have:=h.2.2;omega⟩
   . rcases qiu x r (i+1)with h|h
     . exact Or.inl h
     . exact Or.inr ⟨o_,h.2⟩
theorem qlr{m:Mk}(x:Sym)(h3:3<=m.toks.length)(h:0<=V3 m.toks x):Bad m\/qmC (V3 m.toks x):=by
 have hb:=qaw x m.toks o_;by_cases e:V3 m.toks x=1000
 . left;right;omega
 . right;unfold V3 at *;rcases qiu x (m.toks.drop 1) 1 with h1|h1
   . omega
   . exact⟨o_,h1.2,e⟩
theorem qap(m:Mk)(a:Int)(n:List UInt8):(za m a n).e≠0:=by
 unfold za;split
 . simp
 . assumption
theorem qdH(m:Mk)(a:Int)(n:List UInt8):Bad (za m a n):=Or.inl (qap m a n)
theorem quM{m:Mk}(x:Sym)(h3:3<=m.toks.length):(Bad (Jk m x).1\/qmC (Jk m x).2)/\(Bad m->Bad (Jk m x).1):=by
 unfold Jk;split
 . rename_i h;exact⟨qlr x h3 h,id⟩
 . dsimp only;refine⟨?_,λh=>?_⟩
   . by_cases e:(m.toks.length:Int)=1000
     . left;right;dsimp only;rw[List.length_append];simp;omega
     . exact Or.inr ⟨o_,o_,e⟩
   . rcases h with h|h
     . left;dsimp only;split
       . exact qap _ _ _
       . exact h
     . right;dsimp only;rw[List.length_append];omega
theorem qlI{m:Mk}(x:Sym)(h3:3<=m.toks.length):(Bad (yQ m x).1\/qmC (yQ m x).2)/\(Bad m->Bad (yQ m x).1):=by
 have hb:=jv x.name m.lefts 0;unfold yQ;split
 . exact quM x h3
 . split
   . exact⟨Or.inr ⟨d_,d_,d_⟩,id⟩
   . split
     . exact⟨Or.inl (qdH _ _ _),λ_=>qdH _ _ _⟩
     . rename_i h;exact⟨qlr x h3 (Int.not_lt.1 h),id⟩
theorem qdB:∀(l:List Part) (m:Mk) (p:GPr),3<=m.toks.length->0<=m.inner->(Bad m\/(RPr m.prods/\∀s∈p.right,qmC s))->Bad (zB l (m,p)).1\/(RPr (zB l (m,p)).1.prods/\∀s∈(zB l (m,p)).2.right,qmC s)
 |[],m,p,h3,hi,h=>by rw[JP];exact h
 | w :: r, m,p,h3,hi,h=>by
   rw[vW];obtain ⟨y1,y2,y3,y4,y5,y6,y7,y8⟩:=Qu m w.sym;obtain ⟨s1,s2⟩:=qlI w.sym h3;split
   . refine qdB r _ _ o_ o_ ?_;rcases h with h|⟨h1,h2⟩
     . exact Or.inl (s2 h)
     . rcases s1 with s1|s1
       . exact Or.inl s1
       . right;rw[y3];refine⟨h1,λs hs=>?_⟩;rcases List.mem_append.1 hs with hs|hs
         . exact h2 s hs
         . rw[List.mem_singleton]at hs;subst hs;exact s1
   . split
     . exact h
     . refine qdB r _ _ h3 d_ ?_;rcases h with h|⟨h1,h2⟩
       . exact Or.inl h
       . right;refine⟨λq hq s hs=>?_,λs hs=>?_⟩
         . rcases List.mem_append.1 hq with hq|hq
           . exact h1 q hq s hs
           . rw[List.mem_singleton]at hq;subst hq;cases hs
         . dsimp only at hs;rcases List.mem_append.1 hs with hs|hs
           . exact h2 s hs
           . rw[List.mem_singleton]at hs;exact⟨o_,o_,o_⟩
theorem RPr.snoc{l:List GPr}{p:GPr}(h:RPr l)(hp:∀s∈p.right,qmC s):RPr (l++[p]):=λq hq=>by
 rcases List.mem_append.1 hq with hq|hq
 . exact h q hq
 . rw[List.mem_singleton]at hq;subst hq;exact hp
theorem qrV{m:Mk}(n:List UInt8)(a:Alt)(hI:MInv m)(h:Bad m\/RPr m.prods):Bad (Yr m n a)\/RPr (Yr m n a).prods:=by
 have h1:=qdB a.parts m {left:=1+qz n m.lefts 0,prec:= -1,at_:=a.at_} hI.tk hI.inn (h.imp id λh=>⟨h,λs hs=>by cases hs⟩);have h2:=(Ym a.parts m {left:=1+qz n m.lefts 0,prec:= -1,at_:=a.at_} hI (λs hs=>by cases hs)).1.tk;unfold Yr;dsimp only;generalize zB a.parts (m,{left:=1+qz n m.lefts 0,prec:= -1,at_:=a.at_})=q at *;obtain ⟨y1,y2,y3,y4,y5,y6,y7,y8⟩:=Qu q.1 a.prec;split
 . split
   . rcases h1 with h1|⟨h1,h3⟩
     . exact Or.inl ((qlI a.prec h2).2 h1)
     . right;dsimp only;rw[y3];exact h1.snoc h3
   . exact Or.inl (qdH _ _ _)
 . rcases h1 with h1|⟨h1,h3⟩
   . exact Or.inl h1
   . exact Or.inr (h1.snoc h3)
theorem qd2(n:List UInt8):∀(l:List Alt) (m:Mk),MInv m->(Bad m\/RPr m.prods)->Bad (zK n l m)\/RPr (zK n l m).prods
 |[],m,_,h=>h
 |a::r,m,hI,h=>by rw[yJ];exact qd2 n r _ (qgU n a hI) (qrV n a hI h)
theorem qi0:∀(l:List Rule) (m:Mk),MInv m->(Bad m\/RPr m.prods)->Bad (vQ l m)\/RPr (vQ l m).prods
 |[],m,_,h=>h
 |r::l,m,hI,h=>by rw[kE];exact qi0 l _ (YU r.left r.alts m hI) (qd2 r.left r.alts m hI h)
theorem Km{n:List UInt8}:∀{l:List (List UInt8)} (i:Nat),n∈l->0<=qz n l i
 | t ::r,i,h=>by
   rw[qz];split
   . omega
   . rename_i hn;rcases List.mem_cons.1 h with e|h
     . exact absurd e.symm hn
     . exact Km (i+1) h
theorem qb6{n:List UInt8}:∀{l:List (List UInt8)} (i:Nat),0<=qz n l i->n∈l
 |[],i,h=>by rw[qz]at h;omega
 | t::r,i,h=>by
   rw[qz]at h;split at h
   . rename_i e;subst e;simp
   . exact List.mem_cons_of_mem _ (qb6 (i+1) h)
theorem qu6{m:Mk}{k:Int}{x:Sym}(h:m.e≠0):(qkI m k x).e≠0:=by
 unfold qkI;split
 . exact qap _ _ _
 . exact h
theorem qa0{k:Int}:∀{l:List Sym} {m:Mk},m.e≠0->(xh k l m).e≠0
 |[],m,h=>h
 |x::r,m,h=>by rw[Qn];exact qa0 (qu6 h)
theorem qjo:∀{l:List Decl} {m:Mk},m.e≠0->(QA l m).e≠0
 |[],m,h=>h
 |d::r,m,h=>by rw[Zh];exact qjo (qa0 h)
theorem qeG{k:Int}(hk:5<=k){x:Sym}:∀{l:List Sym} {m:Mk},x∈l->(xh k l m).e≠0\/0<=qz x.name m.lefts 0
 | y ::r,m,h=>by
   rw[Qn];rcases List.mem_cons.1 h with rfl|h
   . by_cases h0:qz x.name m.lefts 0<0
     . left;refine qa0 ?_;unfold qkI;rw[if_pos ⟨hk,h0⟩];exact qap _ _ _
     . right;omega
   . have:=qeG hk (m:=qkI m k y) h;rwa [(qlu m k y).2.2.1]at this
theorem qiv{d:Decl}(hk:5<=d.kind){x:Sym}(hx:x∈d.syms):∀{l:List Decl} {m:Mk},d∈l->(QA l m).e≠0\/0<=qz x.name m.lefts 0
 | y ::r,m,h=>by
   rw[Zh];rcases List.mem_cons.1 h with rfl|h
   . exact(qeG hk hx).imp qjo id
   . have:=qiv hk hx (m:=xh y.kind y.syms m) h;rwa [(qaV y.kind y.syms m).2.2.1]at this
theorem qdU(d:Decl):∀(l:List Sym) (m:Mk) (st:List UInt8),(zN d l (m,st)).2=st\/(d.kind=6/\∃x∈l,(zN d l (m,st)).2=x.name)
 |[],m,st=>Or.inl rfl
 | x ::r,m,st=>by
   rw[Xl];split
   . rcases qdU d r (kT m d x) st with h|⟨h1,y,h2,h3⟩
     . exact Or.inl h
     . exact Or.inr ⟨h1,y,List.mem_cons_of_mem _ h2,h3⟩
   . rename_i hk;rcases qdU d r (if st≠[]then za m x.at_ x.name else m) x.name with h|⟨h1,y,h2,h3⟩
     . exact Or.inr ⟨by simpa using hk,x,by simp,h⟩
     . exact Or.inr ⟨h1,y,List.mem_cons_of_mem _ h2,h3⟩
theorem qhc:∀(l:List Decl) (m:Mk) (st:List UInt8),(jY l (m,st)).2=st\/ ∃d∈l,d.kind=6/\∃x∈d.syms,(jY l (m,st)).2=x.name
 |[],m,st=>Or.inl rfl
 | d ::r,m,st=>by
   rw[Xx];have h1:=qdU d d.syms (XV m d) st;have h2:=qhc r (zN d d.syms (XV m d,st)).1 (zN d d.syms (XV m d,st)).2;rcases h2 with h2|⟨y,h3,h4,x,h5,h6⟩
   . rcases h1 with h1|⟨h1,x,h3,h4⟩
     . exact Or.inl (h2.trans h1)
     . exact Or.inr ⟨d,by simp,h1,x,h3,h2.trans h4⟩
   . exact Or.inr ⟨y,List.mem_cons_of_mem _ h3,h4,x,h5,h6⟩
theorem qsS(m:Mk)(n:List UInt8):n∈(X3 m n).lefts/\∀x∈m.lefts,x∈(X3 m n).lefts:=by
 unfold X3;split
 . exact⟨by simp,λx hx=>by simp[hx]⟩
 . rename_i h;exact⟨qb6 0 o_,λx hx=>hx⟩
theorem qij:∀(l:List Rule) (m:Mk) (x:List UInt8),(x∈m.lefts\/ ∃r∈l,x=r.left)->x∈(yG l m).lefts
 | [],m,x,h=>by
   rcases h with h|⟨r,hr,_⟩
   . exact h
   . cases hr
 | r ::l,m,x,h=>by
   rw[Xm];obtain ⟨d1,d2,d3,d4,d5,d6⟩:=qeP m r;have ha:=qsS (Zm m r) r.left;refine qij l _ x ?_;rcases h with h|⟨q,hq,e⟩
   . exact Or.inl (ha.2 x (by rw[d2];exact h))
   . rcases List.mem_cons.1 hq with rfl|hq
     . subst e;exact Or.inl ha.1
     . exact Or.inr ⟨q,hq,e⟩
theorem qkK{src:Source}(h:Yn src=true):(qbn src).e≠0\/0<=qz (Qt src) (qbn src).lefts 0:=by
 have hl:(qbn src).lefts=(yG src.rules (jY src.decls ({},[])).1).lefts:=(qdM src.decls _).2.2.1;have hne:src.rules≠[]:=by unfold Yn at h;simp only[Bool.and_eq_true,Bool.not_eq_true',decide_eq_false_iff_not]at h;exact h.2
 rw[hl];unfold Qt;by_cases e:(jY src.decls ({},[])).2=[]
 . rw[if_pos e];right;refine Km 0 (qij _ _ _ (Or.inr ?_));cases hr:src.rules with
   |nil=>exact absurd hr hne
   |cons r l=>exact⟨r,by simp,rfl⟩
 . rw[if_neg e];rcases qhc src.decls {} []with h1|⟨d,h1,h2,x,h3,h4⟩
   . exact absurd h1 e
   . rw[h4];exact qiv o_ h3 h1
theorem qn0{src:Source}(hm:Yn src=true):Bad (xL src)\/RPr (xL src).prods:=by
 obtain ⟨h1,h2,h3⟩:=qlv src;have hl:=jv (Qt src) (qbn src).lefts 0;rw[qbd];refine qi0 _ _ ⟨h1,d_,λp hp=>?_,λp hp s hs=>?_,λp hp=>?_⟩ ((qkK hm).imp Or.inl λh0 p hp s hs=>?_)<;>(dsimp only at hp;rw[List.mem_singleton]at hp;subst hp)
 . unfold V5;dsimp only;omega
 . unfold V5 at hs;dsimp only at hs ⊢;rw[List.mem_singleton]at hs;subst hs;exact Or.inr ⟨(1+qz (Qt src) (qbn src).lefts 0).toNat,o_,o_⟩
 . exact Or.inl rfl
 . unfold V5 at hs;dsimp only at hs;rw[List.mem_singleton]at hs;subst hs;exact⟨o_,o_,o_⟩
theorem qgh{src:Source}(h:Ki src=true):RPr (jl src).prods:=by obtain ⟨hm,he,_,e⟩:=qeM h;have htk:=(gok h).tk2;rw[e]at htk ⊢;dsimp only at htk ⊢;rw[(qdP (xL src)).1]at htk;rw[(qdP (xL src)).2.2];exact(qn0 hm).resolve_left λh=>h.elim (λh=>h he) (λh=>o_)

variable {g:Grammar}
theorem qpA(hg:GOk g){y:Int}(h:0<=nxt g y):(y % 16)<8:=by
 unfold nxt at h;cases hp:g.prods[(y / 16).toNat]? with
 |none=>rw[hp]at h;simp at h
 | some p=>
   rw[hp,Option.bind_some]at h;cases hr:p.right[(y % 16).toNat]? with
   |none=>rw[hr]at h;simp at h
   | some s=>
     have h1:=(List.getElem?_eq_some_iff.1 hr).1;have h2:=hg.rlen p (List.mem_of_getElem? hp);omega
variable {s:Int}
theorem qoQ(hg:GOk g){k:List Int}{x:Int}(hx:x∈Jt g k s):x % 16≠0:=by
 have:=(qnU (λy=>decide (0<=nxt g y/\nxt g y=s)) (λy=>y+1) (zo g k) []).1 x;simp only[decide_eq_true_eq]at this;rcases this.1 hx with h|⟨y,_,⟨h0,_⟩,e⟩
 . cases h
 . have:=qpA hg h0;omega
def qgs(m:List Sta):Prop:= ∀q∈m,∀x∈q.ker,x % 16=0->x=0
theorem qaj{m:List Sta}{i:Nat}{t:Int}(h:qgs m):qgs (j3 m i s t):=by
 intro q hq;unfold j3 at hq;obtain ⟨j,hj⟩:=List.getElem?_of_mem hq;rw[List.getElem?_modify]at hj;cases hm:m[j]? with
 |none=>rw[hm]at hj;cases hj
 | some q0=>
   rw[hm]at hj;have h0:=h q0 (List.mem_of_getElem? hm);by_cases e:i=j
   . simp[e]at hj;subst hj;exact h0
   . simp[e]at hj;subst hj;exact h0
theorem qia(hg:GOk g){i:Nat}{A:List Int}{m m':List Sta}(h0:qgs m)(h:j5 g i A (some m) s=some m'):qgs m':=by
 unfold j5 at h;simp only[Option.bind_some]at h;split at h
 . split at h
   . split at h
     . cases h
     . cases h;refine qaj λq hq=>?_;rcases List.mem_append.1 hq with hq|hq
       . exact h0 q hq
       . rw[List.mem_singleton]at hq;subst hq;exact λx hx e=>absurd e (qoQ hg hx)
   . cases h;exact qaj h0
 . cases h;exact h0
theorem qd6{g:Grammar}(hg:GOk g){i:Nat}{A:List Int}:∀(r:List Int) (m m':List Sta),qgs m->r.foldl (j5 g i A) (some m)=some m'->qgs m'
 |[],m,m',h0,h=>by cases h;exact h0
 | s ::r,m,m',h0,h=>by
   rw[List.foldl_cons]at h;cases h1:j5 g i A (some m) s with
   |none=>rw[h1,kI]at h;cases h
   | some m1=>
     rw[h1]at h;exact qd6 hg r m1 m' (qia hg h0 h1) h
theorem qb5{g:Grammar}(hg:GOk g):∀(n:Nat) (m:List Sta) (i:Nat) (m':List Sta),qgs m->Xb g n m i=some m'->qgs m'
 |0,m,i,m',h0,h=>by cases h;exact h0
 | n + 1,m,i,m',h0,h=>by
   unfold Xb at h;by_cases hi:i<m.length
   . rw[if_pos hi]at h;cases h1:(jf g).foldl (j5 g i (qad g (zo g (zl m i)))) (some m)with
     |none=>rw[h1]at h;cases h
     | some m1=>
       rw[h1]at h;exact qb5 hg n m1 (i+1) m' (qd6 hg _ m m1 h0 h1) h
   . rw[if_neg hi]at h;cases h;exact h0
theorem qkN(hg:GOk g){m:List Sta}(h:Ye g=some m):qgs m:=
 qb5 hg 151 _ 0 m (λq hq x hx _=>by rw[List.mem_singleton]at hq;subst hq;simpa using hx) h
theorem qgs.k0(hg:GOk g){m:List Sta}(h:qgs m):∀q∈m,∀(n:Nat) p,g.prods[n]?=some p->16 *(n:Int)∈q.ker->p.left=0:=λq hq n p hp hx=>by
 have h0:=h q hq _ hx o_
 have:n=0:=o_
 subst this;obtain ⟨p0,r,e,h1,_⟩:=hg.head;rw[e]at hp;cases hp;exact h1
theorem qkT{src:Source}(h:Ki src=true):∀x,nxt (jl src) x≠1000:=λx e=>by
 have hr:=qgh h;unfold nxt at e;cases hp:(jl src).prods[(x / 16).toNat]? with
 |none=>rw[hp]at e;simp at e
 | some p=>
   rw[hp,Option.bind_some]at e;cases hs:p.right[(x % 16).toNat]? with
   |none=>rw[hs]at e;simp at e
   | some s=>
     rw[hs,Option.getD_some]at e;exact(hr p (List.mem_of_getElem? hp) s (List.mem_of_getElem? hs)).2.2 e

set_option maxHeartbeats 8000000
theorem qzU{L:List Lk}(hl:L.length<=1000000)(hr:∀l∈L,l.tk.length<=1000000):Pure Tryz.prog 30 [.sl 3 false (L.map Lk.V),.sl 3 false (L.map Lk.V)] (.bool true):=by
 refine pure_intro Tryz.func30 nm_ qwZ (by show 2<=55;decide) ?_
 show ewp _ qvl _ _;repeat' with_reducible first|refine s_ ?_|simp -implicitDefEqProofs only[wZZ,seval]
 refine qc ?nx1 (λ(i:Nat) s=>s.f 0=?v1_0/\s.f 1=?v1_1/\s.f 5=vi i/\(i<=L.length)) (λi=>L.length - i) (0) wj_ (by refine⟨?_,?_,?_,wo_⟩<;>first|(simp -implicitDefEqProofs only[wL,wM,wN,wX,seval,Option.some.injEq]<;>exact wt_)|rfl|exact⟨_,rfl⟩) ?_;intro i s hnx ⟨g0,g1,g5,k1_0⟩;have hz:=w1_ i;by_cases hi:i<L.length
 . have hgi:L[i]?=some L[i]:=ge_ hi;have hri:=hr _ (List.getElem_mem hi);generalize L[i]=l at *;obtain ⟨ls,lp,lt⟩:=l;dsimp only at hri;have heq:=jE (a:=lt) (b:=lt) o_ o_;rw[decide_eq_true rfl]at heq;have e1:decide (ls=ls)=true:=decide_eq_true rfl;have e2:decide (lp=lp)=true:=decide_eq_true rfl;repeat' with_reducible first|refine s_ ?_|simp -implicitDefEqProofs only[wZZ,seval,g0,g1,g5,hz,e1,e2]|apply qa<;>intro h h_<;>(try simp only[wD,reduceCtorEq]at h_)<;>(try exact wb_)<;>(try simp only[h])|refine t_ ?_|refine cq2 heq qf qf ?_
   all_goals exact⟨wg_,i+1,o_,trivial,trivial,rfl,o_⟩
 . repeat' with_reducible first|refine s_ ?_|simp -implicitDefEqProofs only[wZZ,seval,g0,g1,g5,hz]|apply qa<;>intro h h_<;>(try simp only[wD,reduceCtorEq]at h_)<;>(try exact wb_)<;>(try simp only[h])
   all_goals refine qx rfl (Or.inr rfl) ?_
   all_goals(try simp -implicitDefEqProofs only[wL,seval,g0,g1,g5])
   all_goals refine er_ ?_
   all_goals(try(with_reducible rfl))
theorem YX{m:List Sta}{E:Nat->Bool}(hg:GOk g)(hM:MOk g m)(hR:∀q∈m,RMv q)(hG:MGo g m)(hS:qcT g m)(hE:IsGrow g false E):Pure Tryz.prog 28 [g.V,.sl 2 false (m.map Sta.V)] (.sl 1 false ((zW g E m).map zF)):=by
 refine pure_intro Tryz.func28 nm_ qtS (by show 2<=9;decide) ?_
 show ewp _ qyg _ _;have he:=yH (E:=E) hg hM hR hG hS;repeat' with_reducible first|refine qE ?_|simp -implicitDefEqProofs only[wZZ,seval]|(refine qJ rfl rfl rfl ((of_run hg hM hR hE).mono ?_);rintro v1 H1 n1 ⟨i,j,rfl,q1,q2,q3,q4,q5⟩)|refine t_ ?_
 refine qJ (H:=H1) rfl wu_ rfl ((yo (λ_=>true) (by rw[qbC];exact qQ (Qf q3 q5) jR) he).mono ?_);rintro v2 H2 n2 ⟨rfl,rfl,rfl⟩;repeat' with_reducible first|refine Qi ?_
 refine qx rfl (Or.inr rfl) ?_;(simp -implicitDefEqProofs only[wL,seval]);exact qf
theorem qxw(x:GrI)(y:Source)(i:Nat)(src:Source)(h:[qeV y,zP x][i]?=some src):src.Fits/\(Yn src=true->Small src):=by
 match i,h with
 |0,h=>cases h;exact⟨qgC y,qgn y⟩
 |1,h=>cases h;exact⟨XI x,λ_=>qao x⟩
 |i+2,h=>cases h
theorem qfr{src:Source}(h:Kj src=true):GOk (jl src)/\MOk (jl src) (Zx src)/\(∀q∈Zx src,RMv q)/\MGo (jl src) (Zx src)/\qcT (jl src) (Zx src)/\qgs (Zx src)/\∀x,nxt (jl src) x≠1000:=by
 unfold Kj at h;rw[Bool.and_eq_true]at h;obtain ⟨h1,h2⟩:=h;have hg:=gok h1;obtain ⟨m,hm⟩:=Option.isSome_iff_exists.1 h2;have e:Zx src=m:=by unfold Zx;rw[if_pos h1,hm];rfl
 rw[e];exact⟨hg,(qiM hg hm).1,qfR hg hm,(qiM hg hm).2,qkk hm,qkN hg hm,qkT h1⟩
theorem qfD{m:List Sta}{E:Nat->Bool}(hg:GOk g)(hM:MOk g m):(qaI g E m).length<=1000000/\∀l∈qaI g E m,l.tk.length<=1000000:=by
 obtain ⟨hO,_⟩:=QK (E:=E) hM hg;have hml:=hM.len;have key:∀n,n<=m.length->(qfw g m (zW g E m) n).length<=n *960:=λn=>by
  induction n with
  |zero=>intro _;exact Nat.zero_le _
  | succ n ih=>
    intro hn;have hq:m[n]?=some m[n]:=ge_ o_;have hk:zl m n=m[n].ker:=(by unfold zl;rw[hq];rfl);have hmem:=List.getElem_mem (show n<m.length by omega);have h1:=Vf hg (hM.ki _ hmem) (hM.kr _ hmem);have h2:=ih o_;rw[Y6,List.length_append,List.length_map,hk];omega
 have hdef:qaI g E m=qfw g m (zW g E m) m.length:=rfl;refine⟨by rw[hdef];have:=key m.length (Nat.le_refl _);omega,λl hl=>?_⟩;rw[hdef]at hl;unfold qfw at hl;rw[List.mem_flatMap]at hl;obtain ⟨q,_,hl⟩:=hl;obtain ⟨p,_,rfl⟩:=List.mem_map.1 hl;have:=(qaM hO (yR g m q p) [] Q9).len
 show ((yR g m q p).foldl (qjz (zW g E m)) []).length<=_;omega

set_option maxHeartbeats 4000000
@[reducible] def qbp:Source:={rules:=[{left:=[101],alts:=[{parts:=[{sym:={name:=[101]}},{sym:={name:=[43],lit:=true}},{sym:={name:=[120],lit:=true}}]},{parts:=[{sym:={name:=[120],lit:=true}}]}]}]}
def mC:List Sta:=[⟨[0],[(4,1),(1001,2)]⟩,⟨[33],[]⟩,⟨[1,17],[(3,3)]⟩,⟨[18],[(4,4)]⟩,⟨[19],[]⟩]
theorem lrC:(jl qbp).prods.map (λp=>(p.left,p.right))=[(0,[1001]),(1,[1001,3,4]),(1,[4])]:=by decide+kernel
theorem okC:Ki qbp=true:=by decide+kernel
theorem qzG:Ye (jl qbp)=some mC:=by decide+kernel
theorem qyy:qaI (jl qbp) (λ_=>false) mC=[⟨1,2,[0,3]⟩,⟨4,1,[0,3]⟩]:=by decide+kernel
theorem qzZ:zW (jl qbp) (λ_=>false) mC=[[0,3]]:=by decide+kernel
theorem qzT:zX mC=[[0,3]]:=by decide+kernel
theorem qzL:qg mC=[(0,1001)]:=by decide+kernel
theorem qzW:jZ (λ_=>false) mC=[[]]:=by decide+kernel
theorem qzD:ze (jl qbp) (λ_=>false) mC=[[]]:=by decide+kernel
theorem qzc:Kb (jl qbp) mC 1 2=[0]/\Kb (jl qbp) mC 0 77=[]:=by decide+kernel
theorem qsF:Small qbp:=by
 refine⟨by simp,λd h=>?_,λd h=>?_,λd h=>?_,by simp,?_,?_,?_,?_⟩
 . cases h
 . cases h
 . cases h
 . decide
 . decide
 . decide
 . decide
theorem qyI:qbp.Fits:=by
 refine⟨by simp,by simp,by simp,λd h=>?_,by simp,λr hr=>?_⟩
 . cases h
 . simp only[List.mem_cons,List.not_mem_nil,or_false]at hr;subst hr;refine⟨by simp,by simp,λa ha=>?_⟩;simp only[List.mem_cons,List.not_mem_nil,or_false]at ha;rcases ha with rfl|rfl
   . refine⟨by simp,λp hp=>?_,by simp⟩;simp only[List.mem_cons,List.not_mem_nil,or_false]at hp;rcases hp with rfl|rfl|rfl<;>exact⟨by simp,by simp⟩
   . refine⟨by simp,λp hp=>?_,by simp⟩;simp only[List.mem_cons,List.not_mem_nil,or_false]at hp;subst hp;exact⟨by simp,by simp⟩
theorem qla:IsGrow (jl qbp) false (λ_=>false):=by
 refine⟨λp hp h=>?_,λF hF k hk=>(by cases hk)⟩
 have:(p.left,p.right)∈(jl qbp).prods.map (λp=>(p.left,p.right)):=List.mem_map.2 ⟨p,hp,rfl⟩
 rw[lrC]at this;simp only[List.mem_cons,List.not_mem_nil,or_false,Prod.mk.injEq]at this;rcases this with ⟨e1,e2⟩|⟨e1,e2⟩|⟨e1,e2⟩<;>rw[e2]at h<;>cases h
theorem machC:Kj qbp=true/\Zx qbp=mC:=by unfold Kj Zx;rw[okC,qzG];exact⟨rfl,rfl⟩

set_option maxHeartbeats 8000000
theorem qpa{H:Nat->Option MObj}:Er false H (.agg [.str [],.sl 4 true [],.sl 3 true [.agg [.str [101],.sl 6 true [.agg [.sl 6 true [.agg [.str [101],.bool false,vi 0,vi 0,.str [],vi 0],.agg [.str [43],.bool true,vi 0,vi 0,.str [],vi 0],.agg [.str [120],.bool true,vi 0,vi 0,.str [],vi 0]],.str [],.bool false,vi 0,vi 0,vi 0],.agg [.sl 6 true [.agg [.str [120],.bool true,vi 0,vi 0,.str [],vi 0]],.str [],.bool false,vi 0,vi 0,vi 0]],vi 0]],.str []]) qbp.V:=by
 have p:∀(n:List UInt8) (b:Bool),Er false H (.agg [.str n,.bool b,vi 0,vi 0,.str [],vi 0]) (.agg [.str n,.bool b,vi 0,vi 0,.str [],vi 0]):=λn b=>qf;refine ErL.agg (.cons (.str _) (.cons (ErL.sl .nil) (.cons (ErL.sl ?_) (.cons (.str _) .nil))));refine .cons (ErL.agg (.cons (.str _) (.cons (ErL.sl ?_) (.cons (.int _ _) .nil)))) .nil;refine .cons (ErL.agg (.cons (ErL.sl ?_) (.cons (.str _) (.cons (.bool _) (.cons (.int _ _) (.cons (.int _ _) (.cons (.int _ _) .nil))))))) (.cons (ErL.agg (.cons (ErL.sl ?_) (.cons (.str _) (.cons (.bool _) (.cons (.int _ _) (.cons (.int _ _) (.cons (.int _ _) .nil))))))) .nil)
 . exact .cons (p _ _) (.cons (p _ _) (.cons (p _ _) .nil))
 . exact .cons (p _ _) .nil
theorem qxC:Pure Tryz.prog 13 [qbp.V] (.tup [(jl qbp).V,.sl 2 false (mC.map Sta.V),.bool true]):=by have:=vv qyI (λ_=>qsF) gok;rw[machC.1,machC.2]at this;exact this
theorem qaL{m:List Sta}{E:Nat->Bool}(hg:GOk g)(hM:MOk g m)(hR:∀q∈m,RMv q)(hG:MGo g m)(hS:qcT g m)(hE:IsGrow g false E):Pure Tryz.prog 22 [g.V,.sl 2 false (m.map Sta.V)] (.sl 1 false ((ze g E m).map zF)):=by
 refine pure_intro Tryz.func22 nm_ qvV (by show 2<=9;decide) ?_
 show ewp _ qx8 _ _;have he:=xN (E:=E) hg hM hR hG hS;repeat' with_reducible first|refine qE ?_|simp -implicitDefEqProofs only[wZZ,seval]|(refine qJ rfl rfl rfl ((of_run hg hM hR hE).mono ?_);rintro v1 H1 n1 ⟨i,j,rfl,q1,q2,q3,q4,q5⟩)|refine t_ ?_
 refine qJ (H:=H1) rfl wu_ rfl ((yo (λ_=>true) (by rw[qbC];exact qQ (Qf q3 q5) jR) he).mono ?_);rintro v2 H2 n2 ⟨rfl,rfl,rfl⟩;repeat' with_reducible first|refine Qi ?_
 refine qx rfl (Or.inr rfl) ?_;(simp -implicitDefEqProofs only[wL,seval]);exact qf
theorem Yd:Pure Tryz.prog 10 [] (.bool true):=by
 refine pure_intro Tryz.func10 nm_ qxo (by show 0<=122;decide) ?_
 show ewp _ qw3 _ _;have hma:=qxC;obtain ⟨hg,hM,hR,hG,hMS,hMK,h1000⟩:=qfr machC.1;rw[machC.2]at hM hR hG hMS hMK;have a1:=KQ (m:=mC) dc_ dc_;rw[qzL]at a1;have a2:=qid hg hM hR hG hMS qla (hMK.k0 hg) h1000;rw[qyy]at a2;have a3:=qdz hg hM hR;rw[qzT]at a3;have a4:=YX hg hM hR hG hMS qla;rw[qzZ]at a4;have a5:=qzk (L:=[[0,3]]) dc_ dc_;have a6:=jE (a:=[0,3]) (b:=[0,3]) dc_ dc_;rw[decide_eq_true rfl]at a6;have a7:=qbr (q:=1) (p:=2) hg hM hR;have a8:=qbr (q:=0) (p:=77) hg hM hR;rw[qzc.1]at a7;rw[qzc.2]at a8;have a9:=jE (a:=[0]) (b:=[0]) dc_ dc_;rw[decide_eq_true rfl]at a9;have b1:=qgq hg hM hR qla;rw[qzW]at b1;have b2:=qaL hg hM hR hG hMS qla;rw[qzD]at b2;generalize jl qbp=g at *;generalize mC=m at *;repeat' with_reducible first|refine s_ ?_|simp -implicitDefEqProofs only[wZZ,seval]|apply jy (hp:=hma);with_unfolding_all exact qpa|apply jy (hp:=a1);with_unfolding_all exact qf|apply zJ (hp:=a2);with_unfolding_all exact qf;with_unfolding_all exact qf|apply zJ (hp:=a3);with_unfolding_all exact qf;with_unfolding_all exact qf|apply zJ (hp:=a4);with_unfolding_all exact qf;with_unfolding_all exact qf|apply zJ (hp:=a5);with_unfolding_all exact qf;with_unfolding_all exact ErL.sl (.cons (ErL.sl (.cons (.int _ _) (.cons (.int _ _) .nil))) .nil)|apply zJ (hp:=a6);with_unfolding_all exact qf;with_unfolding_all exact ErL.sl (.cons (.int _ _) (.cons (.int _ _) .nil))|apply qhD (hp:=a7);with_unfolding_all exact qf;with_unfolding_all exact qf;with_unfolding_all exact qf;with_unfolding_all exact qf|apply qhD (hp:=a8);with_unfolding_all exact qf;with_unfolding_all exact qf;with_unfolding_all exact qf;with_unfolding_all exact qf|apply zJ (hp:=a9);with_unfolding_all exact qf;with_unfolding_all exact ErL.sl (.cons (.int _ _) .nil)|(refine yc (v:=V.iptr 2 (prV (0,1001)) 0) wu_ ?_)|(refine yc (v:=V.iptr 3 (Lk.V ⟨1,2,[0,3]⟩) 0) wu_ ?_)|apply zJ (hp:=b1);with_unfolding_all exact qf;with_unfolding_all exact qf|apply zJ (hp:=b2);with_unfolding_all exact qf;with_unfolding_all exact qf|refine t_ ?_
 all_goals refine qx rfl (Or.inr rfl) ?_
 all_goals(try simp -implicitDefEqProofs only[wL,seval])
 all_goals refine er_ ?_
 all_goals(try(with_reducible rfl))

theorem Zz{y:Source}{x:GrI}(hy:y.Fits)(hb1:x.rules.length<=1099511627776)(hb2:∀l∈x.rules,l.length<=1099511627776)(hib:x.inner.length<=1099511627776)(hlb:x.levels.length<=1099511627776):Pure Tryz.prog 5 [y.V,x.V] (.bool true):=by
 refine pure_intro Tryz.func5 nm_ qxL (by show 2<=53;decide) ?_
 show ewp _ qxV _ _;have hw:=Yd;have hcut:=qaz hy;have hsrc:=X8 (x:=x) hb1 hb2 hib hlb;have hsl:V.sl 4 true [(qeV y).V,(zP x).V]=.sl 4 true ([qeV y,zP x].map Source.V):=rfl;repeat' with_reducible first|refine s_ ?_|simp -implicitDefEqProofs only[wZZ,seval]|refine cq0 hw ?_|refine cq1 hcut (JO y) ?_|refine cq1 hsrc qf ?_|refine t_ ?_
 rw[hsl];have h2:=qxw x y;generalize hL:[qeV y,zP x]=L at *;have hLl:L.length=2:=by rw[<- hL];rfl
 clear hL hsl;refine qc ?nx1 (λ(i:Nat) s=>s.f 5=?v1_5/\s.f 6=vi i/\(i<=L.length)) (λi=>L.length - i) (0) wj_ (by refine⟨?_,?_,wo_⟩<;>first|(simp -implicitDefEqProofs only[wL,wM,wN,wX,seval,Option.some.injEq]<;>exact wt_)|rfl|exact⟨_,rfl⟩) ?_;intro i s hnx ⟨g5,g6,k1_0⟩;have hz:=w1_ i;by_cases hi:i<L.length
 . have hgi:L[i]?=some L[i]:=ge_ hi;obtain ⟨hf,hS⟩:=h2 i _ hgi;have hma:=vv hf hS gok;generalize L[i]=src at *;have hmk:= @qfr src;cases hb:Kj src with
   | false=>
     rw[hb]at hma;generalize Zx src=m at *;generalize jl src=g at *;repeat' with_reducible first|refine s_ ?_|simp -implicitDefEqProofs only[wZZ,seval,g5,g6,hz]|apply qa<;>intro h h_<;>(try simp only[wD,reduceCtorEq]at h_)<;>(try exact wb_)<;>(try simp only[h])|refine t_ ?_|refine cq1 hma (JO src) ?_
     exact⟨wg_,i+1,o_,trivial,rfl,o_⟩
   | true=>
     rw[hb]at hma;obtain ⟨hg,hM,hR,hG,hMS,hMK,h1000⟩:=hmk hb;generalize Zx src=m at *;generalize jl src=g at *;obtain ⟨E,hE,_⟩:=JU (token:=false) hg;have hne:=hG.trans_ne hg hM;have htl:=hM.trans_len;obtain ⟨hO,hOl⟩:=QK (E:=E) hM hg;have a1:=YX hg hM hR hG hMS hE;have a2:=kC hM hg hE hne;have a3:=qzk (L:=zW g E m) o_ (λl hl=>by have:=(hO l hl).len;omega);have b1:=qid hg hM hR hG hMS hE (hMK.k0 hg) h1000;have b2:=VB hM hg hE hne;obtain ⟨s1,s2⟩:=qfD (E:=E) hg hM;have b3:=qzU s1 s2;clear hO hOl s1 s2;generalize qaI g E m=O1 at *;generalize zW g E m=O2 at *;repeat' with_reducible first|refine s_ ?_|simp -implicitDefEqProofs only[wZZ,seval,g5,g6,hz]|apply qa<;>intro h h_<;>(try simp only[wD,reduceCtorEq]at h_)<;>(try exact wb_)<;>(try simp only[h])|refine t_ ?_|refine cq1 hma (JO src) ?_|refine cq2 a1 qf qf ?_|refine cq2 a2 qf qf ?_|refine cq2 a3 qf qf ?_|refine cq2 b1 qf qf ?_|refine cq2 b2 qf qf ?_|refine cq2 b3 qf qf ?_
     exact⟨wg_,i+1,o_,trivial,rfl,o_⟩
 . have e:i=L.length:=o_;repeat' with_reducible first|refine s_ ?_|simp -implicitDefEqProofs only[wZZ,seval,g5,g6,hz]|apply qa<;>intro h h_<;>(try simp only[wD,reduceCtorEq]at h_)<;>(try exact wb_)<;>(try simp only[h])
   all_goals refine qx rfl (Or.inr rfl) ?_
   all_goals(try simp -implicitDefEqProofs only[wL,seval,g5,g6])
   all_goals refine er_ ?_
   all_goals(try(with_reducible rfl))
end Go.Proofs

namespace Go.Proofs.YtkcegflhobejmaaGreatDoor.law
open Go.E Go.ChangeShapes Go.WideShapes Go.ChangeAt Go.RowKit
def B(H:Type)(d:DataW H):Nat:=Rows.uptoBulk d
theorem qcZ{H:Type}(l:List (DataW H)):Rows.uptoBulkAll l=(l.map (B H)).sum:=by
 induction l with
 |nil=>simp[Rows.uptoBulkAll]
 |cons x l ih=>simp only[Rows.uptoBulkAll,ih,List.map_cons,List.sum_cons];rfl
theorem vU:BulkOk B where
 one:=λH d=>by
  cases d with
  |lit l=>cases l<;>simp[B,Rows.uptoBulk]
  | _=>simp[B,Rows.uptoBulk]
 str:=λH s=>by simp[B,Rows.uptoBulk]
 slice:=λH x y=>by show _<=Rows.uptoBulk (.slice x y);simp only[Rows.uptoBulk,qcZ];omega
 agg:=λH x=>by show _<=Rows.uptoBulk (.agg x);simp only[Rows.uptoBulk,qcZ];omega
theorem small{H:Type}{l:List (DataW H)}(hk:Rows.uptoSmall H l=true):(l.map (B H)).sum<=1048576:=by have h:Rows.uptoBulkAll l<=1048576:=of_decide_eq_true hk;rwa [qcZ]at h
theorem own:ownKnob Tryz.prog.godebug=none:=nm_
theorem kids:Kids Tryz.prog (· <Tryz.prog.types.size):=kids_rows nm_ nm_
theorem slices:∀t e,t<Tryz.prog.types.size->Tryz.prog.underlying t=some (.slice e)->0<Tryz.prog.cellsOf e:=slices_full_of Tryz.prog nm_
theorem cells3:Tryz.prog.cellsOf 3=1:=nm_
theorem qkR(N:Nat):ReadsN N Tryz.prog B 3 (Img (λn:Int=>.int .i64 n) (λ_=>1) (λn=>(Lit.int .i64 n).wf=true)):=qh0 vU Tryz.underlying3 cells3 N
theorem Jr:Tryz.prog.cellsOf 27=1:=nm_
theorem qay:Tryz.prog.cellsOf 26=1:=nm_
theorem qv4:Tryz.prog.cellsOf 4=1:=nm_
theorem quW(N:Nat):ReadsN N Tryz.prog B 4 (Img (λn:Bool=>.bool n) (λ_=>1) (λ_=>True)):=qfO vU Tryz.underlying4 qv4 N
def szI(l:List Int):Nat:=(l.map λ_=>1).sum+1
theorem qlY(N:Nat):ReadsN N Tryz.prog B 27 (Img (λl:List Int=>.sl 1 false (l.map (V.int .i64))) szI (λl=>∀n∈l,(Lit.int .i64 n).wf=true)):=by have h:=jF vU Tryz.underlying27 Jr (by rw[cells3];omega) (qkR N);rw[cells3]at h;exact h.le o_
theorem qvd(N:Nat):ReadsN N Tryz.prog B 26 (Img (λl:List (List Int)=>.sl 1 false (l.map λl=>.sl 1 false (l.map (V.int .i64)))) (λl=>(l.map szI).sum+1) (λl=>∀a∈l,∀n∈a,(Lit.int .i64 n).wf=true)):=by have h:=jF vU Tryz.underlying26 nm_ (by rw[Jr];omega) (qlY N);rw[Jr]at h;exact h.le o_
def szG(x:GrI):Nat:=((x.rules.map szI).sum+1)+szI x.levels+szI x.inner
theorem rGr(N:Nat):ReadsN N Tryz.prog B 29 (Img (λx:GrI=>x.V) szG (λ_=>True)):=by
 have h:=QG (N:=N) (Qs:=[Img (λn:Int=>.int .i64 n) (λ_=>1) (λn=>(Lit.int .i64 n).wf=true),Img (λl:List (List Int)=>.sl 1 false (l.map λl=>.sl 1 false (l.map (V.int .i64)))) (λl=>(l.map szI).sum+1) (λl=>∀a∈l,∀n∈a,(Lit.int .i64 n).wf=true),Img (λl:List Int=>.sl 1 false (l.map (V.int .i64))) szI (λl=>∀n∈l,(Lit.int .i64 n).wf=true),Img (λl:List Int=>.sl 1 false (l.map (V.int .i64))) szI (λl=>∀n∈l,(Lit.int .i64 n).wf=true),Img (λn:Bool=>.bool n) (λ_=>1) (λ_=>True)]) vU Tryz.underlying29 nm_ (by
  intro j f hf
  match j,hf with
  |0,hf=>cases hf;rfl
  |1,hf=>cases hf;simp[cells3,qay,Jr]
  |2,hf=>cases hf;simp[cells3,qay,Jr]
  |3,hf=>cases hf;simp[cells3,qay,Jr]
  |4,hf=>cases hf;simp[cells3,qay,Jr]) rfl (by
  intro i f Q hf hQ
  match i,hf,hQ with
  |0,hf,hQ=>cases hf;cases hQ;exact qkR N
  |1,hf,hQ=>cases hf;cases hQ;exact qvd N
  |2,hf,hQ=>cases hf;cases hQ;exact qlY N
  |3,hf,hQ=>cases hf;cases hQ;exact qlY N
  |4,hf,hQ=>cases hf;cases hQ;exact quW N)
 have hc:Tryz.prog.cellsOf 29=5:=nm_
 refine⟨?_,λH enc w fuel cs x hf hx=>?_⟩
 . rintro v n ⟨x,_,rfl,rfl⟩;refine⟨by rw[hc];rfl,?_,by simp[V.isAgg,qhU,Tryz.underlying29]⟩;intro c hcm;simp only[V.cells,List.mem_cons,List.not_mem_nil,or_false]at hcm;rcases hcm with rfl|rfl|rfl|rfl|rfl<;>rfl
 . obtain ⟨v,n,⟨ps,hl,hq,rfl,rfl⟩,h2,h3⟩:=h.rd H enc w fuel cs x o_ hx
   match ps,hl with
   | [p0,p1,p2,p3,p4],_=>
     obtain ⟨a0,-,e0,s0⟩:=hq 0 _ _ rfl rfl;obtain ⟨a1,-,e1,s1⟩:=hq 1 _ _ rfl rfl;obtain ⟨a2,-,e2,s2⟩:=hq 2 _ _ rfl rfl;obtain ⟨a3,-,e3,s3⟩:=hq 3 _ _ rfl rfl;obtain ⟨a4,-,e4,s4⟩:=hq 4 _ _ rfl rfl;refine⟨(GrI.mk a0 a1 a2 a3 a4).V,_,⟨GrI.mk a0 a1 a2 a3 a4,trivial,rfl,rfl⟩,?_,?_⟩
     . simp only[List.map_cons,List.map_nil,List.flatMap_cons,List.flatMap_nil,e0,e1,e2,e3,e4]at h2;exact h2
     . simp only[List.map_cons,List.map_nil,List.sum_cons,List.sum_nil,s0,s1,s2,s3,s4]at h3;simp only[szG];omega
theorem qdV(l:List Int):szI l=l.length+1:=by
 unfold szI
 induction l with
 |nil=>rfl
 |cons a l ih=>simp only[List.map_cons,List.sum_cons,List.length_cons]at ih ⊢;omega
theorem qdl:∀{L:List (List Int)} {l:List Int},l∈L->l.length+L.length<=(L.map szI).sum
 | a::L,l,h=>by
   have hs:∀L:List (List Int),L.length<=(L.map szI).sum:=λL=>by
    induction L with
    |nil=>simp
    |cons a L ih=>simp only[List.map_cons,List.sum_cons,List.length_cons,qdV];omega
   simp only[List.map_cons,List.sum_cons,List.length_cons,qdV];rcases List.mem_cons.1 h with rfl|h
   . have:=hs L;omega
   . have:=qdl h;omega
theorem qmz{x:GrI}(h:szG x<=1048576):x.rules.length<=1099511627776/\(∀l∈x.rules,l.length<=1099511627776)/\x.inner.length<=1099511627776/\x.levels.length<=1099511627776:=by
 simp only[szG,qdV]at h;refine⟨?_,λl hl=>by have:=qdl hl;omega,o_,o_⟩;cases hx:x.rules with
 |nil=>simp
 |cons a L=>have:=qdl (L:=x.rules) (l:=a) (by simp[hx]);rw[hx]at this h;simp only[List.length_cons]at this ⊢;omega
theorem qze:Tryz.prog.globalNamed "math/bits.deBruijn64tab"=some 0:=nm_
theorem qk7:(Tryz.prog.globals[0]?).map (·.type)=some 194:=nm_
theorem table{W:World}(h:laidMetH Tryz.prog [("math/bits.deBruijn64tab",Rows.laid_math_bits_deBruijn64tab)] W):Lib.TabIs Tryz.prog W "math/bits.deBruijn64tab" .u8 (Lib.deBruijn64tab.map λ(n:Nat)=>(n:Int)):=
 Lib.tabIs_of_head (rest:=[]) qze qk7 Tryz.underlying194 Tryz.underlying5 nm_ nm_ h
theorem qxj{W:World}(h:laidMetH Tryz.prog [("math/bits.deBruijn64tab",Rows.laid_math_bits_deBruijn64tab)] W):Go.E.GOk Tryz.prog W VL:=by
 intro g
 show R noβ W VL (if g=0 then _ else _) _;have hl:Lib.deBruijn64tab.length=64:=dc_
 split
 . rename_i e;subst e;refine .iptr 64 _ 0 0 0 (λj=>.int .u8 ((Lib.deBruijn64tab.map λ(n:Nat)=>(n:Int)).getD j 0)) (λj hj=>⟨trivial,?_⟩) (by simp[V.cells,hl]) (by simp[V.cells,V.scalar]) (λj c hc=>?_)
   . have:=(table h).cell qze j (by simp[hl];exact hj);simpa using this
   . simp only[V.cells,List.getElem?_map,Option.map_eq_some_iff]at hc;obtain ⟨n,hn,rfl⟩:=hc
     have:(Lib.deBruijn64tab.map λ(n:Nat)=>(n:Int)).getD j 0=(n:Int):=by simp[List.getD,hn]
     rw[this];exact .int _ _
 . exact .iptr 0 (.agg []) 0 g 0 (λ_=>Go.undef) (λj hj=>absurd hj (Nat.not_lt_zero _)) rfl (by simp[V.cells]) (by simp[V.cells])
noncomputable def YQ (os:Os):World:=
 {World.holding Tryz.prog os ⟨#[],#[],[]⟩with heap:=(World.holding Tryz.prog os ⟨#[],#[],[]⟩).heap.modify 0 fun
  |.cells _ t frozen=>.cells ((Lib.deBruijn64tab.map λ(n:Nat)=>Value.int .u8 (n:Int)).toArray) t frozen
  |o=>o}
end Go.Proofs.YtkcegflhobejmaaGreatDoor.law

namespace Go.Proofs.YtkcegflhobejmaaGreatDoor.law
open Go.E Go.ChangeShapes Go.WideShapes Go.ChangeAt Go.RowKit
variable {fs:Array Field}
theorem qjr{t:TypeId}(ht:Tryz.prog.underlying t=some (.struct fs))(hl:fs.toList.length=3)
(hsum:Tryz.prog.cellsOf t=(fs.toList.map λf=>Tryz.prog.cellsOf f.type).sum)(ho:∀j,j<4->∀f∈fs.toList[j]?,f.offset=((fs.toList.take j).map λf=>Tryz.prog.cellsOf f.type).sum)
{N:Nat}{α β γ δ:Type}{f1:α->V}{f2:β->V}{f3:γ->V}{s1:α->Nat}{s2:β->Nat}{s3:γ->Nat}{p1:α->Prop}{p2:β->Prop}{p3:γ->Prop}
(h1:∀f,fs.toList[0]?=some f->ReadsN N Tryz.prog B f.type (Img f1 s1 p1))(h2:∀f,fs.toList[1]?=some f->ReadsN N Tryz.prog B f.type (Img f2 s2 p2))(h3:∀f,fs.toList[2]?=some f->ReadsN N Tryz.prog B f.type (Img f3 s3 p3))
(d1:δ->α)(d2:δ->β)(d3:δ->γ)(mk:α->β->γ->δ)(hd:∀a b c,d1 (mk a b c)=a/\d2 (mk a b c)=b/\d3 (mk a b c)=c)(e:δ->V)(he:∀x,e x=.agg ((f1 (d1 x)).cells++((f2 (d2 x)).cells++(f3 (d3 x)).cells))):
 ReadsN (N+1) Tryz.prog B t (Img e (λx=>s1 (d1 x)+s2 (d2 x)+s3 (d3 x)+1) (λx=>p1 (d1 x)/\p2 (d2 x)/\p3 (d3 x))):=by
 have h:=QG (N:=N) (Qs:=[Img f1 s1 p1,Img f2 s2 p2,Img f3 s3 p3]) vU ht hsum (λj f hj=>ho j (by have:=(List.getElem?_eq_some_iff.1 hj).1;omega) f hj) (by rw[hl];rfl) (by
  intro i f Q hf hQ
  match i,hf,hQ with
  |0,hf,hQ=>cases hQ;exact h1 f hf
  |1,hf,hQ=>cases hQ;exact h2 f hf
  |2,hf,hQ=>cases hQ;exact h3 f hf)
 refine⟨λv n ⟨x,hx,hv,hn⟩=>?_,λH enc w fuel cs x hf hx=>?_⟩
 . refine h.shape v n ⟨[(f1 (d1 x),s1 (d1 x)),(f2 (d2 x),s2 (d2 x)),(f3 (d3 x),s3 (d3 x))],rfl,λi p Q hp hQ=>?_,by rw[hv,he];simp,by rw[hn];simp;omega⟩
   match i,hp,hQ with
   |0,hp,hQ=>cases hp;cases hQ;exact⟨_,hx.1,rfl,rfl⟩
   |1,hp,hQ=>cases hp;cases hQ;exact⟨_,hx.2.1,rfl,rfl⟩
   |2,hp,hQ=>cases hp;cases hQ;exact⟨_,hx.2.2,rfl,rfl⟩
 . obtain ⟨v,n,⟨ps,hl,hq,rfl,rfl⟩,h2,h3⟩:=h.rd H enc w fuel cs x hf hx
   match ps,hl with
   | [q0,q1,q2],_=>
     obtain ⟨a,wa,e0,z0⟩:=hq 0 _ _ rfl rfl;obtain ⟨b,wb,e1,z1⟩:=hq 1 _ _ rfl rfl;obtain ⟨c,wc,e2,z2⟩:=hq 2 _ _ rfl rfl;obtain ⟨k1,k2,k3⟩:=hd a b c;refine⟨e (mk a b c),_,⟨mk a b c,by dsimp only;rw[k1,k2,k3];exact⟨wa,wb,wc⟩,rfl,rfl⟩,?_,?_⟩
     . rw[he,k1,k2,k3];simpa[e0,e1,e2,V.cells]using h2
     . simp only[k1,k2,k3];simp only[List.map_cons,List.map_nil,List.sum_cons,List.sum_nil,z0,z1,z2]at h3;omega
theorem qiO{t:TypeId}(ht:Tryz.prog.underlying t=some (.struct fs))(hl:fs.toList.length=4)
(hsum:Tryz.prog.cellsOf t=(fs.toList.map λf=>Tryz.prog.cellsOf f.type).sum)(ho:∀j,j<4->∀f∈fs.toList[j]?,f.offset=((fs.toList.take j).map λf=>Tryz.prog.cellsOf f.type).sum)
{N:Nat}{α β γ ε δ:Type}{f1:α->V}{f2:β->V}{f3:γ->V}{f4:ε->V}{s1:α->Nat}{s2:β->Nat}{s3:γ->Nat}{s4:ε->Nat}{p1:α->Prop}{p2:β->Prop}{p3:γ->Prop}{p4:ε->Prop}
(h1:∀f,fs.toList[0]?=some f->ReadsN N Tryz.prog B f.type (Img f1 s1 p1))(h2:∀f,fs.toList[1]?=some f->ReadsN N Tryz.prog B f.type (Img f2 s2 p2))(h3:∀f,fs.toList[2]?=some f->ReadsN N Tryz.prog B f.type (Img f3 s3 p3))(h4:∀f,fs.toList[3]?=some f->ReadsN N Tryz.prog B f.type (Img f4 s4 p4))
(d1:δ->α)(d2:δ->β)(d3:δ->γ)(d4:δ->ε)(mk:α->β->γ->ε->δ)(hd:∀a b c d,d1 (mk a b c d)=a/\d2 (mk a b c d)=b/\d3 (mk a b c d)=c/\d4 (mk a b c d)=d)(e:δ->V)(he:∀x,e x=.agg ((f1 (d1 x)).cells++((f2 (d2 x)).cells++((f3 (d3 x)).cells++(f4 (d4 x)).cells)))):
 ReadsN (N+1) Tryz.prog B t (Img e (λx=>s1 (d1 x)+s2 (d2 x)+s3 (d3 x)+s4 (d4 x)+1) (λx=>p1 (d1 x)/\p2 (d2 x)/\p3 (d3 x)/\p4 (d4 x))):=by
 have h:=QG (N:=N) (Qs:=[Img f1 s1 p1,Img f2 s2 p2,Img f3 s3 p3,Img f4 s4 p4]) vU ht hsum (λj f hj=>ho j (by have:=(List.getElem?_eq_some_iff.1 hj).1;omega) f hj) (by rw[hl];rfl) (by
  intro i f Q hf hQ
  match i,hf,hQ with
  |0,hf,hQ=>cases hQ;exact h1 f hf
  |1,hf,hQ=>cases hQ;exact h2 f hf
  |2,hf,hQ=>cases hQ;exact h3 f hf
  |3,hf,hQ=>cases hQ;exact h4 f hf)
 refine⟨λv n ⟨x,hx,hv,hn⟩=>?_,λH enc w fuel cs x hf hx=>?_⟩
 . refine h.shape v n ⟨[(f1 (d1 x),s1 (d1 x)),(f2 (d2 x),s2 (d2 x)),(f3 (d3 x),s3 (d3 x)),(f4 (d4 x),s4 (d4 x))],rfl,λi p Q hp hQ=>?_,by rw[hv,he];simp,by rw[hn];simp;omega⟩
   match i,hp,hQ with
   |0,hp,hQ=>cases hp;cases hQ;exact⟨_,hx.1,rfl,rfl⟩
   |1,hp,hQ=>cases hp;cases hQ;exact⟨_,hx.2.1,rfl,rfl⟩
   |2,hp,hQ=>cases hp;cases hQ;exact⟨_,hx.2.2.1,rfl,rfl⟩
   |3,hp,hQ=>cases hp;cases hQ;exact⟨_,hx.2.2.2,rfl,rfl⟩
 . obtain ⟨v,n,⟨ps,hl,hq,rfl,rfl⟩,h2,h3⟩:=h.rd H enc w fuel cs x hf hx
   match ps,hl with
   | [q0,q1,q2,q3],_=>
     obtain ⟨a,wa,e0,z0⟩:=hq 0 _ _ rfl rfl;obtain ⟨b,wb,e1,z1⟩:=hq 1 _ _ rfl rfl;obtain ⟨c,wc,e2,z2⟩:=hq 2 _ _ rfl rfl;obtain ⟨d,wd,e3,z3⟩:=hq 3 _ _ rfl rfl;obtain ⟨k1,k2,k3,k4⟩:=hd a b c d;refine⟨e (mk a b c d),_,⟨mk a b c d,by dsimp only;rw[k1,k2,k3,k4];exact⟨wa,wb,wc,wd⟩,rfl,rfl⟩,?_,?_⟩
     . rw[he,k1,k2,k3,k4];simpa[e0,e1,e2,e3,V.cells]using h2
     . simp only[k1,k2,k3,k4];simp only[List.map_cons,List.map_nil,List.sum_cons,List.sum_nil,z0,z1,z2,z3]at h3;omega
theorem qqw(N:Nat):ReadsN N Tryz.prog B 9 (Img (λs:List UInt8=>.str s) (λs=>s.length+1) (λ_=>True)):=(qiL vU Tryz.underlying9 nm_ N).mono (λ_ _ ⟨a,_,h1,h2⟩=>⟨a,trivial,h1,h2⟩) (λv n ⟨a,_,h1,h2⟩=>by subst h1;exact⟨nm_,by simp[V.cells,V.scalar],nm_⟩)
abbrev okI(n:Int):Prop:=(Lit.int .i64 n).wf=true
abbrev X5(x:Sym):Nat:=(x.name.length+1)+1+1+1+1
abbrev qkq(x:Sym):Prop:=True/\True/\okI x.num/\okI x.at_
theorem qxE(N:Nat):ReadsN (N+1) Tryz.prog B 57 (Img Sym.V X5 qkq):=
 qiO (N:=N) (t:=57) Tryz.underlying57 rfl nm_ (by decide+kernel) (λf hf=>by cases hf;exact qqw N) (λf hf=>by cases hf;exact quW N) (λf hf=>by cases hf;exact qkR N) (λf hf=>by cases hf;exact qkR N) (λx:Sym=>x.name) (·.lit) (·.num) (·.at_) Sym.mk (λ_ _ _ _=>⟨rfl,rfl,rfl,rfl⟩) Sym.V (λ_=>rfl)
abbrev Ku(x:Part):Nat:=X5 x.sym+(x.code.length+1)+1+1
abbrev qlC(x:Part):Prop:=qkq x.sym/\True/\okI x.at_
theorem qx6(N:Nat):ReadsN (N+1+1) Tryz.prog B 59 (Img Part.V Ku qlC):=
 qjr (N:=N+1) (t:=59) Tryz.underlying59 rfl nm_ (by decide+kernel) (λf hf=>by cases hf;exact qxE N) (λf hf=>by cases hf;exact qqw _) (λf hf=>by cases hf;exact qkR _) (λx:Part=>x.sym) (·.code) (·.at_) Part.mk (λ_ _ _=>⟨rfl,rfl,rfl⟩) Part.V (λ_=>rfl)
abbrev qa7(l:List Part):Nat:=(l.map Ku).sum+1
abbrev qiY(l:List Part):Prop:= ∀a∈l,qlC a
theorem qhm:Tryz.prog.cellsOf 59=6:=nm_
theorem qr4(N:Nat):ReadsN (N+1+1+1) Tryz.prog B 60 (Img (λl:List Part=>.sl 6 false (l.map Part.V)) qa7 qiY):=by have h:=jF vU Tryz.underlying60 nm_ (by rw[qhm];omega) (qx6 N);rw[qhm]at h;exact h
abbrev qfV(x:Alt):Nat:=qa7 x.parts+X5 x.prec+1+1
abbrev qqM(x:Alt):Prop:=qiY x.parts/\qkq x.prec/\okI x.at_
theorem qzC(N:Nat):ReadsN (N+1+1+1+1) Tryz.prog B 62 (Img Alt.V qfV qqM):=
 qjr (N:=N+1+1+1) (t:=62) Tryz.underlying62 rfl nm_ (by decide+kernel) (λf hf=>by cases hf;exact qr4 N) (λf hf=>by cases hf;exact qxE (N+2)) (λf hf=>by cases hf;exact qkR _) (λx:Alt=>x.parts) (·.prec) (·.at_) Alt.mk (λ_ _ _=>⟨rfl,rfl,rfl⟩) Alt.V (λ_=>rfl)
abbrev qd3(l:List Alt):Nat:=(l.map qfV).sum+1
abbrev qlT(l:List Alt):Prop:= ∀a∈l,qqM a
theorem qjx:Tryz.prog.cellsOf 62=6:=nm_
theorem qyd(N:Nat):ReadsN (N+1+1+1+1+1) Tryz.prog B 63 (Img (λl:List Alt=>.sl 6 false (l.map Alt.V)) qd3 qlT):=by have h:=jF vU Tryz.underlying63 nm_ (by rw[qjx];omega) (qzC N);rw[qjx]at h;exact h
abbrev K7(x:Rule):Nat:=(x.left.length+1)+qd3 x.alts+1+1
abbrev qlA(x:Rule):Prop:=True/\qlT x.alts/\okI x.at_
theorem qx5(N:Nat):ReadsN (N+1+1+1+1+1+1) Tryz.prog B 65 (Img Rule.V K7 qlA):=
 qjr (N:=N+1+1+1+1+1) (t:=65) Tryz.underlying65 rfl nm_ (by decide+kernel) (λf hf=>by cases hf;exact qqw _) (λf hf=>by cases hf;exact qyd N) (λf hf=>by cases hf;exact qkR _) (λx:Rule=>x.left) (·.alts) (·.at_) Rule.mk (λ_ _ _=>⟨rfl,rfl,rfl⟩) Rule.V (λ_=>rfl)
abbrev qdS(l:List Rule):Nat:=(l.map K7).sum+1
abbrev qio(l:List Rule):Prop:= ∀a∈l,qlA a
theorem qi2:Tryz.prog.cellsOf 65=3:=nm_
theorem qrL(N:Nat):ReadsN (N+1+1+1+1+1+1+1) Tryz.prog B 23 (Img (λl:List Rule=>.sl 3 false (l.map Rule.V)) qdS qio):=by have h:=jF vU Tryz.underlying23 nm_ (by rw[qi2];omega) (qx5 N);rw[qi2]at h;exact h
abbrev qeb(l:List Sym):Nat:=(l.map X5).sum+1
abbrev qlm(l:List Sym):Prop:= ∀a∈l,qkq a
theorem qip:Tryz.prog.cellsOf 57=4:=nm_
theorem qyz(N:Nat):ReadsN (N+1+1) Tryz.prog B 91 (Img (λl:List Sym=>.sl 4 false (l.map Sym.V)) qeb qlm):=by have h:=jF vU Tryz.underlying91 nm_ (by rw[qip];omega) (qxE N);rw[qip]at h;exact h
abbrev Y3(x:Decl):Nat:=1+(x.tag.length+1)+qeb x.syms+1+1
abbrev qlN(x:Decl):Prop:=okI x.kind/\True/\qlm x.syms/\okI x.at_
theorem qyF(N:Nat):ReadsN (N+1+1+1) Tryz.prog B 93 (Img Decl.V Y3 qlN):=
 qiO (N:=N+1+1) (t:=93) Tryz.underlying93 rfl nm_ (by decide+kernel) (λf hf=>by cases hf;exact qkR _) (λf hf=>by cases hf;exact qqw _) (λf hf=>by cases hf;exact qyz N) (λf hf=>by cases hf;exact qkR _) (λx:Decl=>x.kind) (·.tag) (·.syms) (·.at_) Decl.mk (λ_ _ _ _=>⟨rfl,rfl,rfl,rfl⟩) Decl.V (λ_=>rfl)
abbrev qdW(l:List Decl):Nat:=(l.map Y3).sum+1
abbrev qjB(l:List Decl):Prop:= ∀a∈l,qlN a
theorem qhM:Tryz.prog.cellsOf 93=4:=nm_
theorem qtu(N:Nat):ReadsN (N+1+1+1+1) Tryz.prog B 22 (Img (λl:List Decl=>.sl 4 false (l.map Decl.V)) qdW qjB):=by have h:=jF vU Tryz.underlying22 nm_ (by rw[qhM];omega) (qyF N);rw[qhM]at h;exact h
abbrev J8(x:Source):Nat:=(x.pro.length+1)+qdW x.decls+qdS x.rules+(x.tail.length+1)+1
abbrev qbc(x:Source):Prop:=True/\qjB x.decls/\qio x.rules/\True
theorem qqj(N:Nat):ReadsN (N+1+1+1+1+1+1+1+1) Tryz.prog B 25 (Img Source.V J8 qbc):=
 qiO (N:=N+1+1+1+1+1+1+1) (t:=25) Tryz.underlying25 rfl nm_ (by decide+kernel) (λf hf=>by cases hf;exact qqw _) (λf hf=>by cases hf;exact qtu (N+3)) (λf hf=>by cases hf;exact qrL N) (λf hf=>by cases hf;exact qqw _) (λx:Source=>x.pro) (·.decls) (·.rules) (·.tail) Source.mk (λ_ _ _ _=>⟨rfl,rfl,rfl,rfl⟩) Source.V (λ_=>rfl)
theorem qai{α:Type}(sz:α->Nat):∀{l:List α} {a:α},a∈l->sz a<=(l.map sz).sum
 | b::l,a,h=>by
   rw[List.map_cons,List.sum_cons];rcases List.mem_cons.1 h with rfl|h
   . omega
   . have:=qai sz h;omega
theorem KX{α:Type}(sz:α->Nat)(h:∀a,1<=sz a):∀l:List α,l.length<=(l.map sz).sum
 |[]=>Nat.zero_le _
 |a::l=>by have:=KX sz h l;have:=h a;rw[List.map_cons,List.sum_cons,List.length_cons];omega
theorem qmv{x:Source}(h:J8 x<=1048576):x.Fits:=by
 have l1:=KX Y3 (λ_=>by unfold Y3;omega) x.decls;have l2:=KX K7 (λ_=>by unfold K7;omega) x.rules;unfold J8 qdW qdS at h;refine⟨o_,o_,o_,λd hd=>?_,o_,λr hr=>?_⟩
 . have m:=qai Y3 hd;unfold Y3 qeb at m;have l3:=KX X5 (λ_=>by unfold X5;omega) d.syms;unfold Y3 qeb at h;refine⟨o_,o_,λy hy=>?_⟩;have m2:=qai X5 hy;unfold X5 at *;omega
 . have m:=qai K7 hr;have l3:=KX qfV (λ_=>by unfold qfV;omega) r.alts;have m':r.left.length+1+qd3 r.alts+1+1<=(x.rules.map K7).sum:=m;unfold qd3 at m';refine⟨o_,o_,λa ha=>?_⟩;have n:=qai qfV ha;have l4:=KX Ku (λ_=>by unfold Ku;omega) a.parts;have n':qa7 a.parts+X5 a.prec+1+1<=(r.alts.map qfV).sum:=n;unfold qa7 X5 at n';refine⟨o_,λw hw=>?_,o_⟩;have q:=qai Ku hw;have q':X5 w.sym+(w.code.length+1)+1+1<=(a.parts.map Ku).sum:=q;unfold X5 at q';exact⟨o_,o_⟩
end Go.Proofs.YtkcegflhobejmaaGreatDoor.law
