import Derived.Test.YtkcegflhobejmaaGreatDoorBME
set_option maxRecDepth 20000
set_option linter.all false
set_option maxHeartbeats 4000000
namespace Go.Proofs
open Go.E
abbrev qod(s:Int):Prop:=s≠0/\s≠2/\s≠1000
abbrev RPr(l:List GPr):Prop:= ∀p∈l,∀s∈p.right,qod s
abbrev Bad(m:Mk):Prop:=m.e≠0\/1000<m.toks.length
theorem qjn(x:Sym):∀(l:List Tok) (i:Nat),Qw x l i= -1\/((i:Int)<=Qw x l i/\Qw x l i≠2)
 |[],i=>Or.inl rfl
 | t ::r,i=>by
   rw[Qw];split
   . rename_i h;exact Or.inr ⟨Int.le_refl _,by have:=h.2.2;omega⟩
   . rcases qjn x r (i+1)with h|h
     . exact Or.inl h
     . exact Or.inr ⟨o_,h.2⟩
theorem qlv{m:Mk}(x:Sym)(h3:3<=m.toks.length)(h:0<=VN m.toks x):Bad m\/qod (VN m.toks x):=by
 have hb:=qbe x m.toks o_;by_cases e:VN m.toks x=1000
 . left;right;omega
 . right;unfold VN at *;rcases qjn x (m.toks.drop 1) 1 with h1|h1
   . omega
   . exact⟨o_,h1.2,e⟩
theorem qbb(m:Mk)(a:Int)(n:List UInt8):(zu m a n).e≠0:=by
 unfold zu;split
 . simp
 . assumption
theorem qcZ(m:Mk)(a:Int)(n:List UInt8):Bad (zu m a n):=Or.inl (qbb m a n)
theorem qsX{m:Mk}(x:Sym)(h3:3<=m.toks.length):(Bad (Jc m x).1\/qod (Jc m x).2)/\(Bad m->Bad (Jc m x).1):=by
 unfold Jc;split
 . rename_i h;exact⟨qlv x h3 h,id⟩
 . dsimp only;refine⟨?_,λh=>?_⟩
   . by_cases e:(m.toks.length:Int)=1000
     . left;right;dsimp only;rw[List.length_append];simp;omega
     . exact Or.inr ⟨o_,o_,e⟩
   . rcases h with h|h
     . left;dsimp only;split
       . exact qbb _ _ _
       . exact h
     . right;dsimp only;rw[List.length_append];omega
theorem qlz{m:Mk}(x:Sym)(h3:3<=m.toks.length):(Bad (yJ m x).1\/qod (yJ m x).2)/\(Bad m->Bad (yJ m x).1):=by
 have hb:=jH x.name m.lefts 0;unfold yJ;split
 . exact qsX x h3
 . split
   . exact⟨Or.inr ⟨d_,d_,d_⟩,id⟩
   . split
     . exact⟨Or.inl (qcZ _ _ _),λ_=>qcZ _ _ _⟩
     . rename_i h;exact⟨qlv x h3 (Int.not_lt.1 h),id⟩
theorem qdg:∀(l:List Part) (m:Mk) (p:GPr),3<=m.toks.length->0<=m.inner->(Bad m\/(RPr m.prods/\∀s∈p.right,qod s))->Bad (zR l (m,p)).1\/(RPr (zR l (m,p)).1.prods/\∀s∈(zR l (m,p)).2.right,qod s)
 |[],m,p,h3,hi,h=>by rw[JM];exact h
 | w :: r, m,p,h3,hi,h=>by
   rw[vU];obtain ⟨y1,y2,y3,y4,y5,y6,y7,y8⟩:=Qo m w.sym;obtain ⟨s1,s2⟩:=qlz w.sym h3;split
   . refine qdg r _ _ o_ o_ ?_;rcases h with h|⟨h1,h2⟩
     . exact Or.inl (s2 h)
     . rcases s1 with s1|s1
       . exact Or.inl s1
       . right;rw[y3];refine⟨h1,λs hs=>?_⟩;rcases List.mem_append.1 hs with hs|hs
         . exact h2 s hs
         . rw[List.mem_singleton]at hs;subst hs;exact s1
   . split
     . exact h
     . refine qdg r _ _ h3 d_ ?_;rcases h with h|⟨h1,h2⟩
       . exact Or.inl h
       . right;refine⟨λq hq s hs=>?_,λs hs=>?_⟩
         . rcases List.mem_append.1 hq with hq|hq
           . exact h1 q hq s hs
           . rw[List.mem_singleton]at hq;subst hq;cases hs
         . dsimp only at hs;rcases List.mem_append.1 hs with hs|hs
           . exact h2 s hs
           . rw[List.mem_singleton]at hs;exact⟨o_,o_,o_⟩
theorem RPr.snoc{l:List GPr}{p:GPr}(h:RPr l)(hp:∀s∈p.right,qod s):RPr (l++[p]):=λq hq=>by
 rcases List.mem_append.1 hq with hq|hq
 . exact h q hq
 . rw[List.mem_singleton]at hq;subst hq;exact hp
theorem qvj{m:Mk}(n:List UInt8)(a:Alt)(hI:MInv m)(h:Bad m\/RPr m.prods):Bad (Yb m n a)\/RPr (Yb m n a).prods:=by
 have h1:=qdg a.parts m {left:=1+qD n m.lefts 0,prec:= -1,at_:=a.at_} hI.tk hI.inn (h.imp id λh=>⟨h,λs hs=>by cases hs⟩);have h2:=(Ye a.parts m {left:=1+qD n m.lefts 0,prec:= -1,at_:=a.at_} hI (λs hs=>by cases hs)).1.tk;unfold Yb;dsimp only;generalize zR a.parts (m,{left:=1+qD n m.lefts 0,prec:= -1,at_:=a.at_})=q at *;obtain ⟨y1,y2,y3,y4,y5,y6,y7,y8⟩:=Qo q.1 a.prec;split
 . split
   . rcases h1 with h1|⟨h1,h3⟩
     . exact Or.inl ((qlz a.prec h2).2 h1)
     . right;dsimp only;rw[y3];exact h1.snoc h3
   . exact Or.inl (qcZ _ _ _)
 . rcases h1 with h1|⟨h1,h3⟩
   . exact Or.inl h1
   . exact Or.inr (h1.snoc h3)
theorem qfg(n:List UInt8):∀(l:List Alt) (m:Mk),MInv m->(Bad m\/RPr m.prods)->Bad (zX n l m)\/RPr (zX n l m).prods
 |[],m,_,h=>h
 |a::r,m,hI,h=>by rw[yx];exact qfg n r _ (qg3 n a hI) (qvj n a hI h)
theorem qjG:∀(l:List Rule) (m:Mk),MInv m->(Bad m\/RPr m.prods)->Bad (vH l m)\/RPr (vH l m).prods
 |[],m,_,h=>h
 |r::l,m,hI,h=>by rw[kN];exact qjG l _ (Vx r.left r.alts m hI) (qfg r.left r.alts m hI h)
theorem K5{n:List UInt8}:∀{l:List (List UInt8)} (i:Nat),n∈l->0<=qD n l i
 | t ::r,i,h=>by
   rw[qD];split
   . omega
   . rename_i hn;rcases List.mem_cons.1 h with e|h
     . exact absurd e.symm hn
     . exact K5 (i+1) h
theorem qbV{n:List UInt8}:∀{l:List (List UInt8)} (i:Nat),0<=qD n l i->n∈l
 |[],i,h=>by rw[qD]at h;omega
 | t::r,i,h=>by
   rw[qD]at h;split at h
   . rename_i e;subst e;simp
   . exact List.mem_cons_of_mem _ (qbV (i+1) h)
theorem qwH{m:Mk}{k:Int}{x:Sym}(h:m.e≠0):(qkc m k x).e≠0:=by
 unfold qkc;split
 . exact qbb _ _ _
 . exact h
theorem qa4{k:Int}:∀{l:List Sym} {m:Mk},m.e≠0->(j5 k l m).e≠0
 |[],m,h=>h
 |x::r,m,h=>by rw[kU];exact qa4 (qwH h)
theorem qh2:∀{l:List Decl} {m:Mk},m.e≠0->(Qv l m).e≠0
 |[],m,h=>h
 |d::r,m,h=>by rw[Zl];exact qh2 (qa4 h)
theorem qeU{k:Int}(hk:5<=k){x:Sym}:∀{l:List Sym} {m:Mk},x∈l->(j5 k l m).e≠0\/0<=qD x.name m.lefts 0
 | y ::r,m,h=>by
   rw[kU];rcases List.mem_cons.1 h with rfl|h
   . by_cases h0:qD x.name m.lefts 0<0
     . left;refine qa4 ?_;unfold qkc;rw[if_pos ⟨hk,h0⟩];exact qbb _ _ _
     . right;omega
   . have:=qeU hk (m:=qkc m k y) h;rwa [(qlG m k y).2.2.1]at this
theorem qir{d:Decl}(hk:5<=d.kind){x:Sym}(hx:x∈d.syms):∀{l:List Decl} {m:Mk},d∈l->(Qv l m).e≠0\/0<=qD x.name m.lefts 0
 | y ::r,m,h=>by
   rw[Zl];rcases List.mem_cons.1 h with rfl|h
   . exact(qeU hk hx).imp qh2 id
   . have:=qir hk hx (m:=j5 y.kind y.syms m) h;rwa [(qaw y.kind y.syms m).2.2.1]at this
theorem qdh(d:Decl):∀(l:List Sym) (m:Mk) (st:List UInt8),(zY d l (m,st)).2=st\/(d.kind=6/\∃x∈l,(zY d l (m,st)).2=x.name)
 |[],m,st=>Or.inl rfl
 | x ::r,m,st=>by
   rw[Xz];split
   . rcases qdh d r (kS m d x) st with h|⟨h1,y,h2,h3⟩
     . exact Or.inl h
     . exact Or.inr ⟨h1,y,List.mem_cons_of_mem _ h2,h3⟩
   . rename_i hk;rcases qdh d r (if st≠[]then zu m x.at_ x.name else m) x.name with h|⟨h1,y,h2,h3⟩
     . exact Or.inr ⟨by simpa using hk,x,by simp,h⟩
     . exact Or.inr ⟨h1,y,List.mem_cons_of_mem _ h2,h3⟩
theorem qh9:∀(l:List Decl) (m:Mk) (st:List UInt8),(jY l (m,st)).2=st\/ ∃d∈l,d.kind=6/\∃x∈d.syms,(jY l (m,st)).2=x.name
 |[],m,st=>Or.inl rfl
 | d ::r,m,st=>by
   rw[J8];have h1:=qdh d d.syms (XB m d) st;have h2:=qh9 r (zY d d.syms (XB m d,st)).1 (zY d d.syms (XB m d,st)).2;rcases h2 with h2|⟨y,h3,h4,x,h5,h6⟩
   . rcases h1 with h1|⟨h1,x,h3,h4⟩
     . exact Or.inl (h2.trans h1)
     . exact Or.inr ⟨d,by simp,h1,x,h3,h2.trans h4⟩
   . exact Or.inr ⟨y,List.mem_cons_of_mem _ h3,h4,x,h5,h6⟩
theorem qv9(m:Mk)(n:List UInt8):n∈(XQ m n).lefts/\∀x∈m.lefts,x∈(XQ m n).lefts:=by
 unfold XQ;split
 . exact⟨by simp,λx hx=>by simp[hx]⟩
 . rename_i h;exact⟨qbV 0 o_,λx hx=>hx⟩
theorem qiY:∀(l:List Rule) (m:Mk) (x:List UInt8),(x∈m.lefts\/ ∃r∈l,x=r.left)->x∈(yh l m).lefts
 | [],m,x,h=>by
   rcases h with h|⟨r,hr,_⟩
   . exact h
   . cases hr
 | r ::l,m,x,h=>by
   rw[Xp];obtain ⟨d1,d2,d3,d4,d5,d6⟩:=qeO m r;have ha:=qv9 (Zi m r) r.left;refine qiY l _ x ?_;rcases h with h|⟨q,hq,e⟩
   . exact Or.inl (ha.2 x (by rw[d2];exact h))
   . rcases List.mem_cons.1 hq with rfl|hq
     . subst e;exact Or.inl ha.1
     . exact Or.inr ⟨q,hq,e⟩
theorem qk2{src:Source}(h:Vd src=true):(qbl src).e≠0\/0<=qD (Qn src) (qbl src).lefts 0:=by
 have hl:(qbl src).lefts=(yh src.rules (jY src.decls ({},[])).1).lefts:=(qdO src.decls _).2.2.1;have hne:src.rules≠[]:=by unfold Vd at h;simp only[Bool.and_eq_true,Bool.not_eq_true',decide_eq_false_iff_not]at h;exact h.2
 rw[hl];unfold Qn;by_cases e:(jY src.decls ({},[])).2=[]
 . rw[if_pos e];right;refine K5 0 (qiY _ _ _ (Or.inr ?_));cases hr:src.rules with
   |nil=>exact absurd hr hne
   |cons r l=>exact⟨r,by simp,rfl⟩
 . rw[if_neg e];rcases qh9 src.decls {} []with h1|⟨d,h1,h2,x,h3,h4⟩
   . exact absurd h1 e
   . rw[h4];exact qir o_ h3 h1
theorem qo4{src:Source}(hm:Vd src=true):Bad (xG src)\/RPr (xG src).prods:=by
 obtain ⟨h1,h2,h3⟩:=qlW src;have hl:=jH (Qn src) (qbl src).lefts 0;rw[qav];refine qjG _ _ ⟨h1,d_,λp hp=>?_,λp hp s hs=>?_,λp hp=>?_⟩ ((qk2 hm).imp Or.inl λh0 p hp s hs=>?_)<;>(dsimp only at hp;rw[List.mem_singleton]at hp;subst hp)
 . unfold VW;dsimp only;omega
 . unfold VW at hs;dsimp only at hs ⊢;rw[List.mem_singleton]at hs;subst hs;exact Or.inr ⟨(1+qD (Qn src) (qbl src).lefts 0).toNat,o_,o_⟩
 . exact Or.inl rfl
 . unfold VW at hs;dsimp only at hs;rw[List.mem_singleton]at hs;subst hs;exact⟨o_,o_,o_⟩
theorem qf1{src:Source}(h:YN src=true):RPr (jC src).prods:=by obtain ⟨hm,he,_,e⟩:=qeQ h;have htk:=(gok h).tk2;rw[e]at htk ⊢;dsimp only at htk ⊢;rw[(qcW (xG src)).1]at htk;rw[(qcW (xG src)).2.2];exact(qo4 hm).resolve_left λh=>h.elim (λh=>h he) (λh=>o_)

variable {g:Grammar}
theorem qoy(hg:GOk g){y:Int}(h:0<=nxt g y):(y % 16)<8:=by
 unfold nxt at h;cases hp:g.prods[(y / 16).toNat]? with
 |none=>rw[hp]at h;simp at h
 | some p=>
   rw[hp,Option.bind_some]at h;cases hr:p.right[(y % 16).toNat]? with
   |none=>rw[hr]at h;simp at h
   | some s=>
     have h1:=(List.getElem?_eq_some_iff.1 hr).1;have h2:=hg.rlen p (List.mem_of_getElem? hp);omega
variable {k:List Int} {s x:Int}
theorem qhw(hg:GOk g)(hx:x∈QW g k s):x % 16≠0:=by
 have:=(qh5 (λy=>decide (0<=nxt g y/\nxt g y=s)) (λy=>y+1) (qK g k) []).1 x;simp only[decide_eq_true_eq]at this;rcases this.1 hx with h|⟨y,_,⟨h0,_⟩,e⟩
 . cases h
 . have:=qoy hg h0;omega
def qdw(m:List Sta):Prop:= ∀q∈m,∀x∈q.ker,x % 16=0->x=0
variable {i:Nat}
theorem KC{m:List Sta}{t:Int}(h:qdw m):qdw (zC m i s t):=by
 intro q hq;unfold zC at hq;obtain ⟨j,hj⟩:=List.getElem?_of_mem hq;rw[List.getElem?_modify]at hj;cases hm:m[j]? with
 |none=>rw[hm]at hj;cases hj
 | some q0=>
   rw[hm]at hj;have h0:=h q0 (List.mem_of_getElem? hm);by_cases e:i=j
   . simp[e]at hj;subst hj;exact h0
   . simp[e]at hj;subst hj;exact h0
theorem qgU(hg:GOk g){A:List Int}{m m':List Sta}(h0:qdw m)(h:jl g i A (some m) s=some m'):qdw m':=by
 unfold jl at h;simp only[Option.bind_some]at h;split at h
 . split at h
   . split at h
     . cases h
     . cases h;refine KC λq hq=>?_;rcases List.mem_append.1 hq with hq|hq
       . exact h0 q hq
       . rw[List.mem_singleton]at hq;subst hq;exact λx hx e=>absurd e (qhw hg hx)
   . cases h;exact KC h0
 . cases h;exact h0
theorem qaZ{g:Grammar}(hg:GOk g){i:Nat}{A:List Int}:∀(r:List Int) (m m':List Sta),qdw m->r.foldl (jl g i A) (some m)=some m'->qdw m'
 |[],m,m',h0,h=>by cases h;exact h0
 | s ::r,m,m',h0,h=>by
   rw[List.foldl_cons]at h;cases h1:jl g i A (some m) s with
   |none=>rw[h1,yc]at h;cases h
   | some m1=>
     rw[h1]at h;exact qaZ hg r m1 m' (qgU hg h0 h1) h
theorem qbY{g:Grammar}(hg:GOk g):∀(n:Nat) (m:List Sta) (i:Nat) (m':List Sta),qdw m->Qu g n m i=some m'->qdw m'
 |0,m,i,m',h0,h=>by cases h;exact h0
 | n + 1,m,i,m',h0,h=>by
   unfold Qu at h;by_cases hi:i<m.length
   . rw[if_pos hi]at h;cases h1:(zB g).foldl (jl g i (yT g (qK g (za m i)))) (some m)with
     |none=>rw[h1]at h;cases h
     | some m1=>
       rw[h1]at h;exact qbY hg n m1 (i+1) m' (qaZ hg _ m m1 h0 h1) h
   . rw[if_neg hi]at h;cases h;exact h0
theorem qeF(hg:GOk g){m:List Sta}(h:Zr g=some m):qdw m:=
 qbY hg 151 _ 0 m (λq hq x hx _=>by rw[List.mem_singleton]at hq;subst hq;simpa using hx) h
theorem qdw.k0(hg:GOk g){m:List Sta}(h:qdw m):∀q∈m,∀(n:Nat) p,g.prods[n]?=some p->16 *(n:Int)∈q.ker->p.left=0:=λq hq n p hp hx=>by
 have h0:=h q hq _ hx o_
 have:n=0:=o_
 subst this;obtain ⟨p0,r,e,h1,_⟩:=hg.head;rw[e]at hp;cases hp;exact h1
theorem qeY{src:Source}(h:YN src=true):∀x,nxt (jC src) x≠1000:=λx e=>by
 have hr:=qf1 h;unfold nxt at e;cases hp:(jC src).prods[(x / 16).toNat]? with
 |none=>rw[hp]at e;simp at e
 | some p=>
   rw[hp,Option.bind_some]at e;cases hs:p.right[(x % 16).toNat]? with
   |none=>rw[hs]at e;simp at e
   | some s=>
     rw[hs,Option.getD_some]at e;exact(hr p (List.mem_of_getElem? hp) s (List.mem_of_getElem? hs)).2.2 e

def Zx(g:Grammar)(C:List Int)(s:Int):List Int:=(C.filter λx=>decide (0<=nxt g x/\nxt g x=s)).map (· +1)
variable {C:List Int}
theorem qer:Zx g (x::C) s=(if 0<=nxt g x/\nxt g x=s then[x+1]else[])++Zx g C s:=by
 unfold Zx;by_cases hc:0<=nxt g x/\nxt g x=s
 . rw[if_pos hc,List.filter_cons,if_pos (decide_eq_true hc)];rfl
 . rw[if_neg hc,List.filter_cons,if_neg (by simpa using hc)];rfl
theorem qg6{g:Grammar}{s:Int}:∀(C a:List Int),jq (a++Zx g C s)->C.foldl (λo x=>if 0<=nxt g x/\nxt g x=s then xw o (x+1)else o) a=a++Zx g C s
 |[],a,_=>by simp[Zx]
 | x ::C,a,h=>by
   rw[qer]at h ⊢;rw[List.foldl_cons];by_cases hc:0<=nxt g x/\nxt g x=s
   . rw[if_pos hc]at h ⊢;rw[if_pos hc,qbE (h.sublist (List.Sublist.append_left (List.Sublist.cons_cons _ (List.nil_sublist _)) _)),qg6 C _ (by rw[List.append_assoc];exact h),List.append_assoc]
   . rw[if_neg hc]at h ⊢;rw[if_neg hc,List.nil_append];exact qg6 C a h
theorem qkg(h:jq C):jq (Zx g C s):=by unfold Zx jq;rw[List.pairwise_map];exact(h.filter _).imp λh=>o_
theorem qhF(g:Grammar)(C:List Int)(s:Int):(Zx g C s).length<=C.length:=by unfold Zx;rw[List.length_map];exact List.length_filter_le _ _
theorem qj0(g:Grammar)(s:Int){c:List Int}(h:c[i]?=some x):Zx g (c.take (i+1)) s=Zx g (c.take i) s++(if 0<=nxt g x/\nxt g x=s then[x+1]else[]):=by unfold Zx;rw[List.take_add_one,h,List.filter_append,List.map_append];congr 1;exact(qer (g:=g) (C:=[]) (s:=s) (x:=x)).trans (List.append_nil _)
theorem qhK(h:jq (qK g k)):QW g k s=Zx g (qK g k) s:=by unfold QW;rw[qg6 _ _ (by rw[List.nil_append];exact qkg h),List.nil_append]
theorem qgT(h0:0<=s):s∈yT g (qK g k)↔Zx g (qK g k) s≠[]:=by
 have h:=QK (g:=g) (k:=k) (s:=s);rw[show yT g (qK g k)=Xi g k from rfl,h];constructor
 . rintro ⟨x,h1,h2,_⟩ e;unfold Zx at e;rw[List.map_eq_nil_iff,List.filter_eq_nil_iff]at e;exact e x h1 (decide_eq_true ⟨o_,h2⟩)
 . intro hn;obtain ⟨y,hy⟩:=List.exists_mem_of_ne_nil _ hn;unfold Zx at hy;obtain ⟨x,hx,_⟩:=List.mem_map.1 hy;rw[List.mem_filter,decide_eq_true_eq]at hx;exact⟨x,hx.1,hx.2.2,h0⟩
theorem qhA{m:List Sta}(hk:za m i=k)(hr:jq (qK g k))(h0:0<=s):
 jl g i (yT g (qK g k)) (some m) s=if Zx g (qK g k) s=[]then some m else if yM m (Zx g (qK g k) s)<0 then(if m.length=150 then none else some (zC (m++[⟨Zx g (qK g k) s,[]⟩]) i s m.length))else some (zC m i s (yM m (Zx g (qK g k) s))):=by
 have e:jl g i (yT g (qK g k)) (some m) s=if s∈yT g (qK g k)then(if yM m (QW g k s)<0 then(if m.length=150 then none else some (zC (m++[⟨QW g k s,[]⟩]) i s m.length))else some (zC m i s (yM m (QW g k s))))else some m:=by rw[<- hk];rfl
 rw[e,qhK hr];by_cases hc:s∈yT g (qK g k)
 . rw[if_pos hc,if_neg ((qgT h0).1 hc)]
 . have:Zx g (qK g k) s=[]:=Classical.byContradiction λhn=>hc ((qgT h0).2 hn)
   rw[if_neg hc,if_pos this]
theorem qeX{a b:Nat}(h:vW a b s):0<=s:=by rcases h with ⟨k,e,_⟩|⟨k,e,_⟩<;>omega
theorem qwj{l:List Int}(hg:GOk g)(hx:∀x∈l,Qx g x)(hr:jq l):jq (Zx g (qK g l) s)/\(∀x∈Zx g (qK g l) s,Qx g x)/\∀x∈Zx g (qK g l) s,x % 16=0->x=0:=by have h:=zK hg hx hr;have e:=qhK (s:=s) h.1.rise;obtain ⟨h1,h2⟩:=qdb (s:=s) hg hx hr;exact⟨by rw[<- e];exact h1,by rw[<- e];exact h2,λx hx e2=>absurd e2 (qhw hg (by rw[e];exact hx))⟩
variable {q:Sta}
theorem qh6{m:List Sta}{n:Nat}(h:m[i]?=some q):QS k (m.drop i) n=if q.ker=k then(n:Int)else QS k (m.drop (i+1)) (n+1):=by have hi:=List.getElem?_eq_some_iff.1 h;rw[List.drop_eq_getElem_cons hi.1,hi.2];rfl
theorem Ky{m:List Sta}{j:Nat}{t:Int}:za (zC m i s t) j=za m j:=by
 unfold za zC;rw[List.getElem?_modify];cases m[j]? with
 |none=>rfl
 |some q=>by_cases e:i=j<;>simp[e]
theorem qkd{m:List Sta}{j:Nat}(h:j<m.length):za (m++[q]) j=za m j:=by unfold za;rw[List.getElem?_append_left h]

theorem qbq(hg:GOk g):Pure Tryz.prog 71 [g.V] (.sl 1 false ((zB g).map (V.int .i64))):=by
 refine pure_intro Tryz.func71 nm_ quN (by show 1<=30;decide) ?_
 show ewp _ qrK _ _;have htl:=hg.tk2;have hnl:=hg.nn2;have hdef:zB g=(List.range g.toks.length).map (λ(i:Nat)=>(i:Int))++(List.range g.nons.length).map λ(i:Nat)=>1000+(i:Int):=rfl;rw[hdef];repeat' with_reducible first|refine s_ ?_|simp -implicitDefEqProofs only[wZZ,seval]|refine t_ ?_
 refine qb ?nx1 (λ(i:Nat) s=>s.f 1=?v1_1/\s.f 8=?v1_8/\s.H 0=some (.own 5 [g.V] false)/\(∃v,s.f 3=v/\Gr s.H s.next 1 (((List.range i).map (λ(i:Nat)=>(i:Int))).map (V.int .i64)) v)/\s.f 9=vi i/\(i<=g.toks.length)) (λi=>g.toks.length - i) (0) wj_ (by refine⟨?_,?_,?_,?_,?_,wo_⟩<;>first|(simp -implicitDefEqProofs only[wL,wM,wN,wX,seval,Option.some.injEq]<;>exact wt_)|rfl|exact⟨_,rfl⟩) ?_;intro i s hnx ⟨g1,g8,o0,⟨v3,g3,G3⟩,g9,k1_0⟩;have hz:=w1_ i;by_cases hi:i<g.toks.length
 . have hst:(List.range (i+1)).map (λ(i:Nat)=>(i:Int))=(List.range i).map (λ(i:Nat)=>(i:Int))++[(i:Int)]:=(by rw[List.range_succ,List.map_append];rfl);have hlr:((List.range i).map (λ(i:Nat)=>(i:Int))).length=i:=(by simp);repeat' with_reducible first|refine s_ ?_|simp -implicitDefEqProofs only[wZZ,seval,g1,g8,g3,g9,o0,Gr.dropO G3 o0,hz,G3.len]|apply qa<;>intro h h_<;>(try simp only[wD,reduceCtorEq]at h_)<;>(try exact wb_)<;>(try simp only[h])|apply zq rfl (G3.mono (Nat.le_refl _) (λid h1 h2=>by(try simp only[wM]);(repeat rw[if_neg o_])));(focus(first|exact qY.sl|exact qY.asl));(focus(simp only[wZ,hlr];omega));(focus(unfold maxLen;simp only[wZ,hlr];omega))
   refine⟨wk_,i+1,o_,?_⟩;refine⟨?_,?_,?_,?_,?_,?_⟩;iterate 5 (focus(first|(simp -implicitDefEqProofs only[wL,wM,wN,wX,seval,Option.some.injEq,g1,g8,g3,g9,o0,Gr.dropO G3 o0,hst]<;>first|rfl|exact⟨_,rfl⟩|exact⟨_,rfl,by first|assumption|exact Gr.nil|exact Gr.tok rfl o_|exact Gr.tok (by simp -implicitDefEqProofs only[wM,seval]<;>rfl) o_|exact Gr.clip|exact G3.to fs_ o_ rfl|exact G3.mono' fs_ o_ (λj hj hl=>by(try simp only[wM,jo]);repeat(first|rfl|rw[if_neg o_]))⟩)|rfl|exact⟨_,rfl⟩|exact⟨_,rfl,by first|assumption|exact G3.to fs_ o_ rfl|exact G3.mono' fs_ o_ (λj hj hl=>by(try simp only[wM,jo]);repeat(first|rfl|rw[if_neg o_]))⟩))
   all_goals try omega
 . have e:i=g.toks.length:=o_;subst e;repeat' with_reducible first|refine s_ ?_|simp -implicitDefEqProofs only[wZZ,seval,g1,g8,g3,g9,o0,Gr.dropO G3 o0,hz,G3.len]|refine t_ ?_
   refine qb ?nx2 (λ(j:Nat) s=>s.f 19=?v2_19/\s.H 0=some (.own 5 [g.V] false)/\(∃v,s.f 3=v/\Gr s.H s.next 1 (((List.range g.toks.length).map (λ(i:Nat)=>(i:Int))++(List.range j).map λ(i:Nat)=>1000+(i:Int)).map (V.int .i64)) v)/\s.f 20=vi j/\(j<=g.nons.length)) (λj=>g.nons.length - j) (0) wj_ (by refine⟨?_,?_,?_,?_,wo_⟩<;>first|(simp -implicitDefEqProofs only[wL,wM,wN,wX,seval,Option.some.injEq,g1,g8,g3,g9,o0,Gr.dropO G3 o0]<;>first|rfl|exact⟨_,rfl⟩|exact⟨_,rfl,by first|assumption|exact Gr.nil|exact Gr.tok rfl o_|exact Gr.tok (by simp -implicitDefEqProofs only[wM,seval]<;>rfl) o_|exact Gr.clip|exact G3.to fs_ o_ rfl|exact G3.mono' fs_ o_ (λj hj hl=>by(try simp only[wM,jo]);repeat(first|rfl|rw[if_neg o_]))⟩)|rfl|exact⟨_,rfl⟩|exact⟨_,rfl,by first|assumption|exact G3.to fs_ o_ rfl|exact G3.mono' fs_ o_ (λj hj hl=>by(try simp only[wM,jo]);repeat(first|rfl|rw[if_neg o_]))⟩) ?_;intro j s hnx ⟨g19,o0,⟨v3,g3,G3⟩,g20,k2_0⟩;have hzj:=w1_ j;have hzk:IntKind.i64.wrap (1000+(j:Int))=1000+(j:Int):=wrap64 o_ o_;by_cases hj:j<g.nons.length
   . have hst:(List.range g.toks.length).map (λ(i:Nat)=>(i:Int))++(List.range (j+1)).map (λ(i:Nat)=>1000+(i:Int))=((List.range g.toks.length).map (λ(i:Nat)=>(i:Int))++(List.range j).map λ(i:Nat)=>1000+(i:Int))++[1000+(j:Int)]:=(by rw[List.range_succ,List.map_append,List.append_assoc];rfl);have hlr:((List.range g.toks.length).map (λ(i:Nat)=>(i:Int))++(List.range j).map λ(i:Nat)=>1000+(i:Int)).length=g.toks.length+j:=(by simp);repeat' with_reducible first|refine s_ ?_|simp -implicitDefEqProofs only[wZZ,seval,g19,g3,g20,o0,Gr.dropO G3 o0,hzj,hzk,G3.len]|apply qa<;>intro h h_<;>(try simp only[wD,reduceCtorEq]at h_)<;>(try exact wb_)<;>(try simp only[h])|apply zq rfl (G3.mono (Nat.le_refl _) (λid h1 h2=>by(try simp only[wM]);(repeat rw[if_neg o_])));(focus(first|exact qY.sl|exact qY.asl));(focus(simp only[wZ,hlr];omega));(focus(unfold maxLen;simp only[wZ,hlr];omega))
     refine⟨wk_,j+1,o_,?_⟩;refine⟨?_,?_,?_,?_,?_⟩;iterate 4 (focus(first|(simp -implicitDefEqProofs only[wL,wM,wN,wX,seval,Option.some.injEq,g19,g3,g20,o0,Gr.dropO G3 o0,hst]<;>first|rfl|exact⟨_,rfl⟩|exact⟨_,rfl,by first|assumption|exact Gr.nil|exact Gr.tok rfl o_|exact Gr.tok (by simp -implicitDefEqProofs only[wM,seval]<;>rfl) o_|exact Gr.clip|exact G3.to fs_ o_ rfl|exact G3.mono' fs_ o_ (λj hj hl=>by(try simp only[wM,jo]);repeat(first|rfl|rw[if_neg o_]))⟩)|rfl|exact⟨_,rfl⟩|exact⟨_,rfl,by first|assumption|exact G3.to fs_ o_ rfl|exact G3.mono' fs_ o_ (λj hj hl=>by(try simp only[wM,jo]);repeat(first|rfl|rw[if_neg o_]))⟩))
     all_goals try omega
   . have e:j=g.nons.length:=o_;subst e;repeat' with_reducible first|refine s_ ?_|simp -implicitDefEqProofs only[wZZ,seval,g19,g3,g20,o0,Gr.dropO G3 o0,G3.len]
     all_goals refine qz rfl (Or.inr rfl) ?_
     all_goals(try simp -implicitDefEqProofs only[wL,seval,g19,g3,g20])
     all_goals(first|refine er_ ?_ |refine G3.er ?_)
     all_goals(try(with_reducible rfl))
theorem qdH{sy:Int}(hg:GOk g)(hok:∀x∈C,Qx g x)(hlen:C.length<=960):Pure Tryz.prog 73 [g.V,.sl 2 false (C.map itV),vi sy] (.sl 2 false ((Zx g C sy).map itV)):=by
 refine pure_intro Tryz.func73 nm_ qtH (by show 3<=38;decide) ?_
 show ewp _ qvf _ _;have het:=λi x h=>qj0 g sy (c:=C) (i:=i) (x:=x) h;have hpl:=hg.pl2;have hrl:=hg.rlen;repeat' with_reducible first|refine s_ ?_|simp -implicitDefEqProofs only[wZZ,seval]|refine t_ ?_
 refine qb ?nx1 (λ(i:Nat) s=>s.f 2=?v1_2/\s.f 3=?v1_3/\s.f 11=?v1_11/\s.f 12=?v1_12/\s.H 0=some (.own 5 [g.V] false)/\(∃v,s.f 7=v/\Gr s.H s.next 2 ((Zx g (C.take i) sy).map itV) v)/\s.f 13=vi i/\(i<=C.length)) (λi=>C.length - i) (0) wj_ (by refine⟨?_,?_,?_,?_,?_,?_,?_,wo_⟩<;>first|(simp -implicitDefEqProofs only[wL,wM,wN,wX,seval,Option.some.injEq]<;>exact wt_)|rfl|exact⟨_,rfl⟩) ?_;intro i s hnx ⟨g2,g3,g11,g12,o0,⟨v7,g7,G7⟩,g13,k1_0⟩;have hz:=w1_ i;have hUl:(Zx g (C.take i) sy).length<=960:=Nat.le_trans (qhF _ _ _) (by rw[List.length_take];omega);by_cases hi:i<C.length
 . have hgi:C[i]?=some C[i]:=ge_ hi;have hst:=het _ _ hgi;have hxo:=hok _ (List.getElem_mem hi);have hnx:=KS hxo hpl hrl;have hin:=qdF hrl hxo;generalize C[i]=x at *;generalize Zx g (C.take i) sy=U at *;generalize nxt g x=nx at *;have hzd:IntKind.i64.wrap (x % 16+1)=x % 16+1:=wrap64 o_ o_;have hkv:itV (x+1)=.agg [vi (x / 16),vi (x % 16+1)]:=(by rw[<- hin.1,<- hin.2.1]);by_cases hc:0<=nx/\nx=sy
   . rw[if_pos hc]at hst;repeat' with_reducible first|refine s_ ?_|simp -implicitDefEqProofs only[wZZ,seval,g2,g3,g11,g12,g7,g13,o0,Gr.dropO G7 o0,hz,hzd,G7.len]|(first|apply qa|apply qA|apply qB)<;>intro h h_<;>(try simp only[wD,reduceCtorEq]at h_)<;>(try exact wb_)<;>(try simp only[h])|apply zq rfl (G7.mono (Nat.le_refl _) (λid h1 h2=>by(try simp only[wM]);(repeat rw[if_neg o_])));(focus(first|exact qY.sl|exact qY.asl));(focus(simp only[wZ,hz];omega));(focus(unfold maxLen;simp only[wZ,hz];omega))|refine t_ ?_|refine cq2 hnx qd qd ?_
     exact⟨wg_,i+1,o_,trivial,trivial,trivial,trivial,(G7.mono (Nat.le_refl _) (λj h1 h2=>hh_)).dropO (by((try simp only[wM]);(repeat first|rw[if_pos trivial]|rw[if_pos rfl]|rw[if_neg o_]));exact o0),⟨_,rfl,by rw[hst,List.map_append,List.map_cons,hkv,List.map_nil];exact Gr.tok (fin:=U.length+1) hh_ wg_⟩,rfl,o_⟩
   . rw[if_neg hc,List.append_nil]at hst;repeat' with_reducible first|refine s_ ?_|simp -implicitDefEqProofs only[wZZ,seval,g2,g3,g11,g12,g7,g13,o0,Gr.dropO G7 o0,hz,hzd,G7.len]|(first|apply qa|apply qA|apply qB)<;>intro h h_<;>(try simp only[wD,reduceCtorEq]at h_)<;>(try exact wb_)<;>(try simp only[h])|refine t_ ?_|refine cq2 hnx qd qd ?_
     all_goals exact⟨wg_,i+1,o_,trivial,trivial,trivial,trivial,trivial,⟨v7,rfl,by rw[hst];exact G7.mono wg_ (λj h1 h2=>hh_)⟩,rfl,o_⟩
 . have e:C.take i=C:=List.take_of_length_le o_;rw[e]at G7;repeat' with_reducible first|refine s_ ?_|simp -implicitDefEqProofs only[wZZ,seval,g2,g3,g11,g12,g7,g13,o0,Gr.dropO G7 o0,hz,G7.len]|apply qa<;>intro h h_<;>(try simp only[wD,reduceCtorEq]at h_)<;>(try exact wb_)<;>(try simp only[h])
   refine qz rfl (Or.inr rfl) ?_;(simp -implicitDefEqProofs only[wL,seval]);exact G7.er rfl
variable {L:List Int}
theorem qvo{H:Nat->Option MObj}{next:Nat}(h0:0<L.length)(hl:L.length<=1000000):zh Tryz.prog 111 [.sl 2 false (L.map itV)] H next (λv H' n'=>next<=n'/\(∃id,v=.msl id 2 0 L.length/\H' id=some (.own 2 (L.map itV) false)/\next<=id/\id<n')/\∀j,j<next->H' j=H j):=by
 refine zb Tryz.func111 nm_ qog (by show 1<=8;decide) ?_
 show ewp _ qw8 _ _;repeat' with_reducible first|refine s_ ?_|simp -implicitDefEqProofs only[wZZ,seval,qkw]|(refine qxo (n:=L.length) (by simp[qcS]) h0 ?_)
 refine qam (base:=next) (next:=0) (xs:=[]) rfl (Or.inl ⟨rfl,rfl⟩) rfl qY.sl so_ (by unfold maxLen;simp;omega) ?_;intro H1 q1 q2;repeat' with_reducible first|refine vJ ?_|simp -implicitDefEqProofs only[wZZ,seval]
 exact JU (t:=2) rfl (Or.inr rfl) ⟨wg_,⟨next+1+2+2,(by(simp -implicitDefEqProofs only[wL,seval])),q1,o_,wg_⟩,λj hj=>q2 j o_ o_⟩
theorem xI{a b:List Int}(ha:a.length<=1000000)(hb:b.length<=1000000):Pure Tryz.prog 114 [.sl 2 false (a.map itV),.sl 2 false (b.map itV)] (.bool (decide (a=b))):=by
 refine pure_intro Tryz.func114 nm_ qp6 (by show 2<=26;decide) ?_
 show ewp _ qiX _ _;by_cases hl:a.length=b.length
 . repeat' with_reducible first|refine s_ ?_|simp -implicitDefEqProofs only[wZZ,seval]|apply qa<;>intro h h_<;>(try simp only[wD,reduceCtorEq]at h_)<;>(try exact wb_)<;>(try simp only[h])
   refine qb ?nx1 (λ(k:Nat) s=>s.f 0=?v1_0/\s.f 1=?v1_1/\s.f 12=?v1_12/\s.f 13=vi k/\(k<=a.length)/\(∀i,i<k->a[i]?=b[i]?)) (λk=>a.length - k) (0) wj_ (by refine⟨?_,?_,?_,?_,wo_,wo_⟩<;>first|(simp -implicitDefEqProofs only[wL,wM,wN,wX,seval,Option.some.injEq]<;>exact wt_)|rfl|exact⟨_,rfl⟩) ?_;intro k s hnx ⟨g0,g1,g12,g13,k1_0,k1_1⟩;have hz:=w1_ k;by_cases hk:k<a.length
   . have hga:a[k]?=some a[k]:=ge_ hk;have hgb:b[k]?=some b[k]:=ge_ o_;by_cases he:a[k]=b[k]
     . have hn:∀i,i<k+1->a[i]?=b[i]?:=λi hi=>by
        by_cases e:i=k
        . subst e;rw[hga,hgb,he]
        . exact k1_1 i o_
       have hed:(decide (a[k]=b[k]) != true)=false:=(by rw[decide_eq_true he];rfl);repeat' with_reducible first|refine s_ ?_|simp -implicitDefEqProofs only[wZZ,seval,g0,g1,g12,g13,hz,hed]|apply qa<;>intro h h_<;>(try simp only[wD,reduceCtorEq]at h_)<;>(try exact wb_)<;>(try simp only[h])|refine t_ ?_|(refine qjV ?_)
       refine⟨wk_,k+1,o_,?_⟩;refine⟨?_,?_,?_,?_,?_,?_⟩;iterate 4 (focus(first|(simp -implicitDefEqProofs only[wL,wM,wN,wX,seval,Option.some.injEq,g0,g1,g12,g13]<;>exact wt_)|rfl|exact⟨_,rfl⟩))
       all_goals try omega
     . have hne:a≠b:=λe=>he (by subst e;rfl);rw[decide_eq_false hne];have hed:(decide (a[k]=b[k]) != true)=true:=(by rw[decide_eq_false he];rfl);repeat' with_reducible first|refine s_ ?_|simp -implicitDefEqProofs only[wZZ,seval,g0,g1,g12,g13,hz,hed]|apply qa<;>intro h h_<;>(try simp only[wD,reduceCtorEq]at h_)<;>(try exact wb_)<;>(try simp only[h])|refine t_ ?_|(refine qjV ?_)
       all_goals refine qz rfl (Or.inr rfl) ?_
       all_goals(try simp -implicitDefEqProofs only[wL,seval,g0,g1,g12,g13])
       all_goals refine er_ ?_
       all_goals(try(with_reducible rfl))
   . have e:a=b:=List.ext_getElem? λi=>by
      by_cases hi:i<k
      . exact k1_1 i hi
      . rw[List.getElem?_eq_none o_,List.getElem?_eq_none o_]
     rw[decide_eq_true e];repeat' with_reducible first|refine s_ ?_|simp -implicitDefEqProofs only[wZZ,seval,g0,g1,g12,g13]|apply qa<;>intro h h_<;>(try simp only[wD,reduceCtorEq]at h_)<;>(try exact wb_)<;>(try simp only[h])
     all_goals refine qz rfl (Or.inr rfl) ?_
     all_goals(try simp -implicitDefEqProofs only[wL,seval,g0,g1,g12,g13])
     all_goals refine er_ ?_
     all_goals(try(with_reducible rfl))
 . have hne:a≠b:=λe=>hl (by rw[e]);rw[decide_eq_false hne]
   skip
   repeat' with_reducible first|refine s_ ?_|simp -implicitDefEqProofs only[wZZ,seval]|apply qa<;>intro h h_<;>(try simp only[wD,reduceCtorEq]at h_)<;>(try exact wb_)<;>(try simp only[h])
   all_goals refine qz rfl (Or.inr rfl) ?_
   all_goals(try simp -implicitDefEqProofs only[wL,seval])
   all_goals refine er_ ?_
   all_goals(try(with_reducible rfl))
theorem qde(hk:k.length<=1000000)(hq:q.ker.length<=1000000):Pure Tryz.prog 113 [q.V,.iptr 1 (.sl 2 false (k.map itV)) 0] (.bool (decide (q.ker=k))):=by
 refine pure_intro Tryz.func113 nm_ qmU (by show 2<=8;decide) ?_
 show ewp _ qxr _ _;have he:=xI hq hk;obtain ⟨qk,qm⟩:=q;dsimp only at he;dsimp only;repeat' with_reducible first|refine s_ ?_|simp -implicitDefEqProofs only[wZZ,seval]|refine cq2 he qd qd ?_|refine t_ ?_
 all_goals refine qz rfl (Or.inr rfl) ?_
 all_goals(try simp -implicitDefEqProofs only[wL,seval])
 all_goals refine er_ ?_
 all_goals(try(with_reducible rfl))
theorem jF{m:List Sta}(hm:m.length<=1000000)(hk:k.length<=1000000)(hq:∀q∈m,q.ker.length<=1000000):Pure Tryz.prog 112 [.sl 2 false (m.map Sta.V),.fn 113 [.iptr 1 (.sl 2 false (k.map itV)) 0]] (vi (yM m k)):=by
 refine pure_intro Tryz.func112 nm_ qnW (by show 2<=19;decide) ?_
 show ewp _ qm5 _ _;repeat' with_reducible first|refine s_ ?_|simp -implicitDefEqProofs only[wZZ,seval]
 refine qb ?nx1 (λ(i:Nat) s=>s.f 0=?v1_0/\s.f 1=?v1_1/\s.f 7=?v1_7/\s.f 8=vi i/\(i<=m.length)/\(yM m k=QS k (m.drop i) i)) (λi=>m.length - i) (0) wj_ (by refine⟨?_,?_,?_,?_,wo_,(by rfl)⟩<;>first|(simp -implicitDefEqProofs only[wL,wM,wN,wX,seval,Option.some.injEq]<;>exact wt_)|rfl|exact⟨_,rfl⟩) ?_;intro i s hnx ⟨g0,g1,g7,g8,k1_0,k1_1⟩;have hz:=w1_ i;by_cases hi:i<m.length
 . have hgi:m[i]?=some m[i]:=ge_ hi;have hst:=qh6 (k:=k) (n:=i) hgi;have hpx:=qde (q:=m[i]) hk (hq _ (List.getElem_mem hi));generalize m[i]=q at *;repeat' with_reducible first|refine s_ ?_|simp -implicitDefEqProofs only[wZZ,seval,g0,g1,g7,g8,hz]|apply qa<;>intro h h_<;>(try simp only[wD,reduceCtorEq]at h_)<;>(try exact wb_)<;>(try simp only[h])|refine t_ ?_
   refine qiA (fid:=113) (caps:=[.iptr 1 (.sl 2 false (k.map itV)) 0]) (as':=[q.V,.iptr 1 (.sl 2 false (k.map itV)) 0]) rfl rfl rfl (qI (qd:Er _ _ q.V q.V) (qI (.iptr _ _ _ _ qd) ji)) hpx (Flat.bool _) ?_;by_cases hc:q.ker=k
   . rw[decide_eq_true hc];rw[if_pos hc]at hst;rw[k1_1,hst];repeat' with_reducible first|refine s_ ?_|simp -implicitDefEqProofs only[wZZ,seval,g0,g1,g7,g8,hz]
     all_goals refine qz rfl (Or.inr rfl) ?_
     all_goals(try simp -implicitDefEqProofs only[wL,seval,g0,g1,g7,g8])
     all_goals refine er_ ?_
     all_goals(try(with_reducible rfl))
   . rw[decide_eq_false hc];rw[if_neg hc]at hst;repeat' with_reducible first|refine s_ ?_|simp -implicitDefEqProofs only[wZZ,seval,g0,g1,g7,g8,hz]
     refine⟨wk_,i+1,o_,?_⟩;refine⟨?_,?_,?_,?_,?_,?_⟩;iterate 4 (focus(first|(simp -implicitDefEqProofs only[wL,wM,wN,wX,seval,Option.some.injEq,g0,g1,g7,g8]<;>exact wt_)|rfl|exact⟨_,rfl⟩))
     all_goals try omega
 . have e:m.drop i=[]:=List.drop_of_length_le o_;rw[e]at k1_1;rw[k1_1];repeat' with_reducible first|refine s_ ?_|simp -implicitDefEqProofs only[wZZ,seval,g0,g1,g7,g8,hz]|apply qa<;>intro h h_<;>(try simp only[wD,reduceCtorEq]at h_)<;>(try exact wb_)<;>(try simp only[h])
   all_goals refine qz rfl (Or.inr rfl) ?_
   all_goals(try simp -implicitDefEqProofs only[wL,seval,g0,g1,g7,g8])
   all_goals refine er_ ?_
   all_goals(try(with_reducible rfl))
   all_goals rfl
theorem qAg{id:Nat}{s:St}{K:V->St->Prop}(hH:s.H i=some (.own 2 (L.map itV) false))(h0:0<L.length)(hr:jq L)(hl:L.length<=1000000)(hk:K (.tup []) s):yL Tryz.prog .any id s K 108 [.msl i 2 0 L.length,.fn 109 []]:=by
 obtain ⟨L',hp,hs,hE⟩:=Kq (next:=s.next) hH h0 o_;have hn:L'.Nodup:=hp.nodup_iff.2 (hr.imp λh e=>o_);have hr':jq L':=(hs.and hn).imp λ⟨a,b⟩=>o_
 have e:L'=L:=vw hr' hr λx=>hp.mem_iff;subst e;refine qcx rfl (hE.mono ?_);rintro v H' n' ⟨rfl,rfl,h2,h3⟩;have e:H'=s.H:=by
  funext j;by_cases hj:j=i
  . subst hj;rw[h2,hH]
  . exact h3 j hj
 subst e;exact hk
theorem qz5{id:Nat}{s:St}{K:V->St->Prop}(hH:s.H i=some (.own 2 (L.map itV) false))(hr:jq L)(hl:L.length<=1000000)(hk:∀H',(∀j,j≠i->H' j=s.H j)->K (.sl 2 false (L.map itV)) {s with H:=H'}):yL Tryz.prog .any id s K 110 [.msl i 2 0 L.length]:=by
 have hh:rsH (λj=>decide (j=i)) s.H i=some (.own 2 (L.map itV) false):=by unfold rsH;rw[if_pos (by simp)];exact hH
 refine qcx rfl ((xq (λj=>decide (j=i)) (qI (qd9 hh rfl) ji) (qW (L:=L) hr o_)).mono ?_);rintro v H' n' ⟨rfl,rfl,rfl⟩;refine hk _ λj hj=>?_;unfold frH;rw[if_neg (by simpa using hj)]
theorem qh3{m:List Sta}(h0:0<k.length)(hr:jq k)(hm:m.length<=1000000)(hk:k.length<=1000000)(hq:∀q∈m,q.ker.length<=1000000):Pure Tryz.prog 74 [.sl 2 false (m.map Sta.V),.sl 2 false (k.map itV)] (vi (yM m k)):=by
 refine pure_intro Tryz.func74 nm_ qwl (by show 2<=15;decide) ?_
 show ewp _ qy1 _ _;have hix:=jF hm hk hq;have hcm:=qW (L:=k) hr o_;repeat' with_reducible first|refine qL ?_|simp -implicitDefEqProofs only[wZZ,seval]|(refine qR rfl rfl rfl ((qvo h0 hk).mono ?_);rintro v1 H1 n1 ⟨q1,⟨id,rfl,q2,q3,q4⟩,q5⟩)|apply Vw;exact wu_|apply qc8;exact wu_;exact wu_;exact wu_
 (try simp only[wN]at q1 q3 q4);repeat' with_reducible first|refine qL ?_|simp -implicitDefEqProofs only[wZZ,seval]|(refine qAg (by((try simp only[wM]);(repeat first|rw[if_pos trivial]|rw[if_pos rfl]|rw[if_neg o_]));exact q2) h0 hr hk ?_)|(refine qz5 (by((try simp only[wM]);(repeat first|rw[if_pos trivial]|rw[if_pos rfl]|rw[if_neg o_]));exact q2) hr hk ?_)|apply Vw;exact wu_|simp -implicitDefEqProofs (disch:=omega) only[w64,if_neg]
 intro H2 h2;have hb:H2 3=_:=(h2 3 o_).trans hh_;repeat' with_reducible first|refine qL ?_|simp -implicitDefEqProofs only[wZZ,seval,hb]|apply qc8;exact wu_;exact wu_;exact wu_
 refine qM (hp:=hix) qd (qi9 (.cons (.ptr 3 0 0 1 [V.sl 2 false (k.map itV)] false (.sl 2 false (k.map itV)) _ rfl rfl rfl qd) .nil)) wu_ (Flat.int _ _) ?_;repeat' with_reducible first|refine vJ ?_
 all_goals refine qz rfl (Or.inr rfl) ?_
 all_goals(try simp -implicitDefEqProofs only[wL,seval])
 all_goals refine er_ ?_
 all_goals(try(with_reducible rfl))

set_option maxHeartbeats 8000000
theorem qm8(hg:GOk g)(h1000:∀x,nxt g x≠1000):Pure Tryz.prog 35 [g.V] (qqW (Zr g)):=by
 refine pure_intro Tryz.func35 nm_ qwz (by show 1<=74;decide) ?_
 show ewp _ qvk _ _;have hsm:=qbq hg;have hsl:=Vl hg;have hss:=Y3 (g:=g);obtain ⟨R,hR⟩:∃R,R=Zr g:=⟨_,rfl⟩;have hR0:Qu g 151 [⟨[0],[]⟩] 0=R:=hR.symm;rw[<- hR];have hA0:=qiK hg;have hK0:qdw [⟨[0],[]⟩]:=λq hq x hx _=>by rw[List.mem_singleton]at hq;subst hq;simpa using hx
 have hsy:zB g=zB g:=rfl;repeat' with_reducible first|refine s_ ?_|simp -implicitDefEqProofs only[wZZ,seval]|refine cq1 hsm qd ?_|refine t_ ?_
 refine qb ?nx1 (λ(p:Nat×List Sta) s=>s.f 1=?v1_1/\s.f 5=?v1_5/\s.H 0=some (.own 5 [g.V] false)/\s.f 6=vi p.1/\(p.1<=p.2.length)/\(AutI g p.2 p.1 0)/\(qdw p.2)/\(Qu g (151 - p.1) p.2 p.1=R)/\((∃id es,s.f 4=.msl id 2 0 p.2.length/\s.H id=some (.own 2 es false)/\1<=id/\id<s.next/\qqU es p.2 p.1))) (λp=>151 - p.1) ((0,[⟨[0],[]⟩])) wj_ (by refine⟨?_,?_,?_,?_,wo_,(by exact hA0),(by exact hK0),(by exact hR0),(by exact⟨6,_,(by(simp -implicitDefEqProofs only[wL,seval])<;>rfl),(by(simp only[wM];(repeat first|rw[if_pos trivial]|rw[if_pos rfl]|rw[if_neg o_]))<;>rfl),o_,wg_,qlC⟩)⟩<;>first|(simp -implicitDefEqProofs only[wL,wM,wN,wX,seval,Option.some.injEq]<;>exact wt_)|rfl|exact⟨_,rfl⟩) ?_;intro p s hnx ⟨g1,g5,o0,g6,k1_0,k1_1,k1_2,k1_3,k1_4⟩;obtain ⟨i,m⟩:=p;dsimp only at *;obtain ⟨id,es,g4,oo,hid1,hid2,hT⟩:=k1_4;have hml:=k1_1.len;have hz:=w1_ i;by_cases hi:i<m.length
 . rw [show 151 - i=(150 - i)+1 by omega]at k1_3;unfold Qu at k1_3;rw[if_pos hi]at k1_3;obtain ⟨vK,q,hU,hq0⟩:=hT.start (H:=s.H) (next:=s.next) hi;have hqm:=hU.2.1;have hes:=hU.2.2.1;have hK:=hU.2.2.2.1;have hmem:=List.mem_of_getElem? hqm;have hkl:=k1_1.kl hg.pl2 _ hmem;have hkr:=k1_1.kr _ hmem;have hki:=k1_1.ki _ hmem;have hcl:=Y0 hg hki hkr (k1_2.k0 hg _ hmem) h1000;have hkA:za m i=q.ker:=(by unfold za;rw[hqm];rfl);obtain ⟨hcI,hok,hcb⟩:=zK hg hki hkr;have hcr:=hcI.rise;have hsS:=λm' s h1 h2=>qhA (g:=g) (i:=i) (m:=m') (k:=q.ker) (s:=s) h1 hcr h2;have hso:=λs=>qwj (s:=s) hg hki hkr;have hsK:=λ(l:List Int) (m':List Sta)=>qaZ hg (i:=i) (A:=yT g (qK g q.ker)) l m m' k1_2;rw[hkA]at k1_3;clear hcI;generalize yT g (qK g q.ker)=A at *;generalize qK g q.ker=C at *;repeat' with_reducible first|refine s_ ?_|simp -implicitDefEqProofs only[wZZ,seval,g1,g5,g6,o0,g4]|apply qa<;>intro h h_<;>(try simp only[wD,reduceCtorEq]at h_)<;>(try exact wb_)<;>(try simp only[h])|apply qZ;omega;(focus(rw[Int.toNat_natCast];exact hi))|(rw[oo];refine QV rfl hes wu_ ?_)|refine cq2 hcl qd hK.er ?_|refine t_ ?_
   refine qb ?nx2 (λ(r:Nat×List Sta) s=>s.f 1=?v2_1/\s.f 5=?v2_5/\s.f 6=?v2_6/\s.f 7=?v2_7/\s.f 31=?v2_31/\s.f 32=?v2_32/\s.H 0=some (.own 5 [g.V] false)/\s.f 33=vi r.1/\(r.1<=(zB g).length)/\(AutI g r.2 i r.1)/\((i<r.2.length))/\(((zB g).take r.1).foldl (jl g i A) (some m)=some r.2)/\(za r.2 i=q.ker)/\((∃id es vK vM q,s.f 4=.msl id 2 0 r.2.length/\s.H id=some (.own 2 es false)/\1<=id/\id<s.next/\qe0 s.H s.next es r.2 i vK vM q))) (λr=>(zB g).length - r.1) ((0,m)) wj_ (by refine⟨?_,?_,?_,?_,?_,?_,?_,?_,wo_,(by exact k1_1),(by exact hi),(by rfl),(by exact hkA),(by exact⟨id,es,vK,_,q,(by(simp -implicitDefEqProofs only[wL,seval]);assumption),oo,o_,wg_,hU.1,hU.2.1,hU.2.2.1,hU.2.2.2.1,(by rw[hq0];exact Gr.nil),hU.2.2.2.2.2⟩)⟩<;>first|(simp -implicitDefEqProofs only[wL,wM,wN,wX,seval,Option.some.injEq,g1,g5,g6,o0]<;>exact wt_)|rfl|exact⟨_,rfl⟩) ?_;intro r s hnx ⟨g1,g5,g6,g7,g31,g32,o0,g33,k2_0,k2_1,k2_2,k2_3,k2_4,k2_5⟩;obtain ⟨k,m'⟩:=r;dsimp only at *;obtain ⟨id2,es2,vK2,vM2,q2,h4,oo2,hid3,hid4,hU2⟩:=k2_5;have hzk:=w1_ k;have hml':=k2_1.len;by_cases hk:k<(zB g).length
   . have hgk:(zB g)[k]?=some (zB g)[k]:=ge_ hk;have hsi:=hss _ (List.getElem_mem hk);have hst:=Xk (jl g i A) (some m) hgk;rw[k2_3]at hst;generalize (zB g)[k]=sy at *;rw[hsS m' sy k2_4 (qeX hsi)]at hst;obtain ⟨hoR,hoI,ho16⟩:=hso sy;have hol:=Nat.le_trans (qhF g C sy) hcb;have hstp:=qdH (sy:=sy) hg hok hcb;have hqm2:=hU2.2.1;have hes2:=hU2.2.2.1;have hK2:=hU2.2.2.2.1;have hG2:=hU2.2.2.2.2.1;have hmem2:=List.mem_of_getElem? hqm2;have hkl2:=k2_1.kl hg.pl2;have hql:q2.mov.length<=64:=(by have:=k2_1.mvl i q2 hqm2;rw[if_neg o_,if_pos rfl]at this;omega);have hfi:=λh0=>qh3 (m:=m') (k:=Zx g C sy) h0 hoR o_ o_ (λq h=>by have:=hkl2 q h;omega);have hfc:=ZX (k:=Zx g C sy) m';generalize Zx g C sy=O at *;generalize yM m' O=fn at *;have hEr:∀H':Nat->Option MObj,H'=s.H->Er true H' (.msl id2 2 0 m'.length) (.sl 2 false (m'.map Sta.V)):=λH' e=>by
      subst e;refine qa5 (ro:=false) oo2 hU2.1.up ?_;have:=hU2.1.len;rw[List.length_map]at this;exact this.symm
     have hlt2:1<[vK2,vM2].length:=(by simp);by_cases hc:O=[]
     . rw[if_pos hc]at hst;subst hc;repeat' with_reducible first|refine s_ ?_|simp -implicitDefEqProofs only[wZZ,seval,g1,g5,g6,g7,g31,g32,g33,o0,hzk,h4]|apply qa<;>intro h h_<;>(try simp only[wD,reduceCtorEq]at h_)<;>(try exact wb_)<;>(try simp only[h])|refine t_ ?_|refine cq3 hstp qd qd qd ?_
       all_goals refine⟨wg_,(k+1,m'),d_,?_⟩
       all_goals repeat refine⟨True.intro,?_⟩
       all_goals exact⟨rfl,d_,k2_1.skip,k2_2,hst,k2_4,⟨id2,es2,vK2,vM2,q2,rfl,oo2,hid3,o_,hU2.mono wg_ (λ_ _ _=>rfl)⟩⟩
     . rw [if_neg hc]at hst;have h0:0<O.length:=List.length_pos_iff.2 hc;have hfi:=hfi h0;rcases hfc with hf|⟨t,hf,q3,hq3,_⟩
       . rw [if_pos o_]at hst;subst hf;have hlm:(q2.mov.map prV).length=q2.mov.length:=List.length_map _;have hnl:m'.length=es2.length:=(by have:=hU2.1.len;rw[List.length_map]at this;exact this);have hne:=λx h=>Gr.ne hG2 oo2 (x:=x) h;have hi3:i<es2.length+[V.agg [V.sl 2 false (O.map itV),.sl 2 true []]].length:=(by rw[List.length_singleton];omega);have hes3:(es2++[V.agg [V.sl 2 false (O.map itV),.sl 2 true []]])[i]?=some (.agg [vK2,vM2]):=(by rw[List.getElem?_append_left o_];exact hes2);by_cases hm:m'.length=150
         . rw[if_pos hm]at hst;repeat' with_reducible first|refine s_ ?_|simp -implicitDefEqProofs only[wZZ,seval,g1,g5,g6,g7,g31,g32,g33,o0,hzk,h4]|apply qa<;>intro h h_<;>(try simp only[wD,reduceCtorEq]at h_)<;>(try exact wb_)<;>(try simp only[h])|refine t_ ?_|refine cq3 hstp qd qd qd ?_|apply qM (hp:=hfi);(focus(refine hEr _ ?_;first|rfl|(simp only[wM];done)));exact qd;exact wu_;exact Flat.int _ _|(refine JO rfl (by first|exact oo2|(simp only[wM];exact oo2)) hnl qY.sl (by simp only[wZ]<;>omega) (by unfold maxLen;simp only[wZ]<;>omega) ?_)
           have hRn:R=none:=by rw[<- k1_3];have e1:(zB g).foldl (jl g i A) (some m)=((zB g).drop (k+1)).foldl (jl g i A) (((zB g).take (k+1)).foldl (jl g i A) (some m)):=(by rw[<- List.foldl_append,List.take_append_drop]);rw[e1,hst,yc];rfl
           subst hRn;refine qft rfl (Or.inr rfl) ?_;(simp -implicitDefEqProofs only[wL,seval]);exact ErL.tup (.cons (ErL.sl .nil) (.cons (.int _ _) .nil))
         . rw[if_neg hm]at hst;repeat' with_reducible first|refine s_ ?_|simp -implicitDefEqProofs only[wZZ,seval,g1,g5,g6,g7,g31,g32,g33,o0,hzk,h4]|apply qa<;>intro h h_<;>(try simp only[wD,reduceCtorEq]at h_)<;>(try exact wb_)<;>(try simp only[h])|refine t_ ?_|refine cq3 hstp qd qd qd ?_|apply qM (hp:=hfi);(focus(refine hEr _ ?_;first|rfl|(simp only[wM];done)));exact qd;exact wu_;exact Flat.int _ _|(refine JO rfl (by first|exact oo2|(simp only[wM];exact oo2)) hnl qY.sl (by simp only[wZ]<;>omega) (by unfold maxLen;simp only[wZ]<;>omega) ?_)|(refine QV rfl hes3 wu_ ?_)|apply zq rfl (hG2.mono (Nat.le_refl _) (λx h1 h2=>by have:=hne x h1;(try simp only[wM]);(repeat rw[if_neg o_])));exact qY.sl;(focus(simp only[wZ,hlm];omega));(focus(unfold maxLen;simp only[wZ,hlm];omega))|(refine qaE (Yg (λx h=>by have:=hG2.lt h;omega) (by(try simp only[wM]);(repeat first|rw[if_pos trivial]|rw[if_pos rfl]|rw[if_neg o_]))) hes3 wu_ wu_ wu_ hlt2 ?_)|simp -implicitDefEqProofs (disch:=omega) only[w64,if_neg]
           have hq':(m'++[(⟨O,[]⟩:Sta)])[i]?=some q2:=(by rw[List.getElem?_append_left k2_2];exact hqm2);have hU3:=hU2.snoc (o:=O) (vO:= .sl 2 false (O.map itV)) qd (Nat.le_refl _) (λ_ _ _=>rfl);refine⟨wg_,(k+1,zC (m'++[⟨O,[]⟩]) i sy m'.length),d_,?_⟩;repeat refine⟨True.intro,?_⟩
           exact⟨Yg (λx h=>Gr.ne hG2 o0 h) (by((try simp only[wM]);(repeat first|rw[if_pos trivial]|rw[if_pos rfl]|rw[if_neg o_]));exact o0),rfl,d_,(k2_1.snoc k2_2 o_ hoR hoI).add hq' hsi (by simp),by dsimp only;rw[qV hq',List.length_set,List.length_append];omega,hst,by dsimp only;rw[Ky,qkd k2_2];exact k2_4,⟨_,_,vK2,_,_,by dsimp only;rw[qV hq',List.length_set,List.length_append,hnl];rfl,if_pos rfl,o_,wg_,hU3.add (by rw[List.map_append];exact Gr.tok hh_ wg_)⟩⟩
       . rw[if_neg o_]at hst;subst hf;have ht:=(List.getElem?_eq_some_iff.1 hq3).1;have hlm:(q2.mov.map prV).length=q2.mov.length:=List.length_map _;repeat' with_reducible first|refine s_ ?_|simp -implicitDefEqProofs only[wZZ,seval,g1,g5,g6,g7,g31,g32,g33,o0,hzk,h4]|apply qa<;>intro h h_<;>(try simp only[wD,reduceCtorEq]at h_)<;>(try exact wb_)<;>(try simp only[h])|refine t_ ?_|apply qZ;omega;(focus(rw[Int.toNat_natCast];exact k2_2))|(rw[oo2];refine QV rfl hes2 wu_ ?_)|refine cq3 hstp qd qd qd ?_|apply qM (hp:=hfi);(focus(refine hEr _ ?_;first|rfl|(simp only[wM];done)));exact qd;exact wu_;exact Flat.int _ _|apply zq rfl (hG2.mono (Nat.le_refl _) (λid h1 h2=>by(try simp only[wM]);(repeat rw[if_neg o_])));(focus(first|exact qY.sl|exact qY.asl));(focus(simp only[wZ,hlm];omega));(focus(unfold maxLen;simp only[wZ,hlm];omega))|(refine qaE (hG2.dropO oo2) hes2 wu_ wu_ wu_ hlt2 ?_)|simp -implicitDefEqProofs (disch:=omega) only[w64,if_neg]
         refine⟨wg_,(k+1,zC m' i sy t),d_,?_⟩;repeat refine⟨True.intro,?_⟩
         exact⟨hG2.dropO o0,rfl,d_,k2_1.add hqm2 hsi ht,by dsimp only;rw[qV hqm2,List.length_set];exact k2_2,hst,by dsimp only;rw[Ky];exact k2_4,⟨id2,_,vK2,_,_,by dsimp only;rw[qV hqm2,List.length_set],if_pos rfl,hid3,wg_,hU2.add (by rw[List.map_append];exact Gr.tok hh_ wg_)⟩⟩
   . have e:(zB g).take k=zB g:=List.take_of_length_le o_;rw[e]at k2_3;have hMk:=hsK _ _ k2_3;rw[k2_3]at k1_3;repeat' with_reducible first|refine s_ ?_|simp -implicitDefEqProofs only[wZZ,seval,g1,g5,g6,g7,g31,g32,g33,o0,hz]|apply qa<;>intro h h_<;>(try simp only[wD,reduceCtorEq]at h_)<;>(try exact wb_)<;>(try simp only[h])
     refine⟨wg_,(i+1,m'),d_,?_⟩;repeat refine⟨True.intro,?_⟩
     exact⟨rfl,d_,k2_1.next o_,hMk,by dsimp only;rw[show 151 - (i+1)=150 - i by omega];exact k1_3,id2,es2,h4,oo2,hid3,o_,hU2.done⟩
 . have e:i=m.length:=o_;rw[show 151 - i=(150 - i)+1 by omega]at k1_3;unfold Qu at k1_3;rw[if_neg hi]at k1_3
   skip
   subst k1_3;repeat' with_reducible first|refine s_ ?_|simp -implicitDefEqProofs only[wZZ,seval,g1,g5,g6,o0,g4]|apply qa<;>intro h h_<;>(try simp only[wD,reduceCtorEq]at h_)<;>(try exact wb_)<;>(try simp only[h])
   refine qft rfl (Or.inr rfl) ?_;(simp -implicitDefEqProofs only[wL,seval]);refine ErL.tup (.cons (qa5 (ro:=false) (by(simp only[wM];(repeat first|rw[if_pos trivial]|rw[if_pos rfl]|rw[if_neg o_]));exact oo) hT.1.up ?_) (.cons (.int _ _) .nil));have:=hT.1.len;rw[List.length_map]at this;exact this.symm
end Go.Proofs
