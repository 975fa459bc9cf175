import Derived.Test.YtkcegflhobejmaaGreatDoorBME
set_option maxRecDepth 20000
set_option linter.all false
set_option maxHeartbeats 4000000
namespace Go.Proofs
open Go.E
abbrev qov(s:Int):Prop:=s≠0/\s≠2/\s≠1000
abbrev RPr(l:List GPr):Prop:= ∀p∈l,∀s∈p.right,qov s
abbrev Bad(m:Mk):Prop:=m.e≠0\/1000<m.toks.length
theorem qhy(x:Sym):∀(l:List Tok) (i:Nat),QE x l i= -1\/((i:Int)<=QE x l i/\QE x l i≠2)
 |[],i=>Or.inl rfl
 | t ::r,i=>by
   rw[QE];split
   . rename_i h;exact Or.inr ⟨Int.le_refl _,by have:=h.2.2;omega⟩
   . rcases qhy x r (i+1)with h|h
     . exact Or.inl h
     . exact Or.inr ⟨o_,h.2⟩
theorem qlo{m:Mk}(x:Sym)(h3:3<=m.toks.length)(h:0<=Y2 m.toks x):Bad m\/qov (Y2 m.toks x):=by
 have hb:=qba x m.toks o_;by_cases e:Y2 m.toks x=1000
 . left;right;omega
 . right;unfold Y2 at *;rcases qhy x (m.toks.drop 1) 1 with h1|h1
   . omega
   . exact⟨o_,h1.2,e⟩
theorem qbf(m:Mk)(a:Int)(n:List UInt8):(zf m a n).e≠0:=by
 unfold zf;split
 . simp
 . assumption
theorem qdH(m:Mk)(a:Int)(n:List UInt8):Bad (zf m a n):=Or.inl (qbf m a n)
theorem qvB{m:Mk}(x:Sym)(h3:3<=m.toks.length):(Bad (kY m x).1\/qov (kY m x).2)/\(Bad m->Bad (kY m x).1):=by
 unfold kY;split
 . rename_i h;exact⟨qlo x h3 h,id⟩
 . dsimp only;refine⟨?_,λh=>?_⟩
   . by_cases e:(m.toks.length:Int)=1000
     . left;right;dsimp only;rw[List.length_append];simp;omega
     . exact Or.inr ⟨o_,o_,e⟩
   . rcases h with h|h
     . left;dsimp only;split
       . exact qbf _ _ _
       . exact h
     . right;dsimp only;rw[List.length_append];omega
theorem qls{m:Mk}(x:Sym)(h3:3<=m.toks.length):(Bad (xq m x).1\/qov (xq m x).2)/\(Bad m->Bad (xq m x).1):=by
 have hb:=jE x.name m.lefts 0;unfold xq;split
 . exact qvB x h3
 . split
   . exact⟨Or.inr ⟨by dsimp only;omega,by dsimp only;omega,by dsimp only;omega⟩,id⟩
   . split
     . exact⟨Or.inl (qdH _ _ _),λ_=>qdH _ _ _⟩
     . rename_i h;exact⟨qlo x h3 (Int.not_lt.1 h),id⟩
theorem qd1:∀(l:List Part) (m:Mk) (p:GPr),3<=m.toks.length->0<=m.inner->(Bad m\/(RPr m.prods/\∀s∈p.right,qov s))->Bad (qZ l (m,p)).1\/(RPr (qZ l (m,p)).1.prods/\∀s∈(qZ l (m,p)).2.right,qov s)
 |[],m,p,h3,hi,h=>by rw[kP];exact h
 | w :: r, m,p,h3,hi,h=>by
   rw[xB];obtain ⟨y1,y2,y3,y4,y5,y6,y7,y8⟩:=x9 m w.sym;obtain ⟨s1,s2⟩:=qls w.sym h3;split
   . refine qd1 r _ _ o_ o_ ?_;rcases h with h|⟨h1,h2⟩
     . exact Or.inl (s2 h)
     . rcases s1 with s1|s1
       . exact Or.inl s1
       . right;rw[y3];refine⟨h1,λs hs=>?_⟩;rcases List.mem_append.1 hs with hs|hs
         . exact h2 s hs
         . rw[List.mem_singleton]at hs;subst hs;exact s1
   . split
     . exact h
     . refine qd1 r _ _ h3 (by dsimp only;omega) ?_;rcases h with h|⟨h1,h2⟩
       . exact Or.inl h
       . right;refine⟨λq hq s hs=>?_,λs hs=>?_⟩
         . rcases List.mem_append.1 hq with hq|hq
           . exact h1 q hq s hs
           . rw[List.mem_singleton]at hq;subst hq;cases hs
         . dsimp only at hs;rcases List.mem_append.1 hs with hs|hs
           . exact h2 s hs
           . rw[List.mem_singleton]at hs;exact⟨o_,o_,o_⟩
theorem RPr.snoc{l:List GPr}{p:GPr}(h:RPr l)(hp:∀s∈p.right,qov s):RPr (l++[p]):=λq hq=>by
 rcases List.mem_append.1 hq with hq|hq
 . exact h q hq
 . rw[List.mem_singleton]at hq;subst hq;exact hp
theorem qvo{m:Mk}(n:List UInt8)(a:Alt)(hI:MInv m)(h:Bad m\/RPr m.prods):Bad (QD m n a)\/RPr (QD m n a).prods:=by
 have h1:=qd1 a.parts m {left:=1+qp n m.lefts 0,prec:= -1,at_:=a.at_} hI.tk hI.inn (h.imp id λh=>⟨h,λs hs=>by cases hs⟩);have h2:=(Yy a.parts m {left:=1+qp n m.lefts 0,prec:= -1,at_:=a.at_} hI (λs hs=>by cases hs)).1.tk;unfold QD;dsimp only;generalize qZ a.parts (m,{left:=1+qp n m.lefts 0,prec:= -1,at_:=a.at_})=q at *;obtain ⟨y1,y2,y3,y4,y5,y6,y7,y8⟩:=x9 q.1 a.prec;split
 . split
   . rcases h1 with h1|⟨h1,h3⟩
     . exact Or.inl ((qls a.prec h2).2 h1)
     . right;dsimp only;rw[y3];exact h1.snoc h3
   . exact Or.inl (qdH _ _ _)
 . rcases h1 with h1|⟨h1,h3⟩
   . exact Or.inl h1
   . exact Or.inr (h1.snoc h3)
theorem qet(n:List UInt8):∀(l:List Alt) (m:Mk),MInv m->(Bad m\/RPr m.prods)->Bad (zo n l m)\/RPr (zo n l m).prods
 |[],m,_,h=>h
 |a::r,m,hI,h=>by rw[jO];exact qet n r _ (qiL n a hI) (qvo n a hI h)
theorem qg9:∀(l:List Rule) (m:Mk),MInv m->(Bad m\/RPr m.prods)->Bad (xg l m)\/RPr (xg l m).prods
 |[],m,_,h=>h
 |r::l,m,hI,h=>by rw[xJ];exact qg9 l _ (Vm r.left r.alts m hI) (qet r.left r.alts m hI h)
theorem qae{n:List UInt8}:∀{l:List (List UInt8)} (i:Nat),n∈l->0<=qp n l i
 | t ::r,i,h=>by
   rw[qp];split
   . omega
   . rename_i hn;rcases List.mem_cons.1 h with e|h
     . exact absurd e.symm hn
     . exact qae (i+1) h
theorem YK{n:List UInt8}:∀{l:List (List UInt8)} (i:Nat),0<=qp n l i->n∈l
 |[],i,h=>by rw[qp]at h;omega
 | t::r,i,h=>by
   rw[qp]at h;split at h
   . rename_i e;subst e;simp
   . exact List.mem_cons_of_mem _ (YK (i+1) h)
theorem qv6{m:Mk}{k:Int}{x:Sym}(h:m.e≠0):(qjp m k x).e≠0:=by
 unfold qjp;split
 . exact qbf _ _ _
 . exact h
theorem qas{k:Int}:∀{l:List Sym} {m:Mk},m.e≠0->(jW k l m).e≠0
 |[],m,h=>h
 |x::r,m,h=>by rw[yF];exact qas (qv6 h)
theorem qhM:∀{l:List Decl} {m:Mk},m.e≠0->(Qo l m).e≠0
 |[],m,h=>h
 |d::r,m,h=>by rw[kV];exact qhM (qas h)
theorem qd6{k:Int}(hk:5<=k){x:Sym}:∀{l:List Sym} {m:Mk},x∈l->(jW k l m).e≠0\/0<=qp x.name m.lefts 0
 | y ::r,m,h=>by
   rw[yF];rcases List.mem_cons.1 h with rfl|h
   . by_cases h0:qp x.name m.lefts 0<0
     . left;refine qas ?_;unfold qjp;rw[if_pos ⟨hk,h0⟩];exact qbf _ _ _
     . right;omega
   . have:=qd6 hk (m:=qjp m k y) h;rwa [(qlv m k y).2.2.1]at this
theorem qjc{d:Decl}(hk:5<=d.kind){x:Sym}(hx:x∈d.syms):∀{l:List Decl} {m:Mk},d∈l->(Qo l m).e≠0\/0<=qp x.name m.lefts 0
 | y ::r,m,h=>by
   rw[kV];rcases List.mem_cons.1 h with rfl|h
   . exact(qd6 hk hx).imp qhM id
   . have:=qjc hk hx (m:=jW y.kind y.syms m) h;rwa [(qaF y.kind y.syms m).2.2.1]at this
theorem qdN(d:Decl):∀(l:List Sym) (m:Mk) (st:List UInt8),(zP d l (m,st)).2=st\/(d.kind=6/\∃x∈l,(zP d l (m,st)).2=x.name)
 |[],m,st=>Or.inl rfl
 | x ::r,m,st=>by
   rw[Zk];split
   . rcases qdN d r (vz m d x) st with h|⟨h1,y,h2,h3⟩
     . exact Or.inl h
     . exact Or.inr ⟨h1,y,List.mem_cons_of_mem _ h2,h3⟩
   . rename_i hk;rcases qdN d r (if st≠[]then zf m x.at_ x.name else m) x.name with h|⟨h1,y,h2,h3⟩
     . exact Or.inr ⟨by simpa using hk,x,by simp,h⟩
     . exact Or.inr ⟨h1,y,List.mem_cons_of_mem _ h2,h3⟩
theorem qig:∀(l:List Decl) (m:Mk) (st:List UInt8),(zZ l (m,st)).2=st\/ ∃d∈l,d.kind=6/\∃x∈d.syms,(zZ l (m,st)).2=x.name
 |[],m,st=>Or.inl rfl
 | d ::r,m,st=>by
   rw[Zy];have h1:=qdN d d.syms (X7 m d) st;have h2:=qig r (zP d d.syms (X7 m d,st)).1 (zP d d.syms (X7 m d,st)).2;rcases h2 with h2|⟨y,h3,h4,x,h5,h6⟩
   . rcases h1 with h1|⟨h1,x,h3,h4⟩
     . exact Or.inl (h2.trans h1)
     . exact Or.inr ⟨d,by simp,h1,x,h3,h2.trans h4⟩
   . exact Or.inr ⟨y,List.mem_cons_of_mem _ h3,h4,x,h5,h6⟩
theorem qvP(m:Mk)(n:List UInt8):n∈(ZV m n).lefts/\∀x∈m.lefts,x∈(ZV m n).lefts:=by
 unfold ZV;split
 . exact⟨by simp,λx hx=>by simp[hx]⟩
 . rename_i h;exact⟨YK 0 o_,λx hx=>hx⟩
theorem qh7:∀(l:List Rule) (m:Mk) (x:List UInt8),(x∈m.lefts\/ ∃r∈l,x=r.left)->x∈(jD l m).lefts
 | [],m,x,h=>by
   rcases h with h|⟨r,hr,_⟩
   . exact h
   . cases hr
 | r ::l,m,x,h=>by
   rw[kI];obtain ⟨d1,d2,d3,d4,d5,d6⟩:=qbZ m r;have ha:=qvP (QH m r) r.left;refine qh7 l _ x ?_;rcases h with h|⟨q,hq,e⟩
   . exact Or.inl (ha.2 x (by rw[d2];exact h))
   . rcases List.mem_cons.1 hq with rfl|hq
     . subst e;exact Or.inl ha.1
     . exact Or.inr ⟨q,hq,e⟩
theorem qkU{src:Source}(h:Yz src=true):(XT src).e≠0\/0<=qp (QA src) (XT src).lefts 0:=by
 have hl:(XT src).lefts=(jD src.rules (zZ src.decls ({},[])).1).lefts:=(qa0 src.decls _).2.2.1;have hne:src.rules≠[]:=by unfold Yz at h;simp only[Bool.and_eq_true,Bool.not_eq_true',decide_eq_false_iff_not]at h;exact h.2
 rw[hl];unfold QA;by_cases e:(zZ src.decls ({},[])).2=[]
 . rw[if_pos e];right;refine qae 0 (qh7 _ _ _ (Or.inr ?_));cases hr:src.rules with
   |nil=>exact absurd hr hne
   |cons r l=>exact⟨r,by simp,rfl⟩
 . rw[if_neg e];rcases qig src.decls {} []with h1|⟨d,h1,h2,x,h3,h4⟩
   . exact absurd h1 e
   . rw[h4];exact qjc o_ h3 h1
theorem qnz{src:Source}(hm:Yz src=true):Bad (z8 src)\/RPr (z8 src).prods:=by
 obtain ⟨h1,h2,h3⟩:=qfD src;have hl:=jE (QA src) (XT src).lefts 0;rw[Zp];refine qg9 _ _ ⟨h1,by dsimp only;omega,λp hp=>?_,λp hp s hs=>?_,λp hp=>?_⟩ ((qkU hm).imp Or.inl λh0 p hp s hs=>?_)<;>(dsimp only at hp;rw[List.mem_singleton]at hp;subst hp)
 . unfold Jm;dsimp only;omega
 . unfold Jm at hs;dsimp only at hs ⊢;rw[List.mem_singleton]at hs;subst hs;exact Or.inr ⟨(1+qp (QA src) (XT src).lefts 0).toNat,o_,o_⟩
 . exact Or.inl rfl
 . unfold Jm at hs;dsimp only at hs;rw[List.mem_singleton]at hs;subst hs;exact⟨o_,o_,o_⟩
theorem KO{src:Source}(h:Xr src=true):RPr (zR src).prods:=by obtain ⟨hm,he,_,e⟩:=qaq h;have htk:=(gok h).tk2;rw[e]at htk ⊢;dsimp only at htk ⊢;rw[(YL (z8 src)).1]at htk;rw[(YL (z8 src)).2.2];exact(qnz hm).resolve_left λh=>h.elim (λh=>h he) (λh=>by omega)

theorem qg8{g:Grammar}(hg:GOk g){y:Int}(h:0<=nxt g y):(y % 16)<8:=by
 unfold nxt at h;cases hp:g.prods[(y / 16).toNat]? with
 |none=>rw[hp]at h;simp at h
 | some p=>
   rw[hp,Option.bind_some]at h;cases hr:p.right[(y % 16).toNat]? with
   |none=>rw[hr]at h;simp at h
   | some s=>
     have h1:=(List.getElem?_eq_some_iff.1 hr).1;have h2:=hg.rlen p (List.mem_of_getElem? hp);omega
theorem qgQ{g:Grammar}(hg:GOk g){k:List Int}{s x:Int}(hx:x∈Q7 g k s):x % 16≠0:=by
 have:=(qgf (λy=>decide (0<=nxt g y/\nxt g y=s)) (λy=>y+1) (qC g k) []).1 x;simp only[decide_eq_true_eq]at this;rcases this.1 hx with h|⟨y,_,⟨h0,_⟩,e⟩
 . cases h
 . have:=qg8 hg h0;omega
def qdw(m:List Sta):Prop:= ∀q∈m,∀x∈q.ker,x % 16=0->x=0
theorem KA{m:List Sta}{i:Nat}{s t:Int}(h:qdw m):qdw (zx m i s t):=by
 intro q hq;unfold zx at hq;obtain ⟨j,hj⟩:=List.getElem?_of_mem hq;rw[List.getElem?_modify]at hj;cases hm:m[j]? with
 |none=>rw[hm]at hj;cases hj
 | some q0=>
   rw[hm]at hj;have h0:=h q0 (List.mem_of_getElem? hm);by_cases e:i=j
   . simp[e]at hj;subst hj;exact h0
   . simp[e]at hj;subst hj;exact h0
theorem qiD{g:Grammar}(hg:GOk g){i:Nat}{A:List Int}{s:Int}{m m':List Sta}(h0:qdw m)(h:zU g i A (some m) s=some m'):qdw m':=by
 unfold zU at h;simp only[Option.bind_some]at h;split at h
 . split at h
   . split at h
     . cases h
     . cases h;refine KA λq hq=>?_;rcases List.mem_append.1 hq with hq|hq
       . exact h0 q hq
       . rw[List.mem_singleton]at hq;subst hq;exact λx hx e=>absurd e (qgQ hg hx)
   . cases h;exact KA h0
 . cases h;exact h0
theorem qaW{g:Grammar}(hg:GOk g){i:Nat}{A:List Int}:∀(r:List Int) (m m':List Sta),qdw m->r.foldl (zU g i A) (some m)=some m'->qdw m'
 |[],m,m',h0,h=>by cases h;exact h0
 | s ::r,m,m',h0,h=>by
   rw[List.foldl_cons]at h;cases h1:zU g i A (some m) s with
   |none=>rw[h1,xE]at h;cases h
   | some m1=>
     rw[h1]at h;exact qaW hg r m1 m' (qiD hg h0 h1) h
theorem qcN{g:Grammar}(hg:GOk g):∀(n:Nat) (m:List Sta) (i:Nat) (m':List Sta),qdw m->kX g n m i=some m'->qdw m'
 |0,m,i,m',h0,h=>by cases h;exact h0
 | n + 1,m,i,m',h0,h=>by
   unfold kX at h;by_cases hi:i<m.length
   . rw[if_pos hi]at h;cases h1:(zu g).foldl (zU g i (yA g (qC g (qR m i)))) (some m)with
     |none=>rw[h1]at h;cases h
     | some m1=>
       rw[h1]at h;exact qcN hg n m1 (i+1) m' (qaW hg _ m m1 h0 h1) h
   . rw[if_neg hi]at h;cases h;exact h0
theorem qfy{g:Grammar}(hg:GOk g){m:List Sta}(h:Zc g=some m):qdw m:=
 qcN hg 151 _ 0 m (λq hq x hx _=>by rw[List.mem_singleton]at hq;subst hq;simpa using hx) h
theorem qdw.k0{g:Grammar}(hg:GOk g){m:List Sta}(h:qdw m):∀q∈m,∀(n:Nat) p,g.prods[n]?=some p->16 *(n:Int)∈q.ker->p.left=0:=λq hq n p hp hx=>by
 have h0:=h q hq _ hx o_
 have:n=0:=o_
 subst this;obtain ⟨p0,r,e,h1,_⟩:=hg.head;rw[e]at hp;cases hp;exact h1
theorem qev{src:Source}(h:Xr src=true):∀x,nxt (zR src) x≠1000:=λx e=>by
 have hr:=KO h;unfold nxt at e;cases hp:(zR src).prods[(x / 16).toNat]? with
 |none=>rw[hp]at e;simp at e
 | some p=>
   rw[hp,Option.bind_some]at e;cases hs:p.right[(x % 16).toNat]? with
   |none=>rw[hs]at e;simp at e
   | some s=>
     rw[hs,Option.getD_some]at e;exact(hr p (List.mem_of_getElem? hp) s (List.mem_of_getElem? hs)).2.2 e

def ZY(g:Grammar)(C:List Int)(s:Int):List Int:=(C.filter λx=>decide (0<=nxt g x/\nxt g x=s)).map (· +1)
theorem qea{g:Grammar}{C:List Int}{s x:Int}:ZY g (x::C) s=(if 0<=nxt g x/\nxt g x=s then[x+1]else[])++ZY g C s:=by
 unfold ZY;by_cases hc:0<=nxt g x/\nxt g x=s
 . rw[if_pos hc,List.filter_cons,if_pos (decide_eq_true hc)];rfl
 . rw[if_neg hc,List.filter_cons,if_neg (by simpa using hc)];rfl
theorem qiP{g:Grammar}{s:Int}:∀(C a:List Int),jl (a++ZY g C s)->C.foldl (λo x=>if 0<=nxt g x/\nxt g x=s then jT o (x+1)else o) a=a++ZY g C s
 |[],a,_=>by simp[ZY]
 | x ::C,a,h=>by
   rw[qea]at h ⊢;rw[List.foldl_cons];by_cases hc:0<=nxt g x/\nxt g x=s
   . rw[if_pos hc]at h ⊢;rw[if_pos hc,qcJ (h.sublist (List.Sublist.append_left (List.Sublist.cons_cons _ (List.nil_sublist _)) _)),qiP C _ (by rw[List.append_assoc];exact h),List.append_assoc]
   . rw[if_neg hc]at h ⊢;rw[if_neg hc,List.nil_append];exact qiP C a h
theorem qkh{g:Grammar}{C:List Int}{s:Int}(h:jl C):jl (ZY g C s):=by unfold ZY jl;rw[List.pairwise_map];exact(h.filter _).imp λh=>by omega
theorem qgX(g:Grammar)(C:List Int)(s:Int):(ZY g C s).length<=C.length:=by unfold ZY;rw[List.length_map];exact List.length_filter_le _ _
theorem qkc(g:Grammar)(s:Int){c:List Int}{i:Nat}{x:Int}(h:c[i]?=some x):ZY g (c.take (i+1)) s=ZY g (c.take i) s++(if 0<=nxt g x/\nxt g x=s then[x+1]else[]):=by unfold ZY;rw[List.take_add_one,h,List.filter_append,List.map_append];congr 1;exact(qea (g:=g) (C:=[]) (s:=s) (x:=x)).trans (List.append_nil _)
theorem qhN{g:Grammar}{k:List Int}{s:Int}(h:jl (qC g k)):Q7 g k s=ZY g (qC g k) s:=by unfold Q7;rw[qiP _ _ (by rw[List.nil_append];exact qkh h),List.nil_append]
theorem qg5{g:Grammar}{k:List Int}{s:Int}(h0:0<=s):s∈yA g (qC g k)↔ZY g (qC g k) s≠[]:=by
 have h:=QR (g:=g) (k:=k) (s:=s);rw[show yA g (qC g k)=XI g k from rfl,h];constructor
 . rintro ⟨x,h1,h2,_⟩ e;unfold ZY at e;rw[List.map_eq_nil_iff,List.filter_eq_nil_iff]at e;exact e x h1 (decide_eq_true ⟨o_,h2⟩)
 . intro hn;obtain ⟨y,hy⟩:=List.exists_mem_of_ne_nil _ hn;unfold ZY at hy;obtain ⟨x,hx,_⟩:=List.mem_map.1 hy;rw[List.mem_filter,decide_eq_true_eq]at hx;exact⟨x,hx.1,hx.2.2,h0⟩
theorem qiB{g:Grammar}{i:Nat}{m:List Sta}{k:List Int}{s:Int}(hk:qR m i=k)(hr:jl (qC g k))(h0:0<=s):
 zU g i (yA g (qC g k)) (some m) s=if ZY g (qC g k) s=[]then some m else if yO m (ZY g (qC g k) s)<0 then(if m.length=150 then none else some (zx (m++[⟨ZY g (qC g k) s,[]⟩]) i s m.length))else some (zx m i s (yO m (ZY g (qC g k) s))):=by
 have e:zU g i (yA g (qC g k)) (some m) s=if s∈yA g (qC g k)then(if yO m (Q7 g k s)<0 then(if m.length=150 then none else some (zx (m++[⟨Q7 g k s,[]⟩]) i s m.length))else some (zx m i s (yO m (Q7 g k s))))else some m:=by rw[<- hk];rfl
 rw[e,qhN hr];by_cases hc:s∈yA g (qC g k)
 . rw[if_pos hc,if_neg ((qg5 h0).1 hc)]
 . have:ZY g (qC g k) s=[]:=Classical.byContradiction λhn=>hc ((qg5 h0).2 hn)
   rw[if_neg hc,if_pos this]
theorem qek{a b:Nat}{s:Int}(h:kR a b s):0<=s:=by rcases h with ⟨k,e,_⟩|⟨k,e,_⟩<;>omega
theorem qrw{g:Grammar}{l:List Int}{s:Int}(hg:GOk g)(hx:∀x∈l,QI g x)(hr:jl l):jl (ZY g (qC g l) s)/\(∀x∈ZY g (qC g l) s,QI g x)/\∀x∈ZY g (qC g l) s,x % 16=0->x=0:=by have h:=zm hg hx hr;have e:=qhN (s:=s) h.1.rise;obtain ⟨h1,h2⟩:=qdO (s:=s) hg hx hr;exact⟨by rw[<- e];exact h1,by rw[<- e];exact h2,λx hx e2=>absurd e2 (qgQ hg (by rw[e];exact hx))⟩
theorem qh6{k:List Int}{m:List Sta}{q:Sta}{i n:Nat}(h:m[i]?=some q):Q6 k (m.drop i) n=if q.ker=k then(n:Int)else Q6 k (m.drop (i+1)) (n+1):=by have hi:=List.getElem?_eq_some_iff.1 h;rw[List.drop_eq_getElem_cons hi.1,hi.2];rfl
theorem KP{m:List Sta}{i j:Nat}{s t:Int}:qR (zx m i s t) j=qR m j:=by
 unfold qR zx;rw[List.getElem?_modify];cases m[j]? with
 |none=>rfl
 |some q=>by_cases e:i=j<;>simp[e]
theorem qjD{m:List Sta}{j:Nat}{q:Sta}(h:j<m.length):qR (m++[q]) j=qR m j:=by unfold qR;rw[List.getElem?_append_left h]

theorem qcU{g:Grammar}(hg:GOk g):Pure Tryz.prog 71 [g.V] (.sl 1 false ((zu g).map (V.int .i64))):=by
 refine pure_intro Tryz.func71 nm_ qrh (by show 1<=30;decide) ?_
 show ewp _ qsA _ _;have htl:=hg.tk2;have hnl:=hg.nn2;have hdef:zu g=(List.range g.toks.length).map (λ(i:Nat)=>(i:Int))++(List.range g.nons.length).map λ(i:Nat)=>1000+(i:Int):=rfl;rw[hdef];repeat' with_reducible first|refine s_ ?_|simp -implicitDefEqProofs only[wZZ,seval]|refine t_ ?_
 refine qc ?nx1 (λ(i:Nat) s=>s.f 1=?v1_1/\s.f 8=?v1_8/\s.H 0=some (.own 5 [g.V] false)/\(∃v,s.f 3=v/\Gr s.H s.next 1 (((List.range i).map (λ(i:Nat)=>(i:Int))).map (V.int .i64)) v)/\s.f 9=vi i/\(i<=g.toks.length)) (λi=>g.toks.length - i) (0) wj_ (by refine⟨?_,?_,?_,?_,?_,wo_⟩<;>first|(simp -implicitDefEqProofs only[wL,wM,wN,wX,seval,Option.some.injEq]<;>exact wt_)|rfl|exact⟨_,rfl⟩) ?_;intro i s hnx ⟨g1,g8,o0,⟨v3,g3,G3⟩,g9,k1_0⟩;have hz:=w1_ i;by_cases hi:i<g.toks.length
 . have hst:(List.range (i+1)).map (λ(i:Nat)=>(i:Int))=(List.range i).map (λ(i:Nat)=>(i:Int))++[(i:Int)]:=(by rw[List.range_succ,List.map_append];rfl);have hlr:((List.range i).map (λ(i:Nat)=>(i:Int))).length=i:=(by simp);repeat' with_reducible first|refine s_ ?_|simp -implicitDefEqProofs only[wZZ,seval,g1,g8,g3,g9,o0,Gr.dropO G3 o0,hz,G3.len]|apply qa<;>intro h h_<;>(try simp only[wD,reduceCtorEq]at h_)<;>(try exact wb_)<;>(try simp only[h])|apply zC rfl (G3.mono (Nat.le_refl _) (λid h1 h2=>by(try simp only[wM]);(repeat rw[if_neg o_])));(focus(first|exact za.sl|exact za.asl));(focus(simp only[wZ,hlr];omega));(focus(unfold maxLen;simp only[wZ,hlr];omega))
   refine⟨wk_,i+1,o_,?_⟩;refine⟨?_,?_,?_,?_,?_,?_⟩;iterate 5 (focus(first|(simp -implicitDefEqProofs only[wL,wM,wN,wX,seval,Option.some.injEq,g1,g8,g3,g9,o0,Gr.dropO G3 o0,hst]<;>first|rfl|exact⟨_,rfl⟩|exact⟨_,rfl,by first|assumption|exact Gr.nil|exact Gr.tok rfl o_|exact Gr.tok (by simp -implicitDefEqProofs only[wM,seval]<;>rfl) o_|exact Gr.clip|exact G3.to (by first|rfl|(simp[*];done)) o_ rfl|exact G3.mono' (by first|rfl|(simp[*];done)) o_ (λj hj hl=>by(try simp only[wM,xQ]);repeat(first|rfl|rw[if_neg o_]))⟩)|rfl|exact⟨_,rfl⟩|exact⟨_,rfl,by first|assumption|exact G3.to (by first|rfl|(simp[*];done)) o_ rfl|exact G3.mono' (by first|rfl|(simp[*];done)) o_ (λj hj hl=>by(try simp only[wM,xQ]);repeat(first|rfl|rw[if_neg o_]))⟩))
   all_goals try omega
 . have e:i=g.toks.length:=o_;subst e;repeat' with_reducible first|refine s_ ?_|simp -implicitDefEqProofs only[wZZ,seval,g1,g8,g3,g9,o0,Gr.dropO G3 o0,hz,G3.len]|refine t_ ?_
   refine qc ?nx2 (λ(j:Nat) s=>s.f 19=?v2_19/\s.H 0=some (.own 5 [g.V] false)/\(∃v,s.f 3=v/\Gr s.H s.next 1 (((List.range g.toks.length).map (λ(i:Nat)=>(i:Int))++(List.range j).map λ(i:Nat)=>1000+(i:Int)).map (V.int .i64)) v)/\s.f 20=vi j/\(j<=g.nons.length)) (λj=>g.nons.length - j) (0) wj_ (by refine⟨?_,?_,?_,?_,wo_⟩<;>first|(simp -implicitDefEqProofs only[wL,wM,wN,wX,seval,Option.some.injEq,g1,g8,g3,g9,o0,Gr.dropO G3 o0]<;>first|rfl|exact⟨_,rfl⟩|exact⟨_,rfl,by first|assumption|exact Gr.nil|exact Gr.tok rfl o_|exact Gr.tok (by simp -implicitDefEqProofs only[wM,seval]<;>rfl) o_|exact Gr.clip|exact G3.to (by first|rfl|(simp[*];done)) o_ rfl|exact G3.mono' (by first|rfl|(simp[*];done)) o_ (λj hj hl=>by(try simp only[wM,xQ]);repeat(first|rfl|rw[if_neg o_]))⟩)|rfl|exact⟨_,rfl⟩|exact⟨_,rfl,by first|assumption|exact G3.to (by first|rfl|(simp[*];done)) o_ rfl|exact G3.mono' (by first|rfl|(simp[*];done)) o_ (λj hj hl=>by(try simp only[wM,xQ]);repeat(first|rfl|rw[if_neg o_]))⟩) ?_;intro j s hnx ⟨g19,o0,⟨v3,g3,G3⟩,g20,k2_0⟩;have hzj:=w1_ j;have hzk:IntKind.i64.wrap (1000+(j:Int))=1000+(j:Int):=wrap64 o_ o_;by_cases hj:j<g.nons.length
   . have hst:(List.range g.toks.length).map (λ(i:Nat)=>(i:Int))++(List.range (j+1)).map (λ(i:Nat)=>1000+(i:Int))=((List.range g.toks.length).map (λ(i:Nat)=>(i:Int))++(List.range j).map λ(i:Nat)=>1000+(i:Int))++[1000+(j:Int)]:=(by rw[List.range_succ,List.map_append,List.append_assoc];rfl);have hlr:((List.range g.toks.length).map (λ(i:Nat)=>(i:Int))++(List.range j).map λ(i:Nat)=>1000+(i:Int)).length=g.toks.length+j:=(by simp);repeat' with_reducible first|refine s_ ?_|simp -implicitDefEqProofs only[wZZ,seval,g19,g3,g20,o0,Gr.dropO G3 o0,hzj,hzk,G3.len]|apply qa<;>intro h h_<;>(try simp only[wD,reduceCtorEq]at h_)<;>(try exact wb_)<;>(try simp only[h])|apply zC rfl (G3.mono (Nat.le_refl _) (λid h1 h2=>by(try simp only[wM]);(repeat rw[if_neg o_])));(focus(first|exact za.sl|exact za.asl));(focus(simp only[wZ,hlr];omega));(focus(unfold maxLen;simp only[wZ,hlr];omega))
     refine⟨wk_,j+1,o_,?_⟩;refine⟨?_,?_,?_,?_,?_⟩;iterate 4 (focus(first|(simp -implicitDefEqProofs only[wL,wM,wN,wX,seval,Option.some.injEq,g19,g3,g20,o0,Gr.dropO G3 o0,hst]<;>first|rfl|exact⟨_,rfl⟩|exact⟨_,rfl,by first|assumption|exact Gr.nil|exact Gr.tok rfl o_|exact Gr.tok (by simp -implicitDefEqProofs only[wM,seval]<;>rfl) o_|exact Gr.clip|exact G3.to (by first|rfl|(simp[*];done)) o_ rfl|exact G3.mono' (by first|rfl|(simp[*];done)) o_ (λj hj hl=>by(try simp only[wM,xQ]);repeat(first|rfl|rw[if_neg o_]))⟩)|rfl|exact⟨_,rfl⟩|exact⟨_,rfl,by first|assumption|exact G3.to (by first|rfl|(simp[*];done)) o_ rfl|exact G3.mono' (by first|rfl|(simp[*];done)) o_ (λj hj hl=>by(try simp only[wM,xQ]);repeat(first|rfl|rw[if_neg o_]))⟩))
     all_goals try omega
   . have e:j=g.nons.length:=o_;subst e;repeat' with_reducible first|refine s_ ?_|simp -implicitDefEqProofs only[wZZ,seval,g19,g3,g20,o0,Gr.dropO G3 o0,G3.len]
     all_goals refine qw rfl (Or.inr rfl) ?_
     all_goals(try simp -implicitDefEqProofs only[wL,seval,g19,g3,g20])
     all_goals(first|refine er_ ?_ |refine G3.er ?_)
     all_goals(try(with_reducible rfl))
theorem qd3{g:Grammar}{C:List Int}{sy:Int}(hg:GOk g)(hok:∀x∈C,QI g x)(hlen:C.length<=960):Pure Tryz.prog 73 [g.V,.sl 2 false (C.map itV),vi sy] (.sl 2 false ((ZY g C sy).map itV)):=by
 refine pure_intro Tryz.func73 nm_ qv9 (by show 3<=38;decide) ?_
 show ewp _ qqu _ _;have het:=λi x h=>qkc g sy (c:=C) (i:=i) (x:=x) h;have hpl:=hg.pl2;have hrl:=hg.rlen;repeat' with_reducible first|refine s_ ?_|simp -implicitDefEqProofs only[wZZ,seval]|refine t_ ?_
 refine qc ?nx1 (λ(i:Nat) s=>s.f 2=?v1_2/\s.f 3=?v1_3/\s.f 11=?v1_11/\s.f 12=?v1_12/\s.H 0=some (.own 5 [g.V] false)/\(∃v,s.f 7=v/\Gr s.H s.next 2 ((ZY g (C.take i) sy).map itV) v)/\s.f 13=vi i/\(i<=C.length)) (λi=>C.length - i) (0) wj_ (by refine⟨?_,?_,?_,?_,?_,?_,?_,wo_⟩<;>first|(simp -implicitDefEqProofs only[wL,wM,wN,wX,seval,Option.some.injEq]<;>exact wt_)|rfl|exact⟨_,rfl⟩) ?_;intro i s hnx ⟨g2,g3,g11,g12,o0,⟨v7,g7,G7⟩,g13,k1_0⟩;have hz:=w1_ i;have hUl:(ZY g (C.take i) sy).length<=960:=Nat.le_trans (qgX _ _ _) (by rw[List.length_take];omega);by_cases hi:i<C.length
 . have hgi:C[i]?=some C[i]:=ge_ hi;have hst:=het _ _ hgi;have hxo:=hok _ (List.getElem_mem hi);have hnx:=KE hxo hpl hrl;have hin:=qdt hrl hxo;generalize C[i]=x at *;generalize ZY g (C.take i) sy=U at *;generalize nxt g x=nx at *;have hzd:IntKind.i64.wrap (x % 16+1)=x % 16+1:=wrap64 o_ o_;have hkv:itV (x+1)=.agg [vi (x / 16),vi (x % 16+1)]:=(by rw[<- hin.1,<- hin.2.1]);by_cases hc:0<=nx/\nx=sy
   . rw[if_pos hc]at hst;repeat' with_reducible first|refine s_ ?_|simp -implicitDefEqProofs only[wZZ,seval,g2,g3,g11,g12,g7,g13,o0,Gr.dropO G7 o0,hz,hzd,G7.len]|(first|apply qa|apply qy|apply qx)<;>intro h h_<;>(try simp only[wD,reduceCtorEq]at h_)<;>(try exact wb_)<;>(try simp only[h])|apply zC rfl (G7.mono (Nat.le_refl _) (λid h1 h2=>by(try simp only[wM]);(repeat rw[if_neg o_])));(focus(first|exact za.sl|exact za.asl));(focus(simp only[wZ,hz];omega));(focus(unfold maxLen;simp only[wZ,hz];omega))|refine t_ ?_|refine cq2 hnx qf qf ?_
     exact⟨wg_,i+1,o_,trivial,trivial,trivial,trivial,(G7.mono (Nat.le_refl _) (λj h1 h2=>hh_)).dropO (by((try simp only[wM]);(repeat first|rw[if_pos trivial]|rw[if_pos rfl]|rw[if_neg o_]));exact o0),⟨_,rfl,by rw[hst,List.map_append,List.map_cons,hkv,List.map_nil];exact Gr.tok (fin:=U.length+1) hh_ wg_⟩,rfl,o_⟩
   . rw[if_neg hc,List.append_nil]at hst;repeat' with_reducible first|refine s_ ?_|simp -implicitDefEqProofs only[wZZ,seval,g2,g3,g11,g12,g7,g13,o0,Gr.dropO G7 o0,hz,hzd,G7.len]|(first|apply qa|apply qy|apply qx)<;>intro h h_<;>(try simp only[wD,reduceCtorEq]at h_)<;>(try exact wb_)<;>(try simp only[h])|refine t_ ?_|refine cq2 hnx qf qf ?_
     all_goals exact⟨wg_,i+1,o_,trivial,trivial,trivial,trivial,trivial,⟨v7,rfl,by rw[hst];exact G7.mono wg_ (λj h1 h2=>hh_)⟩,rfl,o_⟩
 . have e:C.take i=C:=List.take_of_length_le o_;rw[e]at G7;repeat' with_reducible first|refine s_ ?_|simp -implicitDefEqProofs only[wZZ,seval,g2,g3,g11,g12,g7,g13,o0,Gr.dropO G7 o0,hz,G7.len]|apply qa<;>intro h h_<;>(try simp only[wD,reduceCtorEq]at h_)<;>(try exact wb_)<;>(try simp only[h])
   refine qw rfl (Or.inr rfl) ?_;(simp -implicitDefEqProofs only[wL,seval]);exact G7.er rfl
theorem qrl{H:Nat->Option MObj}{next:Nat}{L:List Int}(h0:0<L.length)(hl:L.length<=1000000):ze Tryz.prog 111 [.sl 2 false (L.map itV)] H next (λv H' n'=>next<=n'/\(∃id,v=.msl id 2 0 L.length/\H' id=some (.own 2 (L.map itV) false)/\next<=id/\id<n')/\∀j,j<next->H' j=H j):=by
 refine qY Tryz.func111 nm_ qpD (by show 1<=8;decide) ?_
 show ewp _ qvE _ _;repeat' with_reducible first|refine s_ ?_|simp -implicitDefEqProofs only[wZZ,seval,qjN]|(refine qwu (n:=L.length) (by simp[qdQ]) h0 ?_)
 refine qaO (base:=next) (next:=0) (xs:=[]) rfl (Or.inl ⟨rfl,rfl⟩) rfl za.sl (by simp;omega) (by unfold maxLen;simp;omega) ?_;intro H1 q1 q2;repeat' with_reducible first|refine vD ?_|simp -implicitDefEqProofs only[wZZ,seval]
 exact Xg (t:=2) rfl (Or.inr rfl) ⟨wg_,⟨next+1+2+2,(by(simp -implicitDefEqProofs only[wL,seval])),q1,o_,wg_⟩,λj hj=>q2 j o_ o_⟩
theorem xO{a b:List Int}(ha:a.length<=1000000)(hb:b.length<=1000000):Pure Tryz.prog 114 [.sl 2 false (a.map itV),.sl 2 false (b.map itV)] (.bool (decide (a=b))):=by
 refine pure_intro Tryz.func114 nm_ qpN (by show 2<=26;decide) ?_
 show ewp _ qiC _ _;by_cases hl:a.length=b.length
 . repeat' with_reducible first|refine s_ ?_|simp -implicitDefEqProofs only[wZZ,seval]|apply qa<;>intro h h_<;>(try simp only[wD,reduceCtorEq]at h_)<;>(try exact wb_)<;>(try simp only[h])
   refine qc ?nx1 (λ(k:Nat) s=>s.f 0=?v1_0/\s.f 1=?v1_1/\s.f 12=?v1_12/\s.f 13=vi k/\(k<=a.length)/\(∀i,i<k->a[i]?=b[i]?)) (λk=>a.length - k) (0) wj_ (by refine⟨?_,?_,?_,?_,wo_,wo_⟩<;>first|(simp -implicitDefEqProofs only[wL,wM,wN,wX,seval,Option.some.injEq]<;>exact wt_)|rfl|exact⟨_,rfl⟩) ?_;intro k s hnx ⟨g0,g1,g12,g13,k1_0,k1_1⟩;have hz:=w1_ k;by_cases hk:k<a.length
   . have hga:a[k]?=some a[k]:=ge_ hk;have hgb:b[k]?=some b[k]:=ge_ o_;by_cases he:a[k]=b[k]
     . have hn:∀i,i<k+1->a[i]?=b[i]?:=λi hi=>by
        by_cases e:i=k
        . subst e;rw[hga,hgb,he]
        . exact k1_1 i o_
       have hed:(decide (a[k]=b[k]) != true)=false:=(by rw[decide_eq_true he];rfl);repeat' with_reducible first|refine s_ ?_|simp -implicitDefEqProofs only[wZZ,seval,g0,g1,g12,g13,hz,hed]|apply qa<;>intro h h_<;>(try simp only[wD,reduceCtorEq]at h_)<;>(try exact wb_)<;>(try simp only[h])|refine t_ ?_|(refine qj9 ?_)
       refine⟨wk_,k+1,o_,?_⟩;refine⟨?_,?_,?_,?_,?_,?_⟩;iterate 4 (focus(first|(simp -implicitDefEqProofs only[wL,wM,wN,wX,seval,Option.some.injEq,g0,g1,g12,g13]<;>exact wt_)|rfl|exact⟨_,rfl⟩))
       all_goals try omega
     . have hne:a≠b:=λe=>he (by subst e;rfl);rw[decide_eq_false hne];have hed:(decide (a[k]=b[k]) != true)=true:=(by rw[decide_eq_false he];rfl);repeat' with_reducible first|refine s_ ?_|simp -implicitDefEqProofs only[wZZ,seval,g0,g1,g12,g13,hz,hed]|apply qa<;>intro h h_<;>(try simp only[wD,reduceCtorEq]at h_)<;>(try exact wb_)<;>(try simp only[h])|refine t_ ?_|(refine qj9 ?_)
       all_goals refine qw rfl (Or.inr rfl) ?_
       all_goals(try simp -implicitDefEqProofs only[wL,seval,g0,g1,g12,g13])
       all_goals refine er_ ?_
       all_goals(try(with_reducible rfl))
   . have e:a=b:=List.ext_getElem? λi=>by
      by_cases hi:i<k
      . exact k1_1 i hi
      . rw[List.getElem?_eq_none o_,List.getElem?_eq_none o_]
     rw[decide_eq_true e];repeat' with_reducible first|refine s_ ?_|simp -implicitDefEqProofs only[wZZ,seval,g0,g1,g12,g13]|apply qa<;>intro h h_<;>(try simp only[wD,reduceCtorEq]at h_)<;>(try exact wb_)<;>(try simp only[h])
     all_goals refine qw rfl (Or.inr rfl) ?_
     all_goals(try simp -implicitDefEqProofs only[wL,seval,g0,g1,g12,g13])
     all_goals refine er_ ?_
     all_goals(try(with_reducible rfl))
 . have hne:a≠b:=λe=>hl (by rw[e]);rw[decide_eq_false hne]
   skip
   repeat' with_reducible first|refine s_ ?_|simp -implicitDefEqProofs only[wZZ,seval]|apply qa<;>intro h h_<;>(try simp only[wD,reduceCtorEq]at h_)<;>(try exact wb_)<;>(try simp only[h])
   all_goals refine qw rfl (Or.inr rfl) ?_
   all_goals(try simp -implicitDefEqProofs only[wL,seval])
   all_goals refine er_ ?_
   all_goals(try(with_reducible rfl))
theorem qdn{q:Sta}{k:List Int}(hk:k.length<=1000000)(hq:q.ker.length<=1000000):Pure Tryz.prog 113 [q.V,.iptr 1 (.sl 2 false (k.map itV)) 0] (.bool (decide (q.ker=k))):=by
 refine pure_intro Tryz.func113 nm_ ql8 (by show 2<=8;decide) ?_
 show ewp _ qrs _ _;have he:=xO hq hk;obtain ⟨qk,qm⟩:=q;dsimp only at he;dsimp only;repeat' with_reducible first|refine s_ ?_|simp -implicitDefEqProofs only[wZZ,seval]|refine cq2 he qf qf ?_|refine t_ ?_
 all_goals refine qw rfl (Or.inr rfl) ?_
 all_goals(try simp -implicitDefEqProofs only[wL,seval])
 all_goals refine er_ ?_
 all_goals(try(with_reducible rfl))
theorem jC{m:List Sta}{k:List Int}(hm:m.length<=1000000)(hk:k.length<=1000000)(hq:∀q∈m,q.ker.length<=1000000):Pure Tryz.prog 112 [.sl 2 false (m.map Sta.V),.fn 113 [.iptr 1 (.sl 2 false (k.map itV)) 0]] (vi (yO m k)):=by
 refine pure_intro Tryz.func112 nm_ qoK (by show 2<=19;decide) ?_
 show ewp _ qql _ _;repeat' with_reducible first|refine s_ ?_|simp -implicitDefEqProofs only[wZZ,seval]
 refine qc ?nx1 (λ(i:Nat) s=>s.f 0=?v1_0/\s.f 1=?v1_1/\s.f 7=?v1_7/\s.f 8=vi i/\(i<=m.length)/\(yO m k=Q6 k (m.drop i) i)) (λi=>m.length - i) (0) wj_ (by refine⟨?_,?_,?_,?_,wo_,(by rfl)⟩<;>first|(simp -implicitDefEqProofs only[wL,wM,wN,wX,seval,Option.some.injEq]<;>exact wt_)|rfl|exact⟨_,rfl⟩) ?_;intro i s hnx ⟨g0,g1,g7,g8,k1_0,k1_1⟩;have hz:=w1_ i;by_cases hi:i<m.length
 . have hgi:m[i]?=some m[i]:=ge_ hi;have hst:=qh6 (k:=k) (n:=i) hgi;have hpx:=qdn (q:=m[i]) hk (hq _ (List.getElem_mem hi));generalize m[i]=q at *;repeat' with_reducible first|refine s_ ?_|simp -implicitDefEqProofs only[wZZ,seval,g0,g1,g7,g8,hz]|apply qa<;>intro h h_<;>(try simp only[wD,reduceCtorEq]at h_)<;>(try exact wb_)<;>(try simp only[h])|refine t_ ?_
   refine qjg (fid:=113) (caps:=[.iptr 1 (.sl 2 false (k.map itV)) 0]) (as':=[q.V,.iptr 1 (.sl 2 false (k.map itV)) 0]) rfl rfl rfl (qP (qf:Er _ _ q.V q.V) (qP (.iptr _ _ _ _ qf) jy)) hpx (Flat.bool _) ?_;by_cases hc:q.ker=k
   . rw[decide_eq_true hc];rw[if_pos hc]at hst;rw[k1_1,hst];repeat' with_reducible first|refine s_ ?_|simp -implicitDefEqProofs only[wZZ,seval,g0,g1,g7,g8,hz]
     all_goals refine qw rfl (Or.inr rfl) ?_
     all_goals(try simp -implicitDefEqProofs only[wL,seval,g0,g1,g7,g8])
     all_goals refine er_ ?_
     all_goals(try(with_reducible rfl))
   . rw[decide_eq_false hc];rw[if_neg hc]at hst;repeat' with_reducible first|refine s_ ?_|simp -implicitDefEqProofs only[wZZ,seval,g0,g1,g7,g8,hz]
     refine⟨wk_,i+1,o_,?_⟩;refine⟨?_,?_,?_,?_,?_,?_⟩;iterate 4 (focus(first|(simp -implicitDefEqProofs only[wL,wM,wN,wX,seval,Option.some.injEq,g0,g1,g7,g8]<;>exact wt_)|rfl|exact⟨_,rfl⟩))
     all_goals try omega
 . have e:m.drop i=[]:=List.drop_of_length_le o_;rw[e]at k1_1;rw[k1_1];repeat' with_reducible first|refine s_ ?_|simp -implicitDefEqProofs only[wZZ,seval,g0,g1,g7,g8,hz]|apply qa<;>intro h h_<;>(try simp only[wD,reduceCtorEq]at h_)<;>(try exact wb_)<;>(try simp only[h])
   all_goals refine qw rfl (Or.inr rfl) ?_
   all_goals(try simp -implicitDefEqProofs only[wL,seval,g0,g1,g7,g8])
   all_goals refine er_ ?_
   all_goals(try(with_reducible rfl))
   all_goals rfl
theorem qy0{id i:Nat}{s:St}{K:V->St->Prop}{L:List Int}(hH:s.H i=some (.own 2 (L.map itV) false))(h0:0<L.length)(hr:jl L)(hl:L.length<=1000000)(hk:K (.tup []) s):vI Tryz.prog .any id s K 108 [.msl i 2 0 L.length,.fn 109 []]:=by
 obtain ⟨L',hp,hs,hE⟩:=KZ (next:=s.next) hH h0 o_;have hn:L'.Nodup:=hp.nodup_iff.2 (hr.imp λh e=>by omega);have hr':jl L':=(hs.and hn).imp λ⟨a,b⟩=>by omega
 have e:L'=L:=yU hr' hr λx=>hp.mem_iff;subst e;refine qcY rfl (hE.mono ?_);rintro v H' n' ⟨rfl,rfl,h2,h3⟩;have e:H'=s.H:=by
  funext j;by_cases hj:j=i
  . subst hj;rw[h2,hH]
  . exact h3 j hj
 subst e;exact hk
theorem qy1{id i:Nat}{s:St}{K:V->St->Prop}{L:List Int}(hH:s.H i=some (.own 2 (L.map itV) false))(hr:jl L)(hl:L.length<=1000000)(hk:∀H',(∀j,j≠i->H' j=s.H j)->K (.sl 2 false (L.map itV)) {s with H:=H'}):vI Tryz.prog .any id s K 110 [.msl i 2 0 L.length]:=by
 have hh:rsH (λj=>decide (j=i)) s.H i=some (.own 2 (L.map itV) false):=by unfold rsH;rw[if_pos (by simp)];exact hH
 refine qcY rfl ((xI (λj=>decide (j=i)) (qP (qeQ hh rfl) jy) (qO (L:=L) hr o_)).mono ?_);rintro v H' n' ⟨rfl,rfl,rfl⟩;refine hk _ λj hj=>?_;unfold frH;rw[if_neg (by simpa using hj)]
theorem qia{m:List Sta}{k:List Int}(h0:0<k.length)(hr:jl k)(hm:m.length<=1000000)(hk:k.length<=1000000)(hq:∀q∈m,q.ker.length<=1000000):Pure Tryz.prog 74 [.sl 2 false (m.map Sta.V),.sl 2 false (k.map itV)] (vi (yO m k)):=by
 refine pure_intro Tryz.func74 nm_ qqZ (by show 2<=15;decide) ?_
 show ewp _ qxe _ _;have hix:=jC hm hk hq;have hcm:=qO (L:=k) hr o_;repeat' with_reducible first|refine qF ?_|simp -implicitDefEqProofs only[wZZ,seval]|(refine qL rfl rfl rfl ((qrl h0 hk).mono ?_);rintro v1 H1 n1 ⟨q1,⟨id,rfl,q2,q3,q4⟩,q5⟩)|apply Y9;exact wu_|apply qdm;exact wu_;exact wu_;exact wu_
 (try simp only[wN]at q1 q3 q4);repeat' with_reducible first|refine qF ?_|simp -implicitDefEqProofs only[wZZ,seval]|(refine qy0 (by((try simp only[wM]);(repeat first|rw[if_pos trivial]|rw[if_pos rfl]|rw[if_neg o_]));exact q2) h0 hr hk ?_)|(refine qy1 (by((try simp only[wM]);(repeat first|rw[if_pos trivial]|rw[if_pos rfl]|rw[if_neg o_]));exact q2) hr hk ?_)|apply Y9;exact wu_|simp -implicitDefEqProofs (disch:=omega) only[w64,if_neg]
 intro H2 h2;have hb:H2 3=_:=(h2 3 o_).trans hh_;repeat' with_reducible first|refine qF ?_|simp -implicitDefEqProofs only[wZZ,seval,hb]|apply qdm;exact wu_;exact wu_;exact wu_
 refine qJ (hp:=hix) qf (qg7 (.cons (.ptr 3 0 0 1 [V.sl 2 false (k.map itV)] false (.sl 2 false (k.map itV)) _ rfl rfl rfl qf) .nil)) wu_ (Flat.int _ _) ?_;repeat' with_reducible first|refine vD ?_
 all_goals refine qw rfl (Or.inr rfl) ?_
 all_goals(try simp -implicitDefEqProofs only[wL,seval])
 all_goals refine er_ ?_
 all_goals(try(with_reducible rfl))

set_option maxHeartbeats 8000000
theorem qpT{g:Grammar}(hg:GOk g)(h1000:∀x,nxt g x≠1000):Pure Tryz.prog 35 [g.V] (qqr (Zc g)):=by
 refine pure_intro Tryz.func35 nm_ qq5 (by show 1<=74;decide) ?_
 show ewp _ qrc _ _;have hsm:=qcU hg;have hsl:=VS hg;have hss:=VH (g:=g);obtain ⟨R,hR⟩:∃R,R=Zc g:=⟨_,rfl⟩;have hR0:kX g 151 [⟨[0],[]⟩] 0=R:=hR.symm;rw[<- hR];have hA0:=qhJ hg;have hK0:qdw [⟨[0],[]⟩]:=λq hq x hx _=>by rw[List.mem_singleton]at hq;subst hq;simpa using hx
 have hsy:zu g=zu g:=rfl;repeat' with_reducible first|refine s_ ?_|simp -implicitDefEqProofs only[wZZ,seval]|refine cq1 hsm qf ?_|refine t_ ?_
 refine qc ?nx1 (λ(p:Nat×List Sta) s=>s.f 1=?v1_1/\s.f 5=?v1_5/\s.H 0=some (.own 5 [g.V] false)/\s.f 6=vi p.1/\(p.1<=p.2.length)/\(AutI g p.2 p.1 0)/\(qdw p.2)/\(kX g (151 - p.1) p.2 p.1=R)/\((∃id es,s.f 4=.msl id 2 0 p.2.length/\s.H id=some (.own 2 es false)/\1<=id/\id<s.next/\qqo es p.2 p.1))) (λp=>151 - p.1) ((0,[⟨[0],[]⟩])) wj_ (by refine⟨?_,?_,?_,?_,wo_,(by exact hA0),(by exact hK0),(by exact hR0),(by exact⟨6,_,(by(simp -implicitDefEqProofs only[wL,seval])<;>rfl),(by(simp only[wM];(repeat first|rw[if_pos trivial]|rw[if_pos rfl]|rw[if_neg o_]))<;>rfl),o_,wg_,qlz⟩)⟩<;>first|(simp -implicitDefEqProofs only[wL,wM,wN,wX,seval,Option.some.injEq]<;>exact wt_)|rfl|exact⟨_,rfl⟩) ?_;intro p s hnx ⟨g1,g5,o0,g6,k1_0,k1_1,k1_2,k1_3,k1_4⟩;obtain ⟨i,m⟩:=p;dsimp only at *;obtain ⟨id,es,g4,oo,hid1,hid2,hT⟩:=k1_4;have hml:=k1_1.len;have hz:=w1_ i;by_cases hi:i<m.length
 . rw [show 151 - i=(150 - i)+1 by omega]at k1_3;unfold kX at k1_3;rw[if_pos hi]at k1_3;obtain ⟨vK,q,hU,hq0⟩:=hT.start (H:=s.H) (next:=s.next) hi;have hqm:=hU.2.1;have hes:=hU.2.2.1;have hK:=hU.2.2.2.1;have hmem:=List.mem_of_getElem? hqm;have hkl:=k1_1.kl hg.pl2 _ hmem;have hkr:=k1_1.kr _ hmem;have hki:=k1_1.ki _ hmem;have hcl:=YV hg hki hkr (k1_2.k0 hg _ hmem) h1000;have hkA:qR m i=q.ker:=(by unfold qR;rw[hqm];rfl);obtain ⟨hcI,hok,hcb⟩:=zm hg hki hkr;have hcr:=hcI.rise;have hsS:=λm' s h1 h2=>qiB (g:=g) (i:=i) (m:=m') (k:=q.ker) (s:=s) h1 hcr h2;have hso:=λs=>qrw (s:=s) hg hki hkr;have hsK:=λ(l:List Int) (m':List Sta)=>qaW hg (i:=i) (A:=yA g (qC g q.ker)) l m m' k1_2;rw[hkA]at k1_3;clear hcI;generalize yA g (qC g q.ker)=A at *;generalize qC g q.ker=C at *;repeat' with_reducible first|refine s_ ?_|simp -implicitDefEqProofs only[wZZ,seval,g1,g5,g6,o0,g4]|apply qa<;>intro h h_<;>(try simp only[wD,reduceCtorEq]at h_)<;>(try exact wb_)<;>(try simp only[h])|apply zh;omega;(focus(rw[Int.toNat_natCast];exact hi))|(rw[oo];refine Zb rfl hes wu_ ?_)|refine cq2 hcl qf hK.er ?_|refine t_ ?_
   refine qc ?nx2 (λ(r:Nat×List Sta) s=>s.f 1=?v2_1/\s.f 5=?v2_5/\s.f 6=?v2_6/\s.f 7=?v2_7/\s.f 31=?v2_31/\s.f 32=?v2_32/\s.H 0=some (.own 5 [g.V] false)/\s.f 33=vi r.1/\(r.1<=(zu g).length)/\(AutI g r.2 i r.1)/\((i<r.2.length))/\(((zu g).take r.1).foldl (zU g i A) (some m)=some r.2)/\(qR r.2 i=q.ker)/\((∃id es vK vM q,s.f 4=.msl id 2 0 r.2.length/\s.H id=some (.own 2 es false)/\1<=id/\id<s.next/\qeB s.H s.next es r.2 i vK vM q))) (λr=>(zu g).length - r.1) ((0,m)) wj_ (by refine⟨?_,?_,?_,?_,?_,?_,?_,?_,wo_,(by exact k1_1),(by exact hi),(by rfl),(by exact hkA),(by exact⟨id,es,vK,_,q,(by(simp -implicitDefEqProofs only[wL,seval]);assumption),oo,o_,wg_,hU.1,hU.2.1,hU.2.2.1,hU.2.2.2.1,(by rw[hq0];exact Gr.nil),hU.2.2.2.2.2⟩)⟩<;>first|(simp -implicitDefEqProofs only[wL,wM,wN,wX,seval,Option.some.injEq,g1,g5,g6,o0]<;>exact wt_)|rfl|exact⟨_,rfl⟩) ?_;intro r s hnx ⟨g1,g5,g6,g7,g31,g32,o0,g33,k2_0,k2_1,k2_2,k2_3,k2_4,k2_5⟩;obtain ⟨k,m'⟩:=r;dsimp only at *;obtain ⟨id2,es2,vK2,vM2,q2,h4,oo2,hid3,hid4,hU2⟩:=k2_5;have hzk:=w1_ k;have hml':=k2_1.len;by_cases hk:k<(zu g).length
   . have hgk:(zu g)[k]?=some (zu g)[k]:=ge_ hk;have hsi:=hss _ (List.getElem_mem hk);have hst:=kN (zU g i A) (some m) hgk;rw[k2_3]at hst;generalize (zu g)[k]=sy at *;rw[hsS m' sy k2_4 (qek hsi)]at hst;obtain ⟨hoR,hoI,ho16⟩:=hso sy;have hol:=Nat.le_trans (qgX g C sy) hcb;have hstp:=qd3 (sy:=sy) hg hok hcb;have hqm2:=hU2.2.1;have hes2:=hU2.2.2.1;have hK2:=hU2.2.2.2.1;have hG2:=hU2.2.2.2.2.1;have hmem2:=List.mem_of_getElem? hqm2;have hkl2:=k2_1.kl hg.pl2;have hql:q2.mov.length<=64:=(by have:=k2_1.mvl i q2 hqm2;rw[if_neg o_,if_pos rfl]at this;omega);have hfi:=λh0=>qia (m:=m') (k:=ZY g C sy) h0 hoR o_ o_ (λq h=>by have:=hkl2 q h;omega);have hfc:=Jh (k:=ZY g C sy) m';generalize ZY g C sy=O at *;generalize yO m' O=fn at *;have hEr:∀H':Nat->Option MObj,H'=s.H->Er true H' (.msl id2 2 0 m'.length) (.sl 2 false (m'.map Sta.V)):=λH' e=>by
      subst e;refine Xu (ro:=false) oo2 hU2.1.up ?_;have:=hU2.1.len;rw[List.length_map]at this;exact this.symm
     have hlt2:1<[vK2,vM2].length:=(by simp);by_cases hc:O=[]
     . rw[if_pos hc]at hst;subst hc;repeat' with_reducible first|refine s_ ?_|simp -implicitDefEqProofs only[wZZ,seval,g1,g5,g6,g7,g31,g32,g33,o0,hzk,h4]|apply qa<;>intro h h_<;>(try simp only[wD,reduceCtorEq]at h_)<;>(try exact wb_)<;>(try simp only[h])|refine t_ ?_|refine cq3 hstp qf qf qf ?_
       all_goals refine⟨wg_,(k+1,m'),by dsimp only;omega,?_⟩
       all_goals repeat refine⟨True.intro,?_⟩
       all_goals exact⟨rfl,by dsimp only;omega,k2_1.skip,k2_2,hst,k2_4,⟨id2,es2,vK2,vM2,q2,rfl,oo2,hid3,o_,hU2.mono wg_ (λ_ _ _=>rfl)⟩⟩
     . rw [if_neg hc]at hst;have h0:0<O.length:=List.length_pos_iff.2 hc;have hfi:=hfi h0;rcases hfc with hf|⟨t,hf,q3,hq3,_⟩
       . rw [if_pos o_]at hst;subst hf;have hlm:(q2.mov.map prV).length=q2.mov.length:=List.length_map _;have hnl:m'.length=es2.length:=(by have:=hU2.1.len;rw[List.length_map]at this;exact this);have hne:=λx h=>Gr.ne hG2 oo2 (x:=x) h;have hi3:i<es2.length+[V.agg [V.sl 2 false (O.map itV),.sl 2 true []]].length:=(by rw[List.length_singleton];omega);have hes3:(es2++[V.agg [V.sl 2 false (O.map itV),.sl 2 true []]])[i]?=some (.agg [vK2,vM2]):=(by rw[List.getElem?_append_left o_];exact hes2);by_cases hm:m'.length=150
         . rw[if_pos hm]at hst;repeat' with_reducible first|refine s_ ?_|simp -implicitDefEqProofs only[wZZ,seval,g1,g5,g6,g7,g31,g32,g33,o0,hzk,h4]|apply qa<;>intro h h_<;>(try simp only[wD,reduceCtorEq]at h_)<;>(try exact wb_)<;>(try simp only[h])|refine t_ ?_|refine cq3 hstp qf qf qf ?_|apply qJ (hp:=hfi);(focus(refine hEr _ ?_;first|rfl|(simp only[wM];done)));exact qf;exact wu_;exact Flat.int _ _|(refine Qt rfl (by first|exact oo2|(simp only[wM];exact oo2)) hnl za.sl (by simp only[wZ]<;>omega) (by unfold maxLen;simp only[wZ]<;>omega) ?_)
           have hRn:R=none:=by rw[<- k1_3];have e1:(zu g).foldl (zU g i A) (some m)=((zu g).drop (k+1)).foldl (zU g i A) (((zu g).take (k+1)).foldl (zU g i A) (some m)):=(by rw[<- List.foldl_append,List.take_append_drop]);rw[e1,hst,xE];rfl
           subst hRn;refine qiZ rfl (Or.inr rfl) ?_;(simp -implicitDefEqProofs only[wL,seval]);exact ErL.tup (.cons (ErL.sl .nil) (.cons (.int _ _) .nil))
         . rw[if_neg hm]at hst;repeat' with_reducible first|refine s_ ?_|simp -implicitDefEqProofs only[wZZ,seval,g1,g5,g6,g7,g31,g32,g33,o0,hzk,h4]|apply qa<;>intro h h_<;>(try simp only[wD,reduceCtorEq]at h_)<;>(try exact wb_)<;>(try simp only[h])|refine t_ ?_|refine cq3 hstp qf qf qf ?_|apply qJ (hp:=hfi);(focus(refine hEr _ ?_;first|rfl|(simp only[wM];done)));exact qf;exact wu_;exact Flat.int _ _|(refine Qt rfl (by first|exact oo2|(simp only[wM];exact oo2)) hnl za.sl (by simp only[wZ]<;>omega) (by unfold maxLen;simp only[wZ]<;>omega) ?_)|(refine Zb rfl hes3 wu_ ?_)|apply zC rfl (hG2.mono (Nat.le_refl _) (λx h1 h2=>by have:=hne x h1;(try simp only[wM]);(repeat rw[if_neg o_])));exact za.sl;(focus(simp only[wZ,hlm];omega));(focus(unfold maxLen;simp only[wZ,hlm];omega))|(refine qbn (Yu (λx h=>by have:=hG2.lt h;omega) (by(try simp only[wM]);(repeat first|rw[if_pos trivial]|rw[if_pos rfl]|rw[if_neg o_]))) hes3 wu_ wu_ wu_ hlt2 ?_)|simp -implicitDefEqProofs (disch:=omega) only[w64,if_neg]
           have hq':(m'++[(⟨O,[]⟩:Sta)])[i]?=some q2:=(by rw[List.getElem?_append_left k2_2];exact hqm2);have hU3:=hU2.snoc (o:=O) (vO:= .sl 2 false (O.map itV)) qf (Nat.le_refl _) (λ_ _ _=>rfl);refine⟨wg_,(k+1,zx (m'++[⟨O,[]⟩]) i sy m'.length),by dsimp only;omega,?_⟩;repeat refine⟨True.intro,?_⟩
           exact⟨Yu (λx h=>Gr.ne hG2 o0 h) (by((try simp only[wM]);(repeat first|rw[if_pos trivial]|rw[if_pos rfl]|rw[if_neg o_]));exact o0),rfl,by dsimp only;omega,(k2_1.snoc k2_2 o_ hoR hoI).add hq' hsi (by simp),by dsimp only;rw[qN hq',List.length_set,List.length_append];omega,hst,by dsimp only;rw[KP,qjD k2_2];exact k2_4,⟨_,_,vK2,_,_,by dsimp only;rw[qN hq',List.length_set,List.length_append,hnl];rfl,if_pos rfl,o_,wg_,hU3.add (by rw[List.map_append];exact Gr.tok hh_ wg_)⟩⟩
       . rw[if_neg o_]at hst;subst hf;have ht:=(List.getElem?_eq_some_iff.1 hq3).1;have hlm:(q2.mov.map prV).length=q2.mov.length:=List.length_map _;repeat' with_reducible first|refine s_ ?_|simp -implicitDefEqProofs only[wZZ,seval,g1,g5,g6,g7,g31,g32,g33,o0,hzk,h4]|apply qa<;>intro h h_<;>(try simp only[wD,reduceCtorEq]at h_)<;>(try exact wb_)<;>(try simp only[h])|refine t_ ?_|apply zh;omega;(focus(rw[Int.toNat_natCast];exact k2_2))|(rw[oo2];refine Zb rfl hes2 wu_ ?_)|refine cq3 hstp qf qf qf ?_|apply qJ (hp:=hfi);(focus(refine hEr _ ?_;first|rfl|(simp only[wM];done)));exact qf;exact wu_;exact Flat.int _ _|apply zC rfl (hG2.mono (Nat.le_refl _) (λid h1 h2=>by(try simp only[wM]);(repeat rw[if_neg o_])));(focus(first|exact za.sl|exact za.asl));(focus(simp only[wZ,hlm];omega));(focus(unfold maxLen;simp only[wZ,hlm];omega))|(refine qbn (hG2.dropO oo2) hes2 wu_ wu_ wu_ hlt2 ?_)|simp -implicitDefEqProofs (disch:=omega) only[w64,if_neg]
         refine⟨wg_,(k+1,zx m' i sy t),by dsimp only;omega,?_⟩;repeat refine⟨True.intro,?_⟩
         exact⟨hG2.dropO o0,rfl,by dsimp only;omega,k2_1.add hqm2 hsi ht,by dsimp only;rw[qN hqm2,List.length_set];exact k2_2,hst,by dsimp only;rw[KP];exact k2_4,⟨id2,_,vK2,_,_,by dsimp only;rw[qN hqm2,List.length_set],if_pos rfl,hid3,wg_,hU2.add (by rw[List.map_append];exact Gr.tok hh_ wg_)⟩⟩
   . have e:(zu g).take k=zu g:=List.take_of_length_le o_;rw[e]at k2_3;have hMk:=hsK _ _ k2_3;rw[k2_3]at k1_3;repeat' with_reducible first|refine s_ ?_|simp -implicitDefEqProofs only[wZZ,seval,g1,g5,g6,g7,g31,g32,g33,o0,hz]|apply qa<;>intro h h_<;>(try simp only[wD,reduceCtorEq]at h_)<;>(try exact wb_)<;>(try simp only[h])
     refine⟨wg_,(i+1,m'),by dsimp only;omega,?_⟩;repeat refine⟨True.intro,?_⟩
     exact⟨rfl,by dsimp only;omega,k2_1.next o_,hMk,by dsimp only;rw[show 151 - (i+1)=150 - i by omega];exact k1_3,id2,es2,h4,oo2,hid3,o_,hU2.done⟩
 . have e:i=m.length:=o_;rw[show 151 - i=(150 - i)+1 by omega]at k1_3;unfold kX at k1_3;rw[if_neg hi]at k1_3
   skip
   subst k1_3;repeat' with_reducible first|refine s_ ?_|simp -implicitDefEqProofs only[wZZ,seval,g1,g5,g6,o0,g4]|apply qa<;>intro h h_<;>(try simp only[wD,reduceCtorEq]at h_)<;>(try exact wb_)<;>(try simp only[h])
   refine qiZ rfl (Or.inr rfl) ?_;(simp -implicitDefEqProofs only[wL,seval]);refine ErL.tup (.cons (Xu (ro:=false) (by(simp only[wM];(repeat first|rw[if_pos trivial]|rw[if_pos rfl]|rw[if_neg o_]));exact oo) hT.1.up ?_) (.cons (.int _ _) .nil));have:=hT.1.len;rw[List.length_map]at this;exact this.symm
end Go.Proofs
