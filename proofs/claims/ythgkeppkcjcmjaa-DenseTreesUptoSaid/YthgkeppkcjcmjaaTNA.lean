/- Part of a proof that a law of the given program answers true. -/
import Derived.Test.YthgkeppkcjcmjaaTKA
import Derived.Test.YthgkeppkcjcmjaaTDE
set_option linter.unusedSimpArgs false
set_option linter.unusedVariables false
set_option maxHeartbeats 4000000
namespace Go.Proofs
open Go.E
abbrev qsx (s:Int):Prop:=s≠0∧s≠2∧s≠1000
abbrev RPr (l:List GPr):Prop:= ∀p∈l,∀s∈p.right,qsx s
abbrev Bad (m:Mk):Prop:=m.e≠0∨1000<m.toks.length
theorem qf7 (x:Sym): ∀(l:List Tok) (i:Nat),QZ x l i= -1∨((i:Int)≤QZ x l i∧QZ x l i≠2)
 |[],i=>Or.inl rfl
 | t ::r,i=>by
   rw[QZ]
   split
   · rename_i h;exact Or.inr ⟨Int.le_refl _,by have:=h.2.2;omega⟩
   · rcases qf7 x r (i+1)with h|h
     · exact Or.inl h
     · exact Or.inr ⟨o_,h.2⟩
theorem qi6 {m:Mk} (x:Sym) (h3:3≤m.toks.length) (h:0≤Ki m.toks x):Bad m∨qsx (Ki m.toks x):=by
 have hb:=V4 x m.toks o_
 by_cases e:Ki m.toks x=1000
 · left;right;omega
 · right
   unfold Ki at *
   rcases qf7 x (m.toks.drop 1) 1 with h1|h1
   · omega
   · exact⟨o_,h1.2,e⟩
theorem V8 (m:Mk) (a:Int) (n:List UInt8):(zl m a n).e≠0:=by
 unfold zl
 split
 · simp
 · assumption
theorem qbt (m:Mk) (a:Int) (n:List UInt8):Bad (zl m a n):=Or.inl (V8 m a n)
theorem qA1 {m:Mk} (x:Sym) (h3:3≤m.toks.length):(Bad (QR m x).1∨qsx (QR m x).2)∧(Bad m→Bad (QR m x).1):=by
 unfold QR
 split
 · rename_i h;exact⟨qi6 x h3 h,id⟩
 · dsimp only
   refine⟨?_,fun h=>?_⟩
   · by_cases e:(m.toks.length:Int)=1000
     · left;right;dsimp only;rw[List.length_append];simp;omega
     · exact Or.inr ⟨o_,o_,e⟩
   · rcases h with h|h
     · left
       dsimp only
       split
       · exact V8 _ _ _
       · exact h
     · right;dsimp only;rw[List.length_append];omega
theorem qh7 {m:Mk} (x:Sym) (h3:3≤m.toks.length):(Bad (xP m x).1∨qsx (xP m x).2)∧(Bad m→Bad (xP m x).1):=by
 have hb:=ja x.name m.lefts 0
 unfold xP
 split
 · exact qA1 x h3
 · split
   · exact⟨Or.inr ⟨by dsimp only;omega,by dsimp only;omega,by dsimp only;omega⟩,id⟩
   · split
     · exact⟨Or.inl (qbt _ _ _),fun _=>qbt _ _ _⟩
     · rename_i h;exact⟨qi6 x h3 (Int.not_lt.1 h),id⟩
theorem qa2: ∀(l:List Part) (m:Mk) (p:GPr),3≤m.toks.length→0≤m.inner→(Bad m∨(RPr m.prods∧ ∀s∈p.right,qsx s))→Bad (zH l (m,p)).1∨(RPr (zH l (m,p)).1.prods∧ ∀s∈(zH l (m,p)).2.right,qsx s)
 |[],m,p,h3,hi,h=>by rw[Zo];exact h
 | w :: r, m,p,h3,hi,h=>by
   rw[yF]
   obtain ⟨y1,y2,y3,y4,y5,y6,y7,y8⟩:=vg m w.sym
   obtain ⟨s1,s2⟩:=qh7 w.sym h3
   split
   · refine qa2 r _ _ o_ o_ ?_
     rcases h with h|⟨h1,h2⟩
     · exact Or.inl (s2 h)
     · rcases s1 with s1|s1
       · exact Or.inl s1
       · right
         rw[y3]
         refine⟨h1,fun s hs=>?_⟩
         rcases List.mem_append.1 hs with hs|hs
         · exact h2 s hs
         · rw[List.mem_singleton]at hs;subst hs;exact s1
   · split
     · exact h
     · refine qa2 r _ _ h3 (by dsimp only;omega) ?_
       rcases h with h|⟨h1,h2⟩
       · exact Or.inl h
       · right
         refine⟨fun q hq s hs=>?_,fun s hs=>?_⟩
         · rcases List.mem_append.1 hq with hq|hq
           · exact h1 q hq s hs
           · rw[List.mem_singleton]at hq;subst hq;cases hs
         · dsimp only at hs
           rcases List.mem_append.1 hs with hs|hs
           · exact h2 s hs
           · rw[List.mem_singleton]at hs;exact⟨o_,o_,o_⟩
theorem RPr.snoc {l:List GPr} {p:GPr} (h:RPr l) (hp: ∀s∈p.right,qsx s):RPr (l++[p]):=fun q hq=>by
 rcases List.mem_append.1 hq with hq|hq
 · exact h q hq
 · rw[List.mem_singleton]at hq;subst hq;exact hp
theorem qvu {m:Mk} (n:List UInt8) (a:Alt) (hI:MInv m) (h:Bad m∨RPr m.prods):Bad (Xa m n a)∨RPr (Xa m n a).prods:=by
 have h1:=qa2 a.parts m {left:=1+qE n m.lefts 0,prec:= -1,at_:=a.at_} hI.tk hI.inn (h.imp id fun h=>⟨h,fun s hs=>by cases hs⟩)
 have h2:=(Xf a.parts m {left:=1+qE n m.lefts 0,prec:= -1,at_:=a.at_} hI (fun s hs=>by cases hs)).1.tk
 unfold Xa
 dsimp only
 generalize zH a.parts (m,{left:=1+qE n m.lefts 0,prec:= -1,at_:=a.at_})=q at *
 obtain ⟨y1,y2,y3,y4,y5,y6,y7,y8⟩:=vg q.1 a.prec
 split
 · split
   · rcases h1 with h1|⟨h1,h3⟩
     · exact Or.inl ((qh7 a.prec h2).2 h1)
     · right;dsimp only;rw[y3];exact h1.snoc h3
   · exact Or.inl (qbt _ _ _)
 · rcases h1 with h1|⟨h1,h3⟩
   · exact Or.inl h1
   · exact Or.inr (h1.snoc h3)
theorem qbX (n:List UInt8): ∀(l:List Alt) (m:Mk),MInv m→(Bad m∨RPr m.prods)→Bad (zI n l m)∨RPr (zI n l m).prods
 |[],m,_,h=>h
 |a::r,m,hI,h=>by rw[xM];exact qbX n r _ (qdS n a hI) (qvu n a hI h)
theorem qej: ∀(l:List Rule) (m:Mk),MInv m→(Bad m∨RPr m.prods)→Bad (yh l m)∨RPr (yh l m).prods
 |[],m,_,h=>h
 |r::l,m,hI,h=>by rw[yx];exact qej l _ (Xn r.left r.alts m hI) (qbX r.left r.alts m hI h)
theorem YS {n:List UInt8}: ∀{l:List (List UInt8)} (i:Nat),n∈l→0≤qE n l i
 | t ::r,i,h=>by
   rw[qE]
   split
   · omega
   · rename_i hn
     rcases List.mem_cons.1 h with e|h
     · exact absurd e.symm hn
     · exact YS (i+1) h
theorem KM {n:List UInt8}: ∀{l:List (List UInt8)} (i:Nat),0≤qE n l i→n∈l
 |[],i,h=>by rw[qE]at h;omega
 | t::r,i,h=>by
   rw[qE]at h
   split at h
   · rename_i e;subst e;simp
   · exact List.mem_cons_of_mem _ (KM (i+1) h)
theorem qE2 {m:Mk} {k:Int} {x:Sym} (h:m.e≠0):(qhI m k x).e≠0:=by
 unfold qhI;split
 · exact V8 _ _ _
 · exact h
theorem VP {k:Int}: ∀{l:List Sym} {m:Mk},m.e≠0→(jC k l m).e≠0
 |[],m,h=>h
 |x::r,m,h=>by rw[yY];exact VP (qE2 h)
theorem qd3: ∀{l:List Decl} {m:Mk},m.e≠0→(vI l m).e≠0
 |[],m,h=>h
 |d::r,m,h=>by rw[Qb];exact qd3 (VP h)
theorem qbH {k:Int} (hk:5≤k) {x:Sym}: ∀{l:List Sym} {m:Mk},x∈l→(jC k l m).e≠0∨0≤qE x.name m.lefts 0
 | y ::r,m,h=>by
   rw[yY]
   rcases List.mem_cons.1 h with rfl|h
   · by_cases h0:qE x.name m.lefts 0<0
     · left
       refine VP ?_
       unfold qhI
       rw[if_pos ⟨hk,h0⟩]
       exact V8 _ _ _
     · right;omega
   · have:=qbH hk (m:=qhI m k y) h
     rwa [(qjx m k y).2.2.1]at this
theorem qe2 {d:Decl} (hk:5≤d.kind) {x:Sym} (hx:x∈d.syms): ∀{l:List Decl} {m:Mk},d∈l→(vI l m).e≠0∨0≤qE x.name m.lefts 0
 | y ::r,m,h=>by
   rw[Qb]
   rcases List.mem_cons.1 h with rfl|h
   · exact(qbH hk hx).imp qd3 id
   · have:=qe2 hk hx (m:=jC y.kind y.syms m) h
     rwa [(VO y.kind y.syms m).2.2.1]at this
theorem qbp (d:Decl): ∀(l:List Sym) (m:Mk) (st:List UInt8),(zJ d l (m,st)).2=st∨(d.kind=6∧ ∃x∈l,(zJ d l (m,st)).2=x.name)
 |[],m,st=>Or.inl rfl
 | x ::r,m,st=>by
   rw[Jh]
   split
   · rcases qbp d r (yT m d x) st with h|⟨h1,y,h2,h3⟩
     · exact Or.inl h
     · exact Or.inr ⟨h1,y,List.mem_cons_of_mem _ h2,h3⟩
   · rename_i hk
     rcases qbp d r (if st≠[]then zl m x.at_ x.name else m) x.name with h|⟨h1,y,h2,h3⟩
     · exact Or.inr ⟨by simpa using hk,x,by simp,h⟩
     · exact Or.inr ⟨h1,y,List.mem_cons_of_mem _ h2,h3⟩
theorem qft: ∀(l:List Decl) (m:Mk) (st:List UInt8),(jw l (m,st)).2=st∨ ∃d∈l,d.kind=6∧ ∃x∈d.syms,(jw l (m,st)).2=x.name
 |[],m,st=>Or.inl rfl
 | d ::r,m,st=>by
   rw[Je]
   have h1:=qbp d d.syms (Jy m d) st
   have h2:=qft r (zJ d d.syms (Jy m d,st)).1 (zJ d d.syms (Jy m d,st)).2
   rcases h2 with h2|⟨y,h3,h4,x,h5,h6⟩
   · rcases h1 with h1|⟨h1,x,h3,h4⟩
     · exact Or.inl (h2.trans h1)
     · exact Or.inr ⟨d,by simp,h1,x,h3,h2.trans h4⟩
   · exact Or.inr ⟨y,List.mem_cons_of_mem _ h3,h4,x,h5,h6⟩
theorem qHZ (m:Mk) (n:List UInt8):n∈(JZ m n).lefts∧ ∀x∈m.lefts,x∈(JZ m n).lefts:=by
 unfold JZ
 split
 · exact⟨by simp,fun x hx=>by simp[hx]⟩
 · rename_i h;exact⟨KM 0 o_,fun x hx=>hx⟩
theorem qeQ: ∀(l:List Rule) (m:Mk) (x:List UInt8),(x∈m.lefts∨ ∃r∈l,x=r.left)→x∈(xI l m).lefts
 | [],m,x,h=>by
   rcases h with h|⟨r,hr,_⟩
   · exact h
   · cases hr
 | r ::l,m,x,h=>by
   rw[Jc]
   obtain ⟨d1,d2,d3,d4,d5,d6⟩:=qbG m r
   have ha:=qHZ (Qf m r) r.left
   refine qeQ l _ x ?_
   rcases h with h|⟨q,hq,e⟩
   · exact Or.inl (ha.2 x (by rw[d2];exact h))
   · rcases List.mem_cons.1 hq with rfl|hq
     · subst e;exact Or.inl ha.1
     · exact Or.inr ⟨q,hq,e⟩
theorem qgH {src:Source} (h:jM src=true):(Kr src).e≠0∨0≤qE (vk src) (Kr src).lefts 0:=by
 have hl:(Kr src).lefts=(xI src.rules (jw src.decls ({},[])).1).lefts:=(qa7 src.decls _).2.2.1
 have hne:src.rules≠[]:=by
  unfold jM at h
  simp only[Bool.and_eq_true,Bool.not_eq_true',decide_eq_false_iff_not]at h
  exact h.2
 rw[hl]
 unfold vk
 by_cases e:(jw src.decls ({},[])).2=[]
 · rw[if_pos e]
   right
   refine YS 0 (qeQ _ _ _ (Or.inr ?_))
   cases hr:src.rules with
   |nil=>exact absurd hr hne
   |cons r l=>exact⟨r,by simp,rfl⟩
 · rw[if_neg e]
   rcases qft src.decls {} []with h1|⟨d,h1,h2,x,h3,h4⟩
   · exact absurd h1 e
   · rw[h4]
     exact qe2 o_ h3 h1
theorem qoz {src:Source} (hm:jM src=true):Bad (jJ src)∨RPr (jJ src).prods:=by
 obtain ⟨h1,h2,h3⟩:=qjh src
 have hl:=ja (vk src) (Kr src).lefts 0
 rw[Km]
 refine qej _ _ ⟨h1,by dsimp only;omega,fun p hp=>?_,fun p hp s hs=>?_,fun p hp=>?_⟩ ((qgH hm).imp Or.inl fun h0 p hp s hs=>?_)<;>(dsimp only at hp;rw[List.mem_singleton]at hp;subst hp)
 · unfold YI;dsimp only;omega
 · unfold YI at hs;dsimp only at hs ⊢;rw[List.mem_singleton]at hs;subst hs
   exact Or.inr ⟨(1+qE (vk src) (Kr src).lefts 0).toNat,o_,o_⟩
 · exact Or.inl rfl
 · unfold YI at hs;dsimp only at hs;rw[List.mem_singleton]at hs;subst hs
   exact⟨o_,o_,o_⟩
theorem Vf {src:Source} (h:YP src=true):RPr (qL src).prods:=by
 obtain ⟨hm,he,_,e⟩:=qcm h
 have htk:=(gok h).tk2
 rw[e]at htk ⊢
 dsimp only at htk ⊢
 rw[(qbc (jJ src)).1]at htk
 rw[(qbc (jJ src)).2.2]
 exact(qoz hm).resolve_left fun h=>h.elim (fun h=>h he) (fun h=>by omega)

abbrev MvA (g:Grammar) (m:List Sta):Prop:= ∀q∈m,∀p∈q.mov,p.1∈J6 g q.ker
theorem MvA.add {g:Grammar} {m:List Sta} {i:Nat} {s t:Int} {q:Sta} (h:MvA g m) (hq:m[i]?=some q) (hs:s∈J6 g q.ker):MvA g (xJ m i s t):=by
 rw[zh hq]
 intro x hx p hp
 rcases List.mem_or_eq_of_mem_set hx with hx|rfl
 · exact h x hx p hp
 · rcases List.mem_append.1 hp with hp|hp
   · exact h q (List.mem_of_getElem? hq) p hp
   · rw[List.mem_singleton]at hp;subst hp;exact hs
theorem MvA.snoc {g:Grammar} {m:List Sta} (h:MvA g m) (o:List Int):MvA g (m++[⟨o,[]⟩]):=fun q hq p hp=>by
 rcases List.mem_append.1 hq with hq|hq
 · exact h q hq p hp
 · rw[List.mem_singleton]at hq;subst hq;cases hp
theorem qhH {g:Grammar} {i:Nat} {A:List Int} {s:Int} {m m':List Sta} (hA:A=J6 g (qF m i)) (hM:MvA g m) (hi:i<m.length) (h:vH g i A (some m) s=some m'):MvA g m'∧i<m'.length∧qF m' i=qF m i:=by
 have hq:m[i]?=some m[i]:=ge_ hi
 have hk:=Zq hq
 rw[hk]at hA
 have hS:vH g i A (some m) s=if s∈A then(if QT m (kL g m[i].ker s)<0 then(if m.length=150 then none else some (xJ (m++[⟨kL g m[i].ker s,[]⟩]) i s m.length))else some (xJ m i s (QT m (kL g m[i].ker s))))else some m:=by rw[← hk];rfl
 rw[hS]at h
 by_cases hc:s∈A
 · rw [if_pos hc]at h
   split at h
   · split at h
     · cases h
     · cases h
       have hq':(m++[(⟨kL g m[i].ker s,[]⟩:Sta)])[i]?=some m[i]:=by rw[List.getElem?_append_left hi];exact hq
       refine⟨(hM.snoc _).add hq' (by rw[← hA];exact hc),?_,?_⟩
       · rw[zh hq',List.length_set,List.length_append];omega
       · rw[zh hq',vW hq',Zv hi]
   · cases h
     exact⟨hM.add hq (by rw[← hA];exact hc),by rw[zh hq,List.length_set];exact hi,by rw[zh hq,vW hq]⟩
 · rw[if_neg hc]at h
   cases h
   exact⟨hM,hi,rfl⟩
theorem qe1 {g:Grammar} {i:Nat} {A:List Int}: ∀(r:List Int) (m m':List Sta),A=J6 g (qF m i)→MvA g m→i<m.length→r.foldl (vH g i A) (some m)=some m'→MvA g m'
 |[],m,m',_,hM,_,h=>by cases h;exact hM
 | s ::r,m,m',hA,hM,hi,h=>by
   rw[List.foldl_cons]at h
   cases h1:vH g i A (some m) s with
   |none=>rw[h1,Qc]at h;cases h
   | some m1=>
     rw[h1]at h
     obtain ⟨a,b,c⟩:=qhH hA hM hi h1
     exact qe1 r m1 m' (by rw[c];exact hA) a b h
theorem qbT {g:Grammar}: ∀(n:Nat) (m:List Sta) (i:Nat) (m':List Sta),MvA g m→YL g n m i=some m'→MvA g m'
 |0,m,i,m',hM,h=>by cases h;exact hM
 | n + 1,m,i,m',hM,h=>by
   unfold YL at h
   by_cases hi:i<m.length
   · rw[if_pos hi]at h
     cases h1:(jl g).foldl (vH g i (qaq g (zy g (qF m i)))) (some m)with
     |none=>rw[h1]at h;cases h
     | some m1=>
       rw[h1]at h
       exact qbT n m1 (i+1) m' (qe1 (jl g) m m1 rfl hM hi h1) h
   · rw[if_neg hi]at h
     cases h;exact hM
theorem qsP {src:Source} (hb:jB src=true):MvA (qL src) (zn src):=by
 have hg:=(xY hb).1
 unfold jB at hb
 rw[Bool.and_eq_true]at hb
 obtain ⟨m,hm⟩:=Option.isSome_iff_exists.1 hb.2
 have e:zn src=m:=by unfold zn;rw[if_pos hg,hm];rfl
 rw[e]
 exact qbT 151 _ 0 m (fun q hq p hp=>(by rw[List.mem_singleton]at hq;subst hq;cases hp)) hm
theorem qaE {g:Grammar} {x:Int} (h:0≤nxt g x): ∃p∈g.prods,nxt g x∈p.right:=by
 unfold nxt at h ⊢
 cases hp:g.prods[(x / 16).toNat]? with
 |none=>rw[hp]at h;simp at h
 | some p=>
   rw[hp]at h
   rw[Option.bind_some]at h ⊢
   cases hr:p.right[(x % 16).toNat]? with
   |none=>rw[hr]at h;simp at h
   |some s=>exact⟨p,List.mem_of_getElem? hp,List.mem_of_getElem? hr⟩
theorem qQO {g:Grammar} {m:List Sta} (hR:RPr g.prods) (hA:MvA g m) {q t:Nat} (ht:t=0∨t=2):goS m q t<0:=by
 refine Classical.byContradiction fun h=>?_
 unfold goS at h
 rw[if_neg o_,Int.toNat_natCast]at h
 cases e:m[q]? with
 |none=>rw[e]at h;simp at h
 | some x=>
   rw[e]at h
   dsimp only at h
   rcases qaB x.mov (t:Int)with h1|h1
   · omega
   · obtain ⟨y,_,hn,h0⟩:=Yd.1 (hA x (List.mem_of_getElem? e) _ h1)
     dsimp only at hn
     obtain ⟨p,hp,hr⟩:=qaE (g:=g) (x:=y) o_
     obtain ⟨c1,c2,_⟩:=hR p hp _ hr
     rw[hn]at c1 c2
     rcases ht with rfl|rfl
     · exact c1 rfl
     · exact c2 rfl
theorem qLm {src:Source} {E:Nat→Bool} (hb:jB src=true): ∀(q:Nat) r,(Vx src E)[q]?=some r→ ∀(t:Nat) a,r[t]?=some a→((t=0∨t=2)→a.1≠1)∧(a.1=3→t=0∧(1:Int)∈qF (zn src) q):=by
 obtain ⟨hgb,hg,hM,hG⟩:=xY hb
 have hmv:=qsP hb
 have hR:=Vf hgb
 have e1:Vx src E=Kt (qL src) (Qu src E) (zn src).length:=by unfold Vx;rw[if_pos hb]
 have e3:Qu src E=cellsS (qL src).toks.length (zn src) (Qv (qL src) E (zn src)):=by unfold Qu;rw[if_pos hb]
 rw[e1,e3]
 generalize Qv (qL src) E (zn src)=l at *
 generalize zn src=m at *
 generalize qL src=g at *
 intro q r h t a ha
 have row:q<m.length∧r=qaU g g.toks.length q (cellsS g.toks.length m l):=by
  unfold Kt at h
  rw[List.getElem?_map]at h
  by_cases hq:q<m.length
  · rw[List.getElem?_range hq]at h;cases h;exact⟨hq,rfl⟩
  · rw[List.getElem?_eq_none (by rw[List.length_range];omega)]at h;cases h
 obtain ⟨hq,rfl⟩:=row
 rcases qer _ t a ha with rfl|⟨c,hc,h1,h2,rfl⟩
 · exact⟨fun _=>by decide,fun h=>absurd h (by decide)⟩
 · unfold cellsS at hc
   rw[List.mem_flatMap]at hc
   obtain ⟨q',_,hc⟩:=hc
   rw[List.mem_filterMap]at hc
   obtain ⟨t',_,hc⟩:=hc
   split at hc
   · rename_i hth
     cases hc
     have hq':q'=q:=by
      have:((q':Nat):Int)=q:=h1
      omega
     have ht':t'=t:=by
      have:((t':Nat):Int).toNat=t:=h2
      omega
     subst hq' ht'
     have hsh:(t'=0∨t'=2)→(cellAt m l q' t').shift<0:=fun h=>qQO hR hmv h
     have hac:(cellAt m l q' t').acc=true→t'=0∧(1:Int)∈qF m q':=fun h=>of_decide_eq_true h
     generalize cellAt m l q' t'=c at *
     have k1:(Kq g c).1=1→0≤c.shift:=by
      obtain ⟨cs,ct,ch,ca,cp⟩:=c
      unfold Kq qp5 z8 at *
      dsimp only at *
      cases cp with
      |nil=>cases ca<;>simp at hth ⊢ <;>(try omega)
      | cons p cp=>
        dsimp only
        cases ca<;>(repeat' split)<;>simp_all<;>omega
     have k3:(Kq g c).1=3→c.acc=true:=by
      obtain ⟨cs,ct,ch,ca,cp⟩:=c
      unfold Kq qp5
      dsimp only
      cases cp with
      |nil=>cases ca<;>simp
      | cons p cp=>
        dsimp only
        cases ca<;>(repeat' split)<;>simp_all
     exact⟨fun h e=>by have:=hsh h;have:=k1 e;omega,fun e=>hac (k3 e)⟩
   · cases hc
end Go.Proofs
