/- Part of a proof that a law of the given program answers true. -/
import Derived.Test.YthgkeppkcjcmjaaDKA
import Derived.Test.YthgkeppkcjcmjaaDDE
import Derived.Test.YthgkeppkcjcmjaaDDM
set_option linter.unusedSimpArgs false
set_option linter.unusedVariables false
set_option maxHeartbeats 4000000
namespace Go.Proofs
open Go.E
abbrev qmp (s:Int):Prop:=s≠0∧s≠2
abbrev RPr (l:List GPr):Prop:= ∀p∈l,∀s∈p.right,qmp s
theorem qd3 (x:Sym): ∀(l:List Tok) (i:Nat),kC x l i= -1∨((i:Int)≤kC x l i∧kC x l i≠2)
 |[],i=>Or.inl rfl
 | t ::r,i=>by
   rw[kC]
   split
   · rename_i h;exact Or.inr ⟨Int.le_refl _,by have:=h.2.2;omega⟩
   · rcases qd3 x r (i+1)with h|h
     · exact Or.inl h
     · exact Or.inr ⟨by omega,h.2⟩
theorem qhT (x:Sym) (l:List Tok) (h:0≤Y6 l x):qmp (Y6 l x):=by
 unfold Y6 at *
 rcases qd3 x (l.drop 1) 1 with h1|h1
 · omega
 · exact⟨by omega,h1.2⟩
theorem Kt (m:Mk) (a:Int) (n:List UInt8):(qZ m a n).e≠0:=by
 unfold qZ
 split
 · simp
 · assumption
theorem qiR {m:Mk} (x:Sym) (h3:3≤m.toks.length):qmp (Zc m x).2∧(m.e≠0→(Zc m x).1.e≠0):=by
 unfold Zc
 split
 · rename_i h;exact⟨qhT x _ h,id⟩
 · dsimp only
   refine⟨⟨by omega,by omega⟩,fun h=>?_⟩
   split
   · exact Kt _ _ _
   · exact h
theorem qhO {m:Mk} (x:Sym) (h3:3≤m.toks.length):((xW m x).1.e≠0∨qmp (xW m x).2)∧(m.e≠0→(xW m x).1.e≠0):=by
 have hb:=ja x.name m.lefts 0
 unfold xW
 split
 · exact⟨Or.inr (qiR x h3).1,(qiR x h3).2⟩
 · split
   · exact⟨Or.inr ⟨by dsimp only;omega,by dsimp only;omega⟩,id⟩
   · split
     · exact⟨Or.inl (Kt _ _ _),fun _=>Kt _ _ _⟩
     · exact⟨Or.inr (qhT x _ (by omega)),id⟩
theorem qbx: ∀(l:List Part) (m:Mk) (p:GPr),3≤m.toks.length→0≤m.inner→(m.e≠0∨(RPr m.prods∧ ∀s∈p.right,qmp s))→(zm l (m,p)).1.e≠0∨(RPr (zm l (m,p)).1.prods∧ ∀s∈(zm l (m,p)).2.right,qmp s)
 |[],m,p,h3,hi,h=>by rw[Je];exact h
 | w :: r, m,p,h3,hi,h=>by
   rw[yB]
   obtain ⟨y1,y2,y3,y4,y5,y6,y7,y8⟩:=vU m w.sym
   obtain ⟨s1,s2⟩:=qhO w.sym h3
   split
   · refine qbx r _ _ (by omega) (by omega) ?_
     rcases h with h|⟨h1,h2⟩
     · exact Or.inl (s2 h)
     · rcases s1 with s1|s1
       · exact Or.inl s1
       · right
         rw[y3]
         refine⟨h1,fun s hs=>?_⟩
         rcases List.mem_append.1 hs with hs|hs
         · exact h2 s hs
         · rw[List.mem_singleton]at hs;subst hs;exact s1
   · split
     · exact h
     · refine qbx r _ _ h3 (by dsimp only;omega) ?_
       rcases h with h|⟨h1,h2⟩
       · exact Or.inl h
       · right
         refine⟨fun q hq s hs=>?_,fun s hs=>?_⟩
         · rcases List.mem_append.1 hq with hq|hq
           · exact h1 q hq s hs
           · rw[List.mem_singleton]at hq;subst hq;cases hs
         · dsimp only at hs
           rcases List.mem_append.1 hs with hs|hs
           · exact h2 s hs
           · rw[List.mem_singleton]at hs;exact⟨by omega,by omega⟩
theorem RPr.snoc {l:List GPr} {p:GPr} (h:RPr l) (hp: ∀s∈p.right,qmp s):RPr (l++[p]):=fun q hq=>by
 rcases List.mem_append.1 hq with hq|hq
 · exact h q hq
 · rw[List.mem_singleton]at hq;subst hq;exact hp
theorem qAD {m:Mk} (n:List UInt8) (a:Alt) (hI:MInv m) (h:m.e≠0∨RPr m.prods):(Xl m n a).e≠0∨RPr (Xl m n a).prods:=by
 have h1:=qbx a.parts m {left:=1+qF n m.lefts 0,prec:= -1,at_:=a.at_} hI.tk hI.inn (h.imp id fun h=>⟨h,fun s hs=>by cases hs⟩)
 have h2:=(Xx a.parts m {left:=1+qF n m.lefts 0,prec:= -1,at_:=a.at_} hI (fun s hs=>by cases hs)).1.tk
 unfold Xl
 dsimp only
 generalize zm a.parts (m,{left:=1+qF n m.lefts 0,prec:= -1,at_:=a.at_})=q at *
 obtain ⟨y1,y2,y3,y4,y5,y6,y7,y8⟩:=vU q.1 a.prec
 split
 · split
   · rcases h1 with h1|⟨h1,h3⟩
     · exact Or.inl ((qhO a.prec h2).2 h1)
     · right;dsimp only;rw[y3];exact h1.snoc h3
   · exact Or.inl (Kt _ _ _)
 · rcases h1 with h1|⟨h1,h3⟩
   · exact Or.inl h1
   · exact Or.inr (h1.snoc h3)
theorem qcu (n:List UInt8): ∀(l:List Alt) (m:Mk),MInv m→(m.e≠0∨RPr m.prods)→(zx n l m).e≠0∨RPr (zx n l m).prods
 |[],m,_,h=>h
 |a::r,m,hI,h=>by rw[xN];exact qcu n r _ (qeg n a hI) (qAD n a hI h)
theorem qd4: ∀(l:List Rule) (m:Mk),MInv m→(m.e≠0∨RPr m.prods)→(yt l m).e≠0∨RPr (yt l m).prods
 |[],m,_,h=>h
 |r::l,m,hI,h=>by rw[yG];exact qd4 l _ (YM r.left r.alts m hI) (qcu r.left r.alts m hI h)
theorem qnO (src:Source):(jV src).e≠0∨RPr (jV src).prods:=by
 obtain ⟨h1,h2,h3⟩:=qh9 src
 have hl:=ja (QE src) (qbE src).lefts 0
 rw[Ka]
 refine qd4 _ _ ⟨h1,by dsimp only;omega,fun p hp=>?_,fun p hp s hs=>?_,fun p hp=>?_⟩ (Or.inr fun p hp s hs=>?_)<;>(dsimp only at hp;rw[List.mem_singleton]at hp;subst hp)
 · unfold Y9;dsimp only;omega
 · unfold Y9 at hs;dsimp only at hs ⊢;rw[List.mem_singleton]at hs;subst hs
   exact Or.inr ⟨(1+qF (QE src) (qbE src).lefts 0).toNat,by omega,by omega⟩
 · exact Or.inl rfl
 · unfold Y9 at hs;dsimp only at hs;rw[List.mem_singleton]at hs;subst hs
   exact⟨by omega,by omega⟩
theorem qdK {src:Source} (h:Y0 src=true):RPr (qE src).prods:=by
 obtain ⟨_,he,_,e⟩:=qcV h
 rw[e]
 dsimp only
 rw[(qe6 (jV src)).2.2]
 exact(qnO src).resolve_left fun h=>h he

abbrev MvA (g:Grammar) (m:List Sta):Prop:= ∀q∈m,∀p∈q.mov,p.1∈Xg g q.ker
theorem MvA.add {g:Grammar} {m:List Sta} {i:Nat} {s t:Int} {q:Sta} (h:MvA g m) (hq:m[i]?=some q) (hs:s∈Xg g q.ker):MvA g (xR m i s t):=by
 rw[qW hq]
 intro x hx p hp
 rcases List.mem_or_eq_of_mem_set hx with hx|rfl
 · exact h x hx p hp
 · rcases List.mem_append.1 hp with hp|hp
   · exact h q (List.mem_of_getElem? hq) p hp
   · rw[List.mem_singleton]at hp;subst hp;exact hs
theorem MvA.snoc {g:Grammar} {m:List Sta} (h:MvA g m) (o:List Int):MvA g (m++[⟨o,[]⟩]):=fun q hq p hp=>by
 rcases List.mem_append.1 hq with hq|hq
 · exact h q hq p hp
 · rw[List.mem_singleton]at hq;subst hq;cases hp
theorem qgZ {g:Grammar} {i:Nat} {A:List Int} {s:Int} {m m':List Sta} (hA:A=Xg g (qJ m i)) (hM:MvA g m) (hi:i<m.length) (h:kE g i A (some m) s=some m'):MvA g m'∧i<m'.length∧qJ m' i=qJ m i:=by
 have hq:m[i]?=some m[i]:=ge_ hi
 have hk:=Ja hq
 rw[hk]at hA
 have hS:kE g i A (some m) s=if s∈A then(if Zi m (QB g m[i].ker s)<0 then(if m.length=150 then none else some (xR (m++[⟨QB g m[i].ker s,[]⟩]) i s m.length))else some (xR m i s (Zi m (QB g m[i].ker s))))else some m:=by rw[← hk];rfl
 rw[hS]at h
 by_cases hc:s∈A
 · rw [if_pos hc]at h
   split at h
   · split at h
     · cases h
     · cases h
       have hq':(m++[(⟨QB g m[i].ker s,[]⟩:Sta)])[i]?=some m[i]:=by rw[List.getElem?_append_left hi];exact hq
       refine⟨(hM.snoc _).add hq' (by rw[← hA];exact hc),?_,?_⟩
       · rw[qW hq',List.length_set,List.length_append];omega
       · rw[qW hq',kV hq',Jy hi]
   · cases h
     exact⟨hM.add hq (by rw[← hA];exact hc),by rw[qW hq,List.length_set];exact hi,by rw[qW hq,kV hq]⟩
 · rw[if_neg hc]at h
   cases h
   exact⟨hM,hi,rfl⟩
theorem qeK {g:Grammar} {i:Nat} {A:List Int}: ∀(r:List Int) (m m':List Sta),A=Xg g (qJ m i)→MvA g m→i<m.length→r.foldl (kE g i A) (some m)=some m'→MvA g m'
 |[],m,m',_,hM,_,h=>by cases h;exact hM
 | s ::r,m,m',hA,hM,hi,h=>by
   rw[List.foldl_cons]at h
   cases h1:kE g i A (some m) s with
   |none=>rw[h1,Qq]at h;cases h
   | some m1=>
     rw[h1]at h
     obtain ⟨a,b,c⟩:=qgZ hA hM hi h1
     exact qeK r m1 m' (by rw[c];exact hA) a b h
theorem qcU {g:Grammar}: ∀(n:Nat) (m:List Sta) (i:Nat) (m':List Sta),MvA g m→Vb g n m i=some m'→MvA g m'
 |0,m,i,m',hM,h=>by cases h;exact hM
 | n + 1,m,i,m',hM,h=>by
   unfold Vb at h
   by_cases hi:i<m.length
   · rw[if_pos hi]at h
     cases h1:(jv g).foldl (kE g i (qaU g (zC g (qJ m i)))) (some m)with
     |none=>rw[h1]at h;cases h
     | some m1=>
       rw[h1]at h
       exact qcU n m1 (i+1) m' (qeK (jv g) m m1 rfl hM hi h1) h
   · rw[if_neg hi]at h
     cases h;exact hM
theorem qjI {src:Source} (hb:zT src=true):MvA (qE src) (qR src):=by
 have hg:=(xD hb).1
 unfold zT at hb
 rw[Bool.and_eq_true]at hb
 obtain ⟨m,hm⟩:=Option.isSome_iff_exists.1 hb.2
 have e:qR src=m:=by unfold qR;rw[if_pos hg,hm];rfl
 rw[e]
 exact qcU 151 _ 0 m (fun q hq p hp=>(by rw[List.mem_singleton]at hq;subst hq;cases hp)) hm
theorem qfj {g:Grammar} {x:Int} (h:0≤nxt g x): ∃p∈g.prods,nxt g x∈p.right:=by
 unfold nxt at h ⊢
 cases hp:g.prods[(x / 16).toNat]? with
 |none=>rw[hp]at h;simp at h
 | some p=>
   rw[hp]at h
   rw[Option.bind_some]at h ⊢
   cases hr:p.right[(x % 16).toNat]? with
   |none=>rw[hr]at h;simp at h
   |some s=>exact⟨p,List.mem_of_getElem? hp,List.mem_of_getElem? hr⟩
theorem qMX {g:Grammar} {m:List Sta} (hR:RPr g.prods) (hA:MvA g m) {q t:Nat} (ht:t=0∨t=2):goS m q t<0:=by
 refine Classical.byContradiction fun h=>?_
 unfold goS at h
 rw[if_neg (by omega),Int.toNat_natCast]at h
 cases e:m[q]? with
 |none=>rw[e]at h;simp at h
 | some x=>
   rw[e]at h
   dsimp only at h
   rcases qam x.mov (t:Int)with h1|h1
   · omega
   · obtain ⟨y,_,hn,h0⟩:=XK.1 (hA x (List.mem_of_getElem? e) _ h1)
     dsimp only at hn
     obtain ⟨p,hp,hr⟩:=qfj (g:=g) (x:=y) (by omega)
     obtain ⟨c1,c2⟩:=hR p hp _ hr
     rw[hn]at c1 c2
     rcases ht with rfl|rfl
     · exact c1 rfl
     · exact c2 rfl
theorem qiS {src:Source} {E:Nat→Bool} (hb:zT src=true): ∀(q:Nat) r,(Jg src E)[q]?=some r→ ∀(t:Nat) a,r[t]?=some a→((t=0∨t=2)→a.1≠1)∧(a.1=3→t=0):=by
 obtain ⟨hgb,hg,hM,hG⟩:=xD hb
 have hmv:=qjI hb
 have hR:=qdK hgb
 have e1:Jg src E=KH (qE src) (yY src E) (qR src).length:=by unfold Jg;rw[if_pos hb]
 have e3:yY src E=cellsS (qE src).toks.length (qR src) (Q7 (qE src) E (qR src)):=by unfold yY;rw[if_pos hb]
 rw[e1,e3]
 generalize Q7 (qE src) E (qR src)=l at *
 generalize qR src=m at *
 generalize qE src=g at *
 intro q r h t a ha
 have row:q<m.length∧r=qa5 g g.toks.length q (cellsS g.toks.length m l):=by
  unfold KH at h
  rw[List.getElem?_map]at h
  by_cases hq:q<m.length
  · rw[List.getElem?_range hq]at h;cases h;exact⟨hq,rfl⟩
  · rw[List.getElem?_eq_none (by rw[List.length_range];omega)]at h;cases h
 obtain ⟨hq,rfl⟩:=row
 rcases qfW _ t a ha with rfl|⟨c,hc,h1,h2,rfl⟩
 · exact⟨fun _=>by decide,fun h=>absurd h (by decide)⟩
 · unfold cellsS at hc
   rw[List.mem_flatMap]at hc
   obtain ⟨q',_,hc⟩:=hc
   rw[List.mem_filterMap]at hc
   obtain ⟨t',_,hc⟩:=hc
   split at hc
   · rename_i hth
     cases hc
     have hq':q'=q:=by
      have:((q':Nat):Int)=q:=h1
      omega
     have ht':t'=t:=by
      have:((t':Nat):Int).toNat=t:=h2
      omega
     subst hq' ht'
     have hsh:(t'=0∨t'=2)→(cellAt m l q' t').shift<0:=fun h=>qMX hR hmv h
     have hac:(cellAt m l q' t').acc=true→t'=0:=fun h=>(of_decide_eq_true h).1
     generalize cellAt m l q' t'=c at *
     have k1:(KD g c).1=1→0≤c.shift:=by
      obtain ⟨cs,ct,ch,ca,cp⟩:=c
      unfold KD qqK z8 at *
      dsimp only at *
      cases cp with
      |nil=>cases ca<;>simp at hth ⊢ <;>(try omega)
      | cons p cp=>
        dsimp only
        cases ca<;>(repeat' split)<;>simp_all<;>omega
     have k3:(KD g c).1=3→c.acc=true:=by
      obtain ⟨cs,ct,ch,ca,cp⟩:=c
      unfold KD qqK
      dsimp only
      cases cp with
      |nil=>cases ca<;>simp
      | cons p cp=>
        dsimp only
        cases ca<;>(repeat' split)<;>simp_all
     exact⟨fun h e=>by have:=hsh h;have:=k1 e;omega,fun e=>hac (k3 e)⟩
   · cases hc

set_option maxHeartbeats 8000000
theorem Xw {g:Grammar} {m:List Sta} {A:List (List (Int×Int))} {G:List (List Int)} (hg:GOk g) (hM:MOk g m) (hG:MGo g m) (hT:TabOk g m A G) (hN: ∀(q:Nat) r,A[q]?=some r→ ∀(t:Nat) a,r[t]?=some a→((t=0∨t=2)→a.1≠1)∧(a.1=3→t=0)) {l:List Int} {dp sp k:Nat} (hk:zw g.toks.length l k=0∨zw g.toks.length l k=2):
 ∀(n:Nat) (st:List Nat) (r:RunR),Path g m st→r.at_≤k→r.kind≠1→(j5 g A G l dp sp n st r).at_≤k∧((j5 g A G l dp sp n st r).kind=1→zw g.toks.length l (j5 g A G l dp sp n st r).at_=0)
 |0,st,r,hP,h1,h2=>⟨h1,fun h=>absurd h h2⟩
 | n + 1, st,r,hP,h1,h2=>by
   obtain ⟨q,st0,rfl,hq⟩:=hP.lt hG
   obtain ⟨t,ht,htl⟩:=VN l r.at_ hg.tk
   obtain ⟨row,a,e1,e2,e3⟩:=XZ hT hq htl
   obtain ⟨n1,n3⟩:=hN q row e1 t a e2
   rw[YU,ht]
   by_cases c3:(xV A q t).1=3
   · rw[if_pos c3]
     refine⟨h1,fun _=>?_⟩
     dsimp only
     rw[e3]at c3
     rw[ht,n3 c3];rfl
   · rw [if_neg c3]
     by_cases c1:(xV A q t).1=1
     · rw [if_pos c1]
       split
       · exact⟨h1,fun h=>(by simp at h)⟩
       · obtain ⟨n',e4,e5,e6⟩:=qfE hT hP hq htl c1
         rw[e4,Int.toNat_natCast]
         have hne:r.at_≠k:=by
          intro e
          subst e
          rw[ht]at hk
          rw[e3]at c1
          exact n1 (by omega) c1
         exact Xw hg hM hG hT hN hk n _ _ e6 (by dsimp only;omega) h2
     · rw [if_neg c1]
       by_cases c2:(xV A q t).1=2
       · rw[if_pos c2]
         split
         · exact⟨h1,fun h=>(by simp at h)⟩
         · obtain ⟨p,x,l',q0,st1,n',row',a1,a2,a3,a4,a5,a6,a7,a8,a9,a10,a11,a12,a13,a14,a15⟩:=V4 hg hM hG hT hP hq htl c2
           rw[a1,Int.toNat_natCast,a9,a7,a10]
           rw[List.headD_cons,a13,Int.toNat_natCast]
           exact Xw hg hM hG hT hN hk n _ _ a15 h1 h2
       · rw[if_neg c2]
         exact⟨h1,fun h=>(by simp at h)⟩
theorem qq3 {nt:Nat} {l l':List Int} {i:Nat} (h:i<l.length):zw nt (l++l') i=zw nt l i:=by unfold zw;rw[List.getElem?_append_left h]
end Go.Proofs
