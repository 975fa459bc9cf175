/- Part of a proof that a law of the given program answers true. -/
import Derived.Test.YtkcegflhobejmaaGreatDoorBLA
import Derived.Test.YtkcegflhobejmaaGreatDoorBKA
import Derived.Test.YtkcegflhobejmaaGreatDoorBKZ
set_option linter.unusedSimpArgs false
set_option linter.unusedVariables false
set_option maxHeartbeats 4000000
set_option maxRecDepth 20000
namespace Go.Proofs
open Go.E

structure Sta where
 ker:List Int:=[]
 mov:List (Int×Int):=[]
 deriving DecidableEq,Inhabited
abbrev Sta.V (q:Sta):V:= .agg [.sl 2 false (q.ker.map itV),.sl 2 false (q.mov.map prV)]
def XB (g:Grammar) (k:List Int) (s:Int):List Int:=(yt g k).foldl (fun o x=>if 0≤nxt g x∧nxt g x=s then vF o (x+1)else o) []
def jK (g:Grammar):List Int:=(List.range g.toks.length).map (fun(i:Nat)=>(i:Int))++(List.range g.nons.length).map fun(i:Nat)=>1000+(i:Int)
def qdg (g:Grammar) (c:List Int):List Int:=c.foldl (fun a x=>if 0≤nxt g x then vF a (nxt g x)else a) []
def Zc (k:List Int):List Sta→Nat→Int
 |[],_=> -1
 |q::m,i=>if q.ker=k then(i:Int)else Zc k m (i+1)
def Zv (m:List Sta) (k:List Int):Int:=Zc k m 0
def xY (m:List Sta) (i:Nat) (s t:Int):List Sta:=m.modify i fun q=>{q with mov:=q.mov++[(s,t)]}
def JX (m:List Sta) (i:Nat):List Int:=(m[i]?.map (·.ker)).getD []
def vE (g:Grammar) (i:Nat) (aft:List Int) (m:Option (List Sta)) (s:Int):Option (List Sta):=m.bind fun m=>
 if s∈aft then
  if Zv m (XB g (JX m i) s)<0 then(if m.length=150 then none else some (xY (m++[⟨XB g (JX m i) s,[]⟩]) i s m.length))
  else some (xY m i s (Zv m (XB g (JX m i) s)))
 else some m
def Xn (g:Grammar):Nat→List Sta→Nat→Option (List Sta)
 |0,m,_=>some m
 |n+1,m,i=>if i<m.length then((jK g).foldl (vE g i (qdg g (yt g (JX m i)))) (some m)).bind fun m'=>Xn g n m' (i+1)else some m
def YI (g:Grammar):Option (List Sta):=Xn g 151 [⟨[0],[]⟩] 0
def goL (l:List (Int×Int)) (s:Int):Int:=match l with
 |[]=> -1
 |p::r=>if p.1=s then p.2 else goL r s
def goS (m:List Sta) (q s:Int):Int:=if q<0 then -1 else match m[q.toNat]? with
 |some x=>goL x.mov s
 |none=> -1
def yM (m:List Sta):Int→List Int→Int
 |q,[]=>q
 |q,s::l=>if q<0 then q else yM m (goS m q s) l
def jb (m:List Sta):List (Int×Int):=(List.range m.length).flatMap fun(i:Nat)=>((m[i]?.map (·.mov)).getD []).filterMap fun p=>if 1000≤p.1 then some ((i:Int),p.1)else none
def YB (g:Grammar) (m:List Sta) (q:Int) (p:Int):List Int:=
 ((List.range (jb m).length).filter fun i=>match g.prods[p.toNat]? with
   |some x=>decide (((jb m).getD i (0,0)).2=1000+x.left∧yM m ((jb m).getD i (0,0)).1 x.right=q)
   |none=>false).map fun(i:Nat)=>(i:Int)
structure Lk where
 st:Int:=0
 pr:Int:=0
 tk:List Int:=[]
 deriving DecidableEq,Inhabited
abbrev Lk.V (x:Lk):V:= .agg [vi x.st,vi x.pr,.sl 1 false (x.tk.map (V.int .i64))]

abbrev qPc (v:V) (l:List Int):Prop:=Qx v=some (vi (l.length:Nat))∧(∀(k:IntKind) (i:Int) (x:Int),0≤i→l[i.toNat]?=some x→z8 1 v (.int k i)=some (.iptr 1 (.int .i64 x) 0))∧ErP v (.sl 1 false (l.map (V.int .i64)))∧v.cells=[v]∧v.okCell=true∧v.isAgg=false
def qbn (es:List V) (L:List (List Int)):Prop:=es.length=L.length∧ ∀(i:Nat) l,L[i]?=some l→ ∃v,es[i]?=some v∧qPc v l
theorem qbn.nil:qbn [] []:=⟨rfl,fun i l h=>by simp at h⟩
theorem qbn.snoc {es:List V} {L:List (List Int)} {v:V} {l:List Int} (h:qbn es L) (hv:qPc v l):qbn (es++[v]) (L++[l]):=by
 refine⟨by simp[h.1],fun i l' hi=>?_⟩
 by_cases e:i<L.length
 · rw[List.getElem?_append_left e]at hi
   obtain ⟨w,h1,h2⟩:=h.2 i l' hi
   exact⟨w,by rw[List.getElem?_append_left (by rw[h.1];exact e)];exact h1,h2⟩
 · by_cases e2:i=L.length
   · subst e2
     rw[List.getElem?_append_right (Nat.le_refl _),Nat.sub_self]at hi
     cases hi
     exact⟨v,by rw[← h.1,List.getElem?_append_right (Nat.le_refl _),Nat.sub_self];rfl,hv⟩
   · rw[List.getElem?_eq_none (by simp;omega)]at hi;cases hi
theorem qbn.set {es:List V} {L:List (List Int)} {v:V} {l:List Int} (h:qbn es L) (hv:qPc v l) (i:Nat):qbn (es.set i v) (L.set i l):=by
 refine⟨by simp[h.1],fun k l' hk=>?_⟩
 rw[List.getElem?_set]at hk ⊢
 by_cases e:i=k
 · subst e
   rw[if_pos rfl]at hk ⊢
   rw[h.1]
   by_cases hl:i<L.length
   · rw[if_pos hl]at hk ⊢;cases hk;exact⟨v,rfl,hv⟩
   · rw[if_neg hl]at hk;cases hk
 · rw[if_neg e]at hk ⊢;exact h.2 k l' hk
theorem qbn.erL {es:List V} {L:List (List Int)} (h:qbn es L):Ze es (L.map qby):=by
 have : ∀(es:List V) (L:List (List Int)),qbn es L→Ze es (L.map qby):=by
  intro es
  induction es with
  | nil=>intro L h;cases L with
    |nil=>exact .nil
    |cons a L=>have:=h.1;simp at this
  | cons v es ih=>intro L h;cases L with
    |nil=>have:=h.1;simp at this
    | cons a L=>
      obtain ⟨w,h1,h2⟩:=h.2 0 a rfl
      cases h1
      exact .cons h2.2.2.1 (ih L ⟨by have:=h.1;simpa using this,fun i l hi=>h.2 (i+1) l (by simpa using hi)⟩)
 exact this es L h
theorem qbn.er {H:Nat→Option MObj} {id n:Nat} {es:List V} {L:List (List Int)} {ro:Bool} (hH:H id=some (.own 1 es ro)) (h:qbn es L) (hn:L.length=n):Er true H (.msl id 1 0 n) (.sl 1 false (L.map qby)):=by
 obtain ⟨h1,h2⟩:=(h.erL.up (b:=true) (H:=H)).get
 refine .msl id 1 0 n es ro _ rfl hH (by rw[← hn,h.1];omega) (by simp[hn]) fun i c c' h3 h4=>?_
 rw[Nat.zero_add]at h3
 exact h2 i c c' h3 h4
structure MOk (g:Grammar) (m:List Sta):Prop where
 len:m.length≤150
 mvl: ∀q∈m,q.mov.length≤64
 mv: ∀q∈m,∀p∈q.mov,kX g.toks.length g.nons.length p.1∧ ∃t:Nat,p.2=t∧t<m.length
 kr: ∀q∈m,kK q.ker
 ki: ∀q∈m,∀x∈q.ker,ZT g x
theorem MOk.kl {g:Grammar} {m:List Sta} (h:MOk g m) (hpl:g.prods.length≤60): ∀q∈m,q.ker.length≤960:=fun q hq=>
 kT (a:=0) (h.kr q hq) fun x hx=>by
  obtain ⟨h0,p,hp,_⟩:=h.ki q hq x hx
  have:=(List.getElem?_eq_some_iff.1 hp).1
  omega
theorem qdL {m:List Sta} {q s:Int} (h:(q,s)∈jb m): ∃(n:Nat) (x:Sta),q=n∧m[n]?=some x∧1000≤s∧ ∃t,(s,t)∈x.mov:=by
 unfold jb at h
 rw[List.mem_flatMap]at h
 obtain ⟨n,hn,h⟩:=h
 rw[List.mem_filterMap]at h
 obtain ⟨p,hp,h⟩:=h
 rw[List.mem_range]at hn
 have hg:m[n]?=some m[n]:=ge_ hn
 rw[hg]at hp
 split at h
 · rename_i h1
   cases h
   exact⟨n,_,rfl,hg,h1,p.2,hp⟩
 · cases h
theorem qbN (l:List (Int×Int)) (s:Int):goL l s= -1∨(s,goL l s)∈l:=by
 induction l with
 |nil=>exact Or.inl rfl
 | cons a l ih=>
   unfold goL
   split
   · rename_i e;right;rw[← e];exact List.mem_cons_self
   · exact ih.imp id (List.mem_cons_of_mem _)

abbrev QR (l:List Int):Prop:=kK l∧ ∀x∈l,0≤x∧x<40
abbrev qbX (L:List (List Int)):Prop:= ∀l∈L,QR l
theorem qcQ {s:List Int}: ∀{l:List Int} {x:Int},x∈s.foldl vF l↔x∈l∨x∈s:=by
 induction s with
 |nil=>intro l x;simp
 | cons a s ih=>
   intro l x
   rw[List.foldl_cons,ih,jO,List.mem_cons]
   constructor
   · rintro ((h|h)|h)
     · exact Or.inl h
     · exact Or.inr (Or.inl h)
     · exact Or.inr (Or.inr h)
   · rintro (h|h|h)
     · exact Or.inl (Or.inl h)
     · exact Or.inl (Or.inr h)
     · exact Or.inr h
theorem qa8 {s:List Int}: ∀{l:List Int},kK l→kK (s.foldl vF l):=by
 induction s with
 |nil=>intro l h;exact h
 |cons a s ih=>intro l h;exact ih (kg h)
theorem QR.join {l s:List Int} (h:QR l) (hs:QR s):QR (s.foldl vF l):=
 ⟨qa8 h.1,fun x hx=>(qcQ.1 hx).elim (h.2 x) (hs.2 x)⟩
theorem QR.take {s:List Int} (hs:QR s) (k:Nat):QR (s.take k):=
 ⟨hs.1.sublist (List.take_sublist _ _),fun x hx=>hs.2 x (List.mem_of_mem_take hx)⟩
theorem QR.len {l:List Int} (h:QR l):l.length≤40:=kT (a:=0) h.1 fun x hx=>by have:=h.2 x hx;omega
theorem qcc:QR []:=⟨List.Pairwise.nil,fun x h=>by cases h⟩
theorem qbX.getD {L:List (List Int)} (h:qbX L) (i:Nat):QR (L.getD i []):=by
 unfold List.getD
 cases hg:L[i]? with
 |none=>exact qcc
 |some l=>exact h l (List.mem_of_getElem? hg)
theorem qbX.set {L:List (List Int)} (h:qbX L) {l:List Int} (hl:QR l) (i:Nat):qbX (L.set i l):=fun x hx=>
 (List.mem_or_eq_of_mem_set hx).elim (h x) fun e=>e ▸ hl
end Go.Proofs
