/- Part of a proof that a law of the given program answers true. -/
import Derived.Test.YtjdjdbkoplmjeaaGreatDoorQEC
import Derived.Test.YtjdjdbkoplmjeaaGreatDoorQPA
set_option linter.unusedSimpArgs false
set_option linter.unusedVariables false
set_option maxHeartbeats 4000000
namespace Go.Proofs
open Go.E
structure TS where
 num:Nat→Int
 low:Nat→Int
 of:Nat→Int
 stack:List Nat
 groups:List (List Nat)
 next:Nat
def Jp (l:Nat→Int) (k:Nat) (x:Int):Nat→Int:=fun i=>if i=k then x else l i
theorem zO (l:Nat→Int) (k:Nat) (x:Int):Jp l k x k=x:=if_pos rfl
theorem jY {l:Nat→Int} {k j:Nat} {x:Int} (h:j≠k):Jp l k x j=l j:=if_neg h
def jC (x:Nat):List Nat→List Nat
 |[]=>[x]
 |y::r=>if x≤y then x::y::r else y::jC x r
def QA (l:List Nat):List Nat:=l.foldr jC []
def markT (o:Nat→Int) (g:Int):List Nat→Nat→Int
 |[],i=>o i
 |j::r,i=>if i=j then g else markT o g r i
def qcj (i:Nat) (s:TS):TS:=
 {s with stack:=s.stack.takeWhile (fun x=> !decide (x=i)),of:=markT s.of s.groups.length (s.stack.dropWhile fun x=> !decide (x=i)),groups:=s.groups++[QA (s.stack.dropWhile fun x=> !decide (x=i))]}
def Yw (i:Nat) (s:TS):TS:={s with next:=s.next+1,num:=Jp s.num i (s.next+1:Nat),low:=Jp s.low i (s.next+1:Nat),stack:=s.stack++[i]}
def qfr (n i:Nat) (visit:Nat→TS→TS) (s:TS) (j:Int):TS:=
 if j<0∨(n:Int)≤j then s
 else if s.num j.toNat=0 then
  let s':=visit j.toNat s
  {s' with low:=Jp s'.low i (min (s'.low i) (s'.low j.toNat))}
 else if s.of j.toNat<0 then {s with low:=Jp s.low i (min (s.low i) (s.num j.toNat))}
 else s
def qgZ (i:Nat) (s:TS):TS:=if s.low i=s.num i then qcj i s else s
def Zp (rel:Nat→List Int) (n:Nat):Nat→Nat→TS→TS
 |0,_,s=>s
 |f+1,i,s=>qgZ i ((rel i).foldl (qfr n i (Zp rel n f)) (Yw i s))
def qdc (rel:Nat→List Int) (n:Nat):TS:=
 (List.range n).foldl (fun s i=>if s.num i=0 then Zp rel n n i s else s) {num:=fun _=>0,low:=fun _=>0,of:=fun _=> -1,stack:=[],groups:=[],next:=0}
def Edge (rel:Nat→List Int) (n:Nat) (i j:Nat):Prop:=i<n∧j<n∧(j:Int)∈rel i
inductive Rch (rel:Nat→List Int) (n:Nat):Nat→Nat→Prop
 |refl (i:Nat):Rch rel n i i
 |step {i j k:Nat} (h:Rch rel n i j) (e:Edge rel n j k):Rch rel n i k
theorem Rch.trans {rel:Nat→List Int} {n i j k:Nat} (h:Rch rel n i j) (h2:Rch rel n j k):Rch rel n i k:=by
 induction h2 with
 |refl=>exact h
 |step _ e ih=>exact .step ih e
theorem Rch.one {rel:Nat→List Int} {n i j:Nat} (e:Edge rel n i j):Rch rel n i j:= .step (.refl i) e
theorem Rch.stay {rel:Nat→List Int} {n:Nat} {S:Nat→Prop} (h: ∀i j,S i→Edge rel n i j→S j) {i j:Nat} (hr:Rch rel n i j) (hi:S i):S j:=by
 induction hr with
 |refl=>exact hi
 |step _ e ih=>exact h _ _ ih e
theorem Kq {o:Nat→Int} {g:Int}: ∀{l:List Nat} {i:Nat},i∈l→markT o g l i=g
 | j ::r,i,h=>by
   rw[markT]
   split
   · rfl
   · rename_i hne
     exact Kq ((List.mem_cons.1 h).resolve_left hne)
theorem VU {o:Nat→Int} {g:Int}: ∀{l:List Nat} {i:Nat},i ∉ l→markT o g l i=o i
 |[],i,h=>rfl
 | j::r,i,h=>by
   rw[markT,if_neg (fun e=>h (by rw[e];simp))]
   exact VU fun hr=>h (List.mem_cons_of_mem _ hr)
structure TInv (rel:Nat→List Int) (n:Nat) (G:Nat→Prop) (s:TS):Prop where
 num0: ∀x,0≤s.num x∧s.num x≤s.next
 lt: ∀x,s.num x≠0→x<n
 inj: ∀x y,s.num x≠0→s.num x=s.num y→x=y
 white: ∀x,s.num x=0→s.of x= -1
 ofb: ∀x,-1≤s.of x∧s.of x<s.groups.length
 stk: ∀x,x∈s.stack↔s.num x≠0∧s.of x<0
 rise:s.stack.Pairwise fun x y=>s.num x<s.num y
 grey: ∀x,G x→x∈s.stack
 black: ∀x y,s.num x≠0→ ¬ G x→Edge rel n x y→s.num y≠0
 done: ∀x y,0≤s.of x→Edge rel n x y→0≤s.of y∧s.of y≤s.of x
 up: ∀x y,x∈s.stack→y∈s.stack→s.num x≤s.num y→Rch rel n x y
 down: ∀y,y∈s.stack→ ∃x,G x∧s.num x≤s.num y∧Rch rel n y x
 scc: ∀x,0≤s.of x→ ∀y,(Rch rel n x y∧Rch rel n y x)↔s.of y=s.of x
 grp: ∀(k:Nat) (l:List Nat),s.groups[k]?=some l→l≠[]∧l.Pairwise (· < ·)∧ ∀x,x∈l↔s.of x=(k:Int)
structure TExt (s s':TS):Prop where
 next:s.next≤s'.next
 num: ∀x,s.num x≠0→s'.num x=s.num x
 new: ∀x,s.num x=0→s'.num x=0∨(s.next:Int)<s'.num x
 of: ∀x,0≤s.of x→s'.of x=s.of x
 stk: ∃seg,s'.stack=s.stack++seg
 low: ∀x,x∈s.stack→s'.low x=s.low x
theorem TExt.rfl' (s:TS):TExt s s:=⟨Nat.le_refl _,fun _ _=>rfl,fun _ h=>Or.inl h,fun _ _=>rfl,⟨[],by simp⟩,fun _ _=>rfl⟩
theorem TExt.trans {a b c:TS} (h:TExt a b) (k:TExt b c):TExt a c:=by
 refine⟨Nat.le_trans h.next k.next,fun x hx=>?_,fun x hx=>?_,fun x hx=>?_,?_,fun x hx=>?_⟩
 · have e:=h.num x hx
   rw[k.num x (by rw[e];exact hx),e]
 · have h1:=h.next
   rcases h.new x hx with e|e
   · rcases k.new x e with e2|e2
     · exact Or.inl e2
     · exact Or.inr o_
   · right;rw[k.num x o_];exact e
 · have e:=h.of x hx
   rw[k.of x (by rw[e];exact hx),e]
 · obtain ⟨u,hu⟩:=h.stk
   obtain ⟨v,hv⟩:=k.stk
   exact⟨u++v,by rw[hv,hu,List.append_assoc]⟩
 · obtain ⟨u,hu⟩:=h.stk
   rw[k.low x (by rw[hu];exact List.mem_append_left _ hx),h.low x hx]
structure TVis (rel:Nat→List Int) (n i:Nat) (s s':TS):Prop where
 ext:TExt s s'
 seen:s'.num i=(s.next+1:Nat)
 le:s'.low i≤s'.num i
 out:i ∉ s'.stack→s'.low i=s'.num i∧s'.stack=s.stack
 on:i∈s'.stack→ ∃y,y∈s.stack∧s'.low i=s'.num y∧Rch rel n i y
 cross: ∀x y,x∈s'.stack→x ∉ s.stack→Edge rel n x y→y∈s.stack→s'.low i≤s'.num y

theorem qjE {rel:Nat→List Int} {n i:Nat} {G:Nat→Prop} {s:TS} (h:TInv rel n G s) (h0:s.num i=0) (hi:i<n) (hG: ∀g,G g→Rch rel n g i):TInv rel n (fun x=>G x∨x=i) (Yw i s):=by
 have nm: ∀x,(Yw i s).num x=Jp s.num i (s.next+1:Nat) x:=fun _=>rfl
 have nme:(Yw i s).num i=(s.next+1:Nat):=zO _ _ _
 have nmo: ∀x,x≠i→(Yw i s).num x=s.num x:=fun x hx=>jY hx
 have ns:i ∉ s.stack:=fun hs=>((h.stk i).1 hs).1 h0
 have hn:(Yw i s).next=s.next+1:=rfl
 have hst:(Yw i s).stack=s.stack++[i]:=rfl
 have mem: ∀x,x∈(Yw i s).stack↔x∈s.stack∨x=i:=fun x=>by rw[hst];simp
 refine⟨fun x=>?_,fun x hx=>?_,fun x y hx hxy=>?_,fun x hx=>?_,h.ofb,fun x=>?_,?_,fun x hx=>?_,fun x y hx hg e=>?_,h.done,fun x y hx hy hxy=>?_,fun y hy=>?_,h.scc,h.grp⟩
 · rw[hn]
   by_cases e:x=i
   · subst e;rw[nme];omega
   · rw[nmo x e];have:=h.num0 x;omega
 · by_cases e:x=i
   · rw[e];exact hi
   · rw[nmo x e]at hx;exact h.lt x hx
 · by_cases e:x=i
   · by_cases e2:y=i
     · rw[e,e2]
     · subst e;rw[nme,nmo y e2]at hxy;have:=h.num0 y;omega
   · by_cases e2:y=i
     · subst e2;rw[nme,nmo x e]at hxy;have:=h.num0 x;omega
     · rw[nmo x e]at hx hxy;rw[nmo y e2]at hxy;exact h.inj x y hx hxy
 · by_cases e:x=i
   · subst e;rw[nme]at hx;omega
   · rw[nmo x e]at hx;exact h.white x hx
 · rw[mem]
   by_cases e:x=i
   · subst e
     rw[nme]
     have:(Yw x s).of x= -1:=h.white x h0
     rw[this]
     exact⟨fun _=>⟨o_,o_⟩,fun _=>Or.inr rfl⟩
   · rw[nmo x e]
     exact⟨fun hx=>(h.stk x).1 (hx.resolve_right e),fun hx=>Or.inl ((h.stk x).2 hx)⟩
 · rw[hst,List.pairwise_append]
   refine⟨?_,List.pairwise_singleton _ _,fun x hx y hy=>?_⟩
   · refine h.rise.imp_of_mem fun {a b} ha hb hab=>?_
     rw[nmo a fun e=>ns (e ▸ ha),nmo b fun e=>ns (e ▸ hb)];exact hab
   · rw[List.mem_singleton]at hy
     subst hy
     rw[nme,nmo x fun e=>ns (e ▸ hx)]
     have:=h.num0 x;omega
 · rw[mem]
   exact hx.imp (h.grey x) id
 · by_cases e2:y=i
   · subst e2;rw[nme];omega
   · have hxi:x≠i:=fun e3=>hg (Or.inr e3)
     rw[nmo x hxi]at hx
     rw[nmo y e2]
     exact h.black x y hx (fun hg'=>hg (Or.inl hg')) e
 · rw [mem]at hx hy
   by_cases e:x=i
   · by_cases e2:y=i
     · rw[e,e2];exact .refl _
     · subst e;rw[nme,nmo y e2]at hxy;have:=h.num0 y;omega
   · have hx':=hx.resolve_right e
     by_cases e2:y=i
     · subst e2
       obtain ⟨g,hg,_,hr⟩:=h.down x hx'
       exact hr.trans (hG g hg)
     · rw[nmo x e,nmo y e2]at hxy
       exact h.up x y hx' (hy.resolve_right e2) hxy
 · rw[mem]at hy
   by_cases e:y=i
   · subst e;exact⟨y,Or.inr rfl,Int.le_refl _,.refl _⟩
   · obtain ⟨g,hg,hgy,hr⟩:=h.down y (hy.resolve_right e)
     refine⟨g,Or.inl hg,?_,hr⟩
     rw[nmo y e,nmo g fun e3=>ns (e3 ▸ h.grey g hg)];exact hgy
theorem QH {i:Nat}: ∀{a b:List Nat},i ∉ a→(a++i::b).takeWhile (fun x=> !decide (x=i))=a∧(a++i::b).dropWhile (fun x=> !decide (x=i))=i::b
 |[],b,_=>by simp[List.takeWhile,List.dropWhile]
 | x::a,b,h=>by
   have hx:x≠i:=fun e=>h (by rw[e];simp)
   have:=QH (a:=a) (b:=b) fun hh=>h (List.mem_cons_of_mem _ hh)
   rw[List.cons_append,List.takeWhile_cons,List.dropWhile_cons]
   simp[hx,this.1,this.2]
theorem y9 {x y:Nat}: ∀{l:List Nat},y∈jC x l↔y=x∨y∈l
 |[]=>by simp[jC]
 | z ::r=>by
   rw[jC]
   split
   · simp
   · rw[List.mem_cons,y9,List.mem_cons]
     constructor
     · rintro (h|h|h)
       · exact Or.inr (Or.inl h)
       · exact Or.inl h
       · exact Or.inr (Or.inr h)
     · rintro (h|h|h)
       · exact Or.inr (Or.inl h)
       · exact Or.inl h
       · exact Or.inr (Or.inr h)
theorem yP {y:Nat}: ∀{l:List Nat},y∈QA l↔y∈l
 |[]=>by simp[QA]
 | z::r=>by
   show y∈jC z (QA r)↔_
   rw[y9,yP,List.mem_cons]
theorem Qr {x:Nat}: ∀{l:List Nat},l.Pairwise (· < ·)→x ∉ l→(jC x l).Pairwise (· < ·)
 |[],_,_=>by simp[jC]
 | z ::r,h,hx=>by
   rw[List.pairwise_cons]at h
   rw[jC]
   split
   · rename_i hle
     have hlt:x<z:=by
      have:x≠z:=fun e=>hx (by rw[e];simp)
      omega
     rw[List.pairwise_cons,List.pairwise_cons]
     refine⟨fun y hy=>?_,h⟩
     rcases List.mem_cons.1 hy with rfl|hy
     · exact hlt
     · have:=h.1 y hy;omega
   · rename_i hle
     rw[List.pairwise_cons]
     refine⟨fun y hy=>?_,Qr h.2 fun hh=>hx (List.mem_cons_of_mem _ hh)⟩
     rcases y9.1 hy with rfl|hy
     · omega
     · exact h.1 y hy
theorem Qf: ∀{l:List Nat},l.Nodup→(QA l).Pairwise (· < ·)
 |[],_=>by simp[QA]
 | z::r,h=>by
   rw[List.nodup_cons]at h
   exact Qr (Qf h.2) fun hh=>h.1 (yP.1 hh)
theorem yS {f:Nat→Int} {l:List Nat} (h:l.Pairwise fun x y=>f x<f y):l.Nodup:=
 h.imp fun hab e=>by rw[e]at hab;omega
theorem qlj {rel:Nat→List Int} {n i:Nat} {G:Nat→Prop} {t:TS} {pre seg:List Nat} (h:TInv rel n (fun x=>G x∨x=i) t) (hst:t.stack=pre++i::seg) (hGp: ∀g,G g→g∈pre) (hlow:t.low i=t.num i)
 (hvis: ∀y,Edge rel n i y→t.num y≠0) (hcr: ∀x y,x∈i::seg→Edge rel n x y→y∈pre→t.low i≤t.num y):
 TInv rel n G (qcj i t)∧(qcj i t).stack=pre∧(∀x,(qcj i t).of x=if x∈i::seg then(t.groups.length:Int)else t.of x):=by
 have hnd:t.stack.Nodup:=yS h.rise
 rw[hst]at hnd
 have hrise:=h.rise
 rw[hst,List.pairwise_append]at hrise
 have hni:i ∉ pre:=fun hh=>by
  have:=hrise.2.2 i hh i (by simp);omega
 obtain ⟨e1,e2⟩:=QH (i:=i) (a:=pre) (b:=seg) hni
 have hst':(qcj i t).stack=pre:=by show t.stack.takeWhile _=pre;rw[hst,e1]
 have hL:(t.stack.dropWhile fun x=> !decide (x=i))=i::seg:=by rw[hst,e2]
 have hof: ∀x,(qcj i t).of x=if x∈i::seg then(t.groups.length:Int)else t.of x:=fun x=>by
  show markT t.of t.groups.length (t.stack.dropWhile fun x=> !decide (x=i)) x=_
  rw[hL]
  split
  · rename_i hx;exact Kq hx
  · rename_i hx;exact VU hx
 have hgr:(qcj i t).groups=t.groups++[QA (i::seg)]:=by show t.groups++[QA (t.stack.dropWhile _)]=_;rw[hL]
 have hLs: ∀x,x∈i::seg→x∈t.stack:=fun x hx=>by rw[hst];exact List.mem_append_right _ hx
 have hLn: ∀x,x∈i::seg→x ∉ pre:=fun x hx hp=>by
  have:=hrise.2.2 x hp x hx;omega
 have hLi: ∀x,x∈i::seg→t.num i≤t.num x:=fun x hx=>by
  rcases List.mem_cons.1 hx with rfl|hx
  · exact Int.le_refl _
  · exact Int.le_of_lt ((List.pairwise_cons.1 hrise.2.1).1 x hx)
 have hsplit: ∀x,x∈t.stack→x∈pre∨x∈i::seg:=fun x hx=>by rw[hst]at hx;exact List.mem_append.1 hx
 have hpi: ∀x,x∈pre→t.num x<t.num i:=fun x hx=>hrise.2.2 x hx i (by simp)
 have his:i∈t.stack:=hLs i (by simp)
 have both: ∀x,x∈i::seg→Rch rel n i x∧Rch rel n x i:=fun x hx=>by
  refine⟨h.up i x his (hLs x hx) (hLi x hx),?_⟩
  obtain ⟨g,hg,_,hr⟩:=h.down x (hLs x hx)
  rcases hg with hg|rfl
  · exact hr.trans (h.up g i (h.grey g (Or.inl hg)) his (Int.le_of_lt (hpi g (hGp g hg))))
  · exact hr
 have vis: ∀x y,x∈i::seg→Edge rel n x y→t.num y≠0:=fun x y hx e=>by
  by_cases hxi:x=i
  · subst hxi;exact hvis y e
  · refine h.black x y ((h.stk x).1 (hLs x hx)).1 (fun hg=>?_) e
    rcases hg with hg|hg
    · exact hLn x hx (hGp x hg)
    · exact hxi hg
 have clo: ∀x y,x∈i::seg→Edge rel n x y→y∈i::seg∨0≤t.of y:=fun x y hx e=>by
  by_cases ho:0≤t.of y
  · exact Or.inr ho
  · rcases hsplit y ((h.stk y).2 ⟨vis x y hx e,o_⟩)with hp|hl
    · have h1:=hcr x y hx e hp
      have h2:=hpi y hp
      omega
    · exact Or.inl hl
 have lof: ∀x,x∈i::seg→t.of x<0:=fun x hx=>((h.stk x).1 (hLs x hx)).2
 have dn: ∀x y,0≤t.of x→Rch rel n x y→0≤t.of y:=fun x y hx hr=>hr.stay (S:=fun z=>0≤t.of z) (fun a b ha e=>(h.done a b ha e).1) hx
 have fwd: ∀x y,x∈i::seg→Rch rel n x y→y∈i::seg∨0≤t.of y:=fun x y hx hr=>hr.stay (S:=fun z=>z∈i::seg∨0≤t.of z) (fun a b ha e=>by
  rcases ha with ha|ha
  · exact clo a b ha e
  · exact Or.inr (h.done a b ha e).1) (Or.inl hx)
 refine⟨⟨h.num0,h.lt,h.inj,fun x hx=>?_,fun x=>?_,fun x=>?_,?_,fun x hx=>?_,fun x y hx hg e=>?_,fun x y hx e=>?_,fun x y hx hy hxy=>?_,fun y hy=>?_,fun x hx y=>?_,fun k l hk=>?_⟩,hst',hof⟩
 · rw[hof,if_neg fun hl=>((h.stk x).1 (hLs x hl)).1 hx];exact h.white x hx
 · rw[hof,hgr,List.length_append,List.length_singleton]
   have:=h.ofb x
   split<;>omega
 · rw [hst',hof]
   constructor
   · intro hx
     have:=(h.stk x).1 (by rw[hst];exact List.mem_append_left _ hx)
     rw[if_neg fun hl=>hLn x hl hx];exact this
   · rintro ⟨h1,h2⟩
     split at h2
     · omega
     · rename_i hl
       exact(hsplit x ((h.stk x).2 ⟨h1,h2⟩)).resolve_right hl
 · rw[hst'];exact hrise.1
 · rw[hst'];exact hGp x hx
 · by_cases hxl:x∈i::seg
   · exact vis x y hxl e
   · refine h.black x y hx (fun hg'=>?_) e
     rcases hg' with hg'|rfl
     · exact hg hg'
     · exact hxl (by simp)
 · rw [hof]at hx
   rw[hof,hof]
   by_cases hxl:x∈i::seg
   · rw[if_pos hxl]
     rcases clo x y hxl e with hy|hy
     · rw[if_pos hy];omega
     · split
       · omega
       · have:=h.ofb y;omega
   · rw[if_neg hxl]at hx ⊢
     obtain ⟨a,b⟩:=h.done x y hx e
     rw[if_neg fun hl=>by have:=lof y hl;omega]
     exact⟨a,b⟩
 · rw[hst']at hx hy
   exact h.up x y (by rw[hst];exact List.mem_append_left _ hx) (by rw[hst];exact List.mem_append_left _ hy) hxy
 · rw[hst']at hy
   obtain ⟨g,hg,hgy,hr⟩:=h.down y (by rw[hst];exact List.mem_append_left _ hy)
   rcases hg with hg|rfl
   · exact⟨g,hg,hgy,hr⟩
   · have:=hpi y hy;omega
 · rw [hof]at hx
   rw[hof,hof]
   by_cases hxl:x∈i::seg
   · rw [if_pos hxl]
     constructor
     · rintro ⟨h1,h2⟩
       rcases fwd x y hxl h1 with hy|hy
       · rw[if_pos hy]
       · have:=dn y x hy h2;have:=lof x hxl;omega
     · intro hy
       split at hy
       · rename_i hyl
         obtain ⟨a1,a2⟩:=both x hxl
         obtain ⟨b1,b2⟩:=both y hyl
         exact⟨a2.trans b1,b2.trans a1⟩
       · have:=h.ofb y;omega
   · rw[if_neg hxl]at hx ⊢
     rw[h.scc x hx y]
     constructor
     · intro hy
       rw[if_neg fun hl=>by have:=lof y hl;omega];exact hy
     · intro hy
       split at hy
       · have:=h.ofb x;omega
       · exact hy
 · rw [hgr]at hk
   by_cases hkl:k<t.groups.length
   · rw[List.getElem?_append_left hkl]at hk
     obtain ⟨a,b,c⟩:=h.grp k l hk
     refine⟨a,b,fun x=>?_⟩
     rw[c x,hof]
     constructor
     · intro hx
       rw[if_neg fun hl=>by have:=lof x hl;omega];exact hx
     · intro hx
       split at hx
       · omega
       · exact hx
   · rw [List.getElem?_append_right o_]at hk
     have hk0:k=t.groups.length:=by
      rcases Nat.lt_or_ge (k - t.groups.length) 1 with h1|h1
      · omega
      · rw[List.getElem?_eq_none (by simpa using h1)]at hk;cases hk
     subst hk0
     rw[Nat.sub_self]at hk
     cases hk
     refine⟨fun e=>?_,Qf (List.nodup_append.1 hnd).2.1,fun x=>?_⟩
     · have:i∈QA (i::seg):=yP.2 (by simp)
       rw[e]at this;cases this
     · rw[yP,hof]
       constructor
       · intro hx;rw[if_pos hx]
       · intro hx
         split at hx
         · assumption
         · have:=h.ofb x;omega

def Xv (n:Nat) (s:TS):Nat:=(List.range n).countP fun x=>decide (s.num x=0)
theorem Qw {p q:Nat→Bool}: ∀{l:List Nat},(∀x∈l,p x=true→q x=true)→ ∀{i:Nat},i∈l→p i=false→q i=true→l.countP p<l.countP q
 | a ::l,h,i,hi,hp,hq=>by
   rw[List.countP_cons,List.countP_cons]
   have hm:=List.countP_mono_left (p:=p) (q:=q) (l:=l) fun x hx=>h x (List.mem_cons_of_mem _ hx)
   have ha:=h a (by simp)
   rcases List.mem_cons.1 hi with e|hi
   · subst e;rw[hp,hq];simp;omega
   · have:=Qw (l:=l) (fun x hx=>h x (List.mem_cons_of_mem _ hx)) hi hp hq
     cases h1:p a<;>cases h2:q a<;>simp_all<;>omega
theorem qqx {n:Nat} {s s':TS} (h: ∀x,s.num x≠0→s'.num x≠0):Xv n s'≤Xv n s:=by
 refine List.countP_mono_left fun x _ hx=>?_
 rw[decide_eq_true_eq]at hx ⊢
 exact Classical.byContradiction fun hn=>h x hn hx
theorem qbb {n i:Nat} {s s':TS} (h: ∀x,s.num x≠0→s'.num x≠0) (hi:i<n) (h0:s.num i=0) (h1:s'.num i≠0):Xv n s'<Xv n s:=by
 refine Qw (fun x _ hx=>?_) (List.mem_range.2 hi) (decide_eq_false h1) (decide_eq_true h0)
 rw[decide_eq_true_eq]at hx ⊢
 exact Classical.byContradiction fun hn=>h x hn hx
theorem TInv.low {rel:Nat→List Int} {n:Nat} {G:Nat→Prop} {s:TS} (h:TInv rel n G s) (l:Nat→Int):TInv rel n G {s with low:=l}:=
 ⟨h.num0,h.lt,h.inj,h.white,h.ofb,h.stk,h.rise,h.grey,h.black,h.done,h.up,h.down,h.scc,h.grp⟩
structure TLoop (rel:Nat→List Int) (n i:Nat) (G:Nat→Prop) (s t:TS) (P:List Int):Prop where
 inv:TInv rel n (fun x=>G x∨x=i) t
 ext:TExt s t
 seen:t.num i=(s.next+1:Nat)
 stk: ∃seg,t.stack=s.stack++i::seg
 le:t.low i≤t.num i
 on: ∃y,y∈t.stack∧t.num y≤t.num i∧t.low i=t.num y∧Rch rel n i y
 cross: ∀x y,x∈t.stack→x ∉ s.stack→x≠i→Edge rel n x y→y∈s.stack→t.low i≤t.num y
 crossi: ∀y:Nat,(y:Int)∈P→y∈s.stack→t.low i≤t.num y
 vis: ∀y:Nat,(y:Int)∈P→y<n→t.num y≠0
 unv:Xv n t<Xv n s
abbrev qsY (rel:Nat→List Int) (n f:Nat):Prop:= ∀(i:Nat) (s:TS) (G:Nat→Prop),s.num i=0→i<n→Xv n s≤f→TInv rel n G s→(∀g,G g→Rch rel n g i)→TInv rel n G (Zp rel n f i s)∧TVis rel n i s (Zp rel n f i s)
theorem qid {rel:Nat→List Int} {n f i:Nat} {G:Nat→Prop} {s t:TS} {P:List Int} {j:Int} (IH:qsY rel n f) (hI:TInv rel n G s) (h0:s.num i=0) (hi:i<n) (hu:Xv n s≤f+1) (hG: ∀g,G g→Rch rel n g i) (hj:j∈rel i) (L:TLoop rel n i G s t P):
 TLoop rel n i G s (qfr n i (Zp rel n f) t j) (P++[j]):=by
 obtain ⟨seg,hst⟩:=L.stk
 have his:i∈t.stack:=by rw[hst];simp
 have hni:i ∉ s.stack:=fun hh=>((hI.stk i).1 hh).1 h0
 have hsub: ∀x,x∈s.stack→x∈t.stack:=fun x hx=>by rw[hst];exact List.mem_append_left _ hx
 have hnz: ∀x,x∈t.stack→t.num x≠0:=fun x hx=>((L.inv.stk x).1 hx).1
 unfold qfr
 by_cases hr:j<0∨(n:Int)≤j
 · rw [if_pos hr]
   refine⟨L.inv,L.ext,L.seen,L.stk,L.le,L.on,L.cross,fun y hy hys=>?_,fun y hy hyn=>?_,L.unv⟩
   · rcases List.mem_append.1 hy with hy|hy
     · exact L.crossi y hy hys
     · rw[List.mem_singleton]at hy
       have:=hI.lt y ((hI.stk y).1 hys).1
       omega
   · rcases List.mem_append.1 hy with hy|hy
     · exact L.vis y hy hyn
     · rw[List.mem_singleton]at hy;omega
 · rw [if_neg hr]
   obtain ⟨k,rfl⟩: ∃k:Nat,j=k:=⟨j.toNat,o_⟩
   have hk:k<n:=o_
   rw[Int.toNat_natCast]
   have hE:Edge rel n i k:=⟨hi,hk,hj⟩
   by_cases hk0:t.num k=0
   · rw [if_pos hk0]
     obtain ⟨hI',V⟩:=IH k t _ hk0 hk (by have:=L.unv;omega) L.inv (fun g hg=>by
      rcases hg with hg|rfl
      · exact(hG g hg).trans (.one hE)
      · exact .one hE)
     dsimp only
     generalize Zp rel n f k t=s' at *
     have li:s'.low i=t.low i:=V.ext.low i his
     have ni:s'.num i=t.num i:=V.ext.num i (hnz i his)
     have hti:=(L.inv.num0 i).2
     have e1:=L.ext.trans V.ext
     obtain ⟨seg2,hst2⟩:=V.ext.stk
     have hsub2: ∀x,x∈t.stack→x∈s'.stack:=fun x hx=>by rw[hst2];exact List.mem_append_left _ hx
     have hle:=L.le
     refine⟨hI'.low _,⟨e1.next,e1.num,e1.new,e1.of,e1.stk,fun x hx=>?_⟩,ni.trans L.seen,⟨seg++seg2,by(try dsimp only);rw[hst2,hst,List.append_assoc];rfl⟩,?_,?_,fun x y hx hxs hxi e hy=>?_,fun y hy hys=>?_,fun y hy hyn=>?_,?_⟩<;>(try dsimp only)
     · (try dsimp only);rw[jY (k:=i) (j:=x) (fun e=>hni (e ▸ hx))];exact e1.low x hx
     · rw[zO,li,ni];omega
     · rw [zO,li,ni]
       obtain ⟨y0,hy0,hy1,hy2,hy3⟩:=L.on
       by_cases hlt:s'.low k<t.low i
       · by_cases hks:k∈s'.stack
         · obtain ⟨y,a,b,c⟩:=V.on hks
           refine⟨y,hsub2 y a,o_,o_,(Rch.one hE).trans c⟩
         · have a:=(V.out hks).1
           have b:=V.seen
           omega
       · refine⟨y0,hsub2 y0 hy0,?_,?_,hy3⟩
         · rw[V.ext.num y0 (hnz y0 hy0)];exact hy1
         · rw[V.ext.num y0 (hnz y0 hy0)];omega
     · rw[zO,li]
       have hyn:=V.ext.num y (hnz y (hsub y hy))
       by_cases hxt:x∈t.stack
       · have:=L.cross x y hxt hxs hxi e hy
         omega
       · have:=V.cross x y hx hxt e (hsub y hy)
         omega
     · rw[zO,li]
       have hyn:=V.ext.num y (hnz y (hsub y hys))
       rcases List.mem_append.1 hy with hy|hy
       · have:=L.crossi y hy hys;omega
       · rw[List.mem_singleton]at hy
         have:y=k:=o_
         subst this
         exact absurd hk0 (hnz y (hsub y hys))
     · rcases List.mem_append.1 hy with hy|hy
       · have:=L.vis y hy hyn
         rw[V.ext.num y this];exact this
       · rw[List.mem_singleton]at hy
         have:y=k:=o_
         subst this
         rw[V.seen];omega
     · have h1:Xv n {s' with low:=Jp s'.low i (min (s'.low i) (s'.low k))}=Xv n s':=rfl
       rw[h1]
       have:=qqx (n:=n) (s:=t) (s':=s') fun x hx=>by rw[V.ext.num x hx];exact hx
       have:=L.unv
       omega
   · rw [if_neg hk0]
     by_cases hof:t.of k<0
     · rw [if_pos hof]
       have hks:k∈t.stack:=(L.inv.stk k).2 ⟨hk0,hof⟩
       have hle:=L.le
       refine⟨L.inv.low _,⟨L.ext.next,L.ext.num,L.ext.new,L.ext.of,L.ext.stk,fun x hx=>?_⟩,L.seen,L.stk,?_,?_,fun x y hx hxs hxi e hy=>?_,fun y hy hys=>?_,fun y hy hyn=>?_,L.unv⟩<;>(try dsimp only)
       · (try dsimp only);rw[jY (k:=i) (j:=x) (fun e=>hni (e ▸ hx))];exact L.ext.low x hx
       · rw[zO];omega
       · rw[zO]
         obtain ⟨y0,hy0,hy1,hy2,hy3⟩:=L.on
         by_cases hlt:t.num k<t.low i
         · exact⟨k,hks,o_,o_,.one hE⟩
         · exact⟨y0,hy0,hy1,o_,hy3⟩
       · rw[zO]
         have:=L.cross x y hx hxs hxi e hy
         omega
       · rw[zO]
         rcases List.mem_append.1 hy with hy|hy
         · have:=L.crossi y hy hys;omega
         · rw[List.mem_singleton]at hy
           have:y=k:=o_
           subst this;omega
       · rcases List.mem_append.1 hy with hy|hy
         · exact L.vis y hy hyn
         · rw[List.mem_singleton]at hy
           have:y=k:=o_
           subst this;exact hk0
     · rw [if_neg hof]
       refine⟨L.inv,L.ext,L.seen,L.stk,L.le,L.on,L.cross,fun y hy hys=>?_,fun y hy hyn=>?_,L.unv⟩
       · rcases List.mem_append.1 hy with hy|hy
         · exact L.crossi y hy hys
         · rw[List.mem_singleton]at hy
           have:y=k:=o_
           subst this
           exact absurd ((L.inv.stk y).1 (hsub y hys)).2 hof
       · rcases List.mem_append.1 hy with hy|hy
         · exact L.vis y hy hyn
         · rw[List.mem_singleton]at hy
           have:y=k:=o_
           subst this;exact hk0
theorem qbV {rel:Nat→List Int} {n i:Nat} {G:Nat→Prop} {s:TS} (hI:TInv rel n G s) (h0:s.num i=0) (hi:i<n) (hG: ∀g,G g→Rch rel n g i):TLoop rel n i G s (Yw i s) []:=by
 have hni:i ∉ s.stack:=fun hh=>((hI.stk i).1 hh).1 h0
 have hinv:=qjE hI h0 hi hG
 have nme:(Yw i s).num i=(s.next+1:Nat):=zO _ _ _
 have nmo: ∀x,x≠i→(Yw i s).num x=s.num x:=fun x hx=>jY hx
 have lwe:(Yw i s).low i=(s.next+1:Nat):=zO _ _ _
 have hst:(Yw i s).stack=s.stack++[i]:=rfl
 have hx: ∀x,s.num x≠0→(Yw i s).num x=s.num x:=fun x hx=>nmo x fun e=>hx (e ▸ h0)
 refine⟨hinv,⟨Nat.le_succ _,hx,fun x hx=>?_,fun _ _=>rfl,⟨[i],rfl⟩,fun x hx=>jY fun e=>hni (e ▸ hx)⟩,nme,⟨[],rfl⟩,by rw[lwe,nme];exact Int.le_refl _,⟨i,by rw[hst];simp,Int.le_refl _,by rw[lwe,nme],.refl _⟩,fun x y hx hxs hxi=>?_,(fun y hy=>by cases hy),(fun y hy=>by cases hy),?_⟩
 · by_cases e:x=i
   · subst e;right;rw[nme];omega
   · left;rw[nmo x e];exact hx
 · rw[hst]at hx
   rcases List.mem_append.1 hx with h|h
   · exact absurd h hxs
   · exact absurd (List.mem_singleton.1 h) hxi
 · exact qbb (fun x h=>by rw[hx x h];exact h) hi h0 (by rw[nme];omega)
theorem qtu {rel:Nat→List Int} {n i:Nat} {G:Nat→Prop} {s t:TS} (hI:TInv rel n G s) (h0:s.num i=0) (hi:i<n) (L:TLoop rel n i G s t (rel i)):TInv rel n G (qgZ i t)∧TVis rel n i s (qgZ i t):=by
 obtain ⟨seg,hst⟩:=L.stk
 have hnd:t.stack.Nodup:=yS L.inv.rise
 rw[hst]at hnd
 have hrise:=L.inv.rise
 rw[hst,List.pairwise_append]at hrise
 have hni:i ∉ s.stack:=fun hh=>((hI.stk i).1 hh).1 h0
 have hLs: ∀x,x∈i::seg→x∈t.stack:=fun x hx=>by rw[hst];exact List.mem_append_right _ hx
 have hLn: ∀x,x∈i::seg→x ∉ s.stack:=fun x hx hp=>by
  have:=hrise.2.2 x hp x hx;omega
 have hLi: ∀x,x∈i::seg→t.num i≤t.num x:=fun x hx=>by
  rcases List.mem_cons.1 hx with rfl|hx
  · exact Int.le_refl _
  · exact Int.le_of_lt ((List.pairwise_cons.1 hrise.2.1).1 x hx)
 have hcr: ∀x y,x∈i::seg→Edge rel n x y→y∈s.stack→t.low i≤t.num y:=fun x y hx e hy=>by
  by_cases hxi:x=i
  · subst hxi;exact L.crossi y e.2.2 hy
  · exact L.cross x y (hLs x hx) (hLn x hx) hxi e hy
 unfold qgZ
 by_cases hl:t.low i=t.num i
 · rw[if_pos hl]
   obtain ⟨a,b,c⟩:=qlj L.inv hst (fun g hg=>hI.grey g hg) hl (fun y e=>L.vis y e.2.2 e.2.1) hcr
   have low': ∀x,(qcj i t).low x=t.low x:=fun _=>rfl
   have num': ∀x,(qcj i t).num x=t.num x:=fun _=>rfl
   refine⟨a,⟨L.ext.next,L.ext.num,L.ext.new,fun x hx=>?_,⟨[],by rw[b];simp⟩,L.ext.low⟩,L.seen,L.le,fun _=>⟨hl,b⟩,fun h=>?_,fun x y hx hxs=>?_⟩
   · have h1:=L.ext.of x hx
     rw[c,if_neg fun hh=>by have:=((L.inv.stk x).1 (hLs x hh)).2;omega];exact h1
   · rw[b]at h;exact absurd h hni
   · rw[b]at hx;exact absurd hx hxs
 · rw [if_neg hl]
   have hle:=L.le
   obtain ⟨z,hz,hz1,hz2,hz3⟩:=L.on
   have hzs:z∈s.stack:=by
    rw[hst]at hz
    rcases List.mem_append.1 hz with h|h
    · exact h
    · have:=hLi z h;omega
   refine⟨⟨L.inv.num0,L.inv.lt,L.inv.inj,L.inv.white,L.inv.ofb,L.inv.stk,L.inv.rise,fun x hx=>L.inv.grey x (Or.inl hx),fun x y hx hg e=>?_,L.inv.done,L.inv.up,fun y hy=>?_,L.inv.scc,L.inv.grp⟩,⟨L.ext,L.seen,L.le,fun h=>absurd (hLs i (by simp)) h,fun _=>⟨z,hzs,hz2,hz3⟩,fun x y hx hxs e hy=>?_⟩⟩
   · by_cases hxi:x=i
     · subst hxi;exact L.vis y e.2.2 e.2.1
     · exact L.inv.black x y hx (fun h=>h.elim hg hxi) e
   · obtain ⟨g,hg,hgy,hr⟩:=L.inv.down y hy
     rcases hg with hg|rfl
     · exact⟨g,hg,hgy,hr⟩
     · obtain ⟨g2,hg2,hgz,hr2⟩:=L.inv.down z hz
       rcases hg2 with hg2|rfl
       · exact⟨g2,hg2,o_,(hr.trans hz3).trans hr2⟩
       · omega
   · rw[hst]at hx
     rcases List.mem_append.1 hx with h|h
     · exact absurd h hxs
     · exact hcr x y h e hy
theorem Yx (rel:Nat→List Int) (n:Nat): ∀f,qsY rel n f
 | 0,i,s,G,h0,hi,hu,hI,hG=>by
   exfalso
   have:Xv n {s with num:=fun _=>1}<Xv n s:=qbb (fun x _=>by dsimp only;omega) hi h0 (by dsimp only;omega)
   omega
 | f+1,i,s,G,h0,hi,hu,hI,hG=>by
   have key: ∀(l P:List Int) (t:TS),P++l=rel i→TLoop rel n i G s t P→TLoop rel n i G s (l.foldl (qfr n i (Zp rel n f)) t) (rel i):=by
    intro l
    induction l with
    |nil=>intro P t e L;rw[List.append_nil]at e;subst e;exact L
    | cons j l ih=>
      intro P t e L
      rw[List.foldl_cons]
      refine ih (P++[j]) _ (by rw[List.append_assoc];exact e) ?_
      exact qid (Yx rel n f) hI h0 hi hu hG (by rw[← e];simp) L
   rw[Zp]
   exact qtu hI h0 hi (key (rel i) [] _ rfl (qbV hI h0 hi hG))
theorem qCq (rel:Nat→List Int) (n:Nat):TInv rel n (fun _=>False) (qdc rel n)∧(qdc rel n).stack=[]∧ ∀x,x<n→0≤(qdc rel n).of x:=by
 have key: ∀(l:List Nat),(∀x∈l,x<n)→ ∀(s:TS),TInv rel n (fun _=>False) s→TInv rel n (fun _=>False) (l.foldl (fun s i=>if s.num i=0 then Zp rel n n i s else s) s)∧(∀x,s.num x≠0→(l.foldl (fun s i=>if s.num i=0 then Zp rel n n i s else s) s).num x≠0)∧ ∀x∈l,(l.foldl (fun s i=>if s.num i=0 then Zp rel n n i s else s) s).num x≠0:=by
  intro l
  induction l with
  |nil=>intro _ s h;exact⟨h,fun _ h=>h,fun x hx=>by cases hx⟩
  | cons i l ih=>
    intro hl s h
    rw[List.foldl_cons]
    have step: ∃s1,(if s.num i=0 then Zp rel n n i s else s)=s1∧TInv rel n (fun _=>False) s1∧(∀x,s.num x≠0→s1.num x≠0)∧s1.num i≠0:=by
     by_cases h0:s.num i=0
     · rw[if_pos h0]
       obtain ⟨a,b⟩:=Yx rel n n i s (fun _=>False) h0 (hl i (by simp)) (by unfold Xv;have:=List.countP_le_length (p:=fun x=>decide (s.num x=0)) (l:=List.range n);rw[List.length_range]at this;exact this) h (fun g hg=>hg.elim)
       exact⟨_,rfl,a,fun x hx=>by rw[b.ext.num x hx];exact hx,by rw[b.seen];omega⟩
     · rw[if_neg h0]
       exact⟨s,rfl,h,fun _ h=>h,h0⟩
    obtain ⟨s1,e,h1,h2,h3⟩:=step
    rw[e]
    obtain ⟨a,b,c⟩:=ih (fun x hx=>hl x (List.mem_cons_of_mem _ hx)) s1 h1
    refine⟨a,fun x hx=>b x (h2 x hx),fun x hx=>?_⟩
    rcases List.mem_cons.1 hx with rfl|hx
    · exact b x h3
    · exact c x hx
 obtain ⟨a,_,c⟩:=key (List.range n) (fun x hx=>List.mem_range.1 hx) _ (show TInv rel n (fun _=>False) {num:=fun _=>0,low:=fun _=>0,of:=fun _=> -1,stack:=[],groups:=[],next:=0} from
  ⟨fun _=>⟨by dsimp only;omega,by dsimp only;omega⟩,fun x h=>absurd rfl h,fun x _ h=>absurd rfl h,fun _ _=>rfl,fun _=>⟨by dsimp only;omega,by simp⟩,fun x=>by simp,List.Pairwise.nil,fun x h=>h.elim,fun x _ h=>absurd rfl h,fun x _ h=>by dsimp only at h;omega,fun x y h=>by simp at h,fun y h=>by simp at h,fun x h=>by dsimp only at h;omega,fun k l h=>by simp at h⟩)
 have hst:(qdc rel n).stack=[]:=by
  cases hs:(qdc rel n).stack with
  |nil=>rfl
  | cons x r=>
    have hx:x∈(qdc rel n).stack:=by rw[hs];simp
    obtain ⟨g,hg,_⟩:=(show TInv rel n (fun _=>False) (qdc rel n) from a).down x hx
    exact hg.elim
 refine⟨a,hst,fun x hx=>?_⟩
 have hv:=c x (List.mem_range.2 hx)
 refine Classical.byContradiction fun hn=>?_
 have:x∈(qdc rel n).stack:=((show TInv rel n (fun _=>False) (qdc rel n) from a).stk x).2 ⟨hv,o_⟩
 rw[hst]at this;cases this

def qfP (rel:Nat→List Int) (n:Nat) (S:Nat→Int→Prop) (of:Nat→Int) (k:Nat) (A:Int→Prop):Prop:= ∀v,A v↔ ∃i j,of i=(k:Int)∧Rch rel n i j∧S j v
theorem of_lt {rel:Nat→List Int} {n:Nat} {G:Nat→Prop} {s:TS} (h:TInv rel n G s) {x:Nat} (hx:0≤s.of x):x<n:=by
 refine h.lt x fun e=>?_
 have:=h.white x e
 omega
theorem qjN {rel:Nat→List Int} {n:Nat} {G:Nat→Prop} {s:TS} (h:TInv rel n G s) {x y:Nat} (hx:0≤s.of x) (e:s.of y=s.of x):Rch rel n x y∧Rch rel n y x:=(h.scc x hx y).2 e
theorem qfl {rel:Nat→List Int} {n:Nat} {G:Nat→Prop} {s:TS} (h:TInv rel n G s) {x y:Nat} (hx:0≤s.of x) (hr:Rch rel n x y):s.of y=s.of x∨ ∃a b,s.of a=s.of x∧Edge rel n a b∧s.of b<s.of x∧0≤s.of b∧Rch rel n b y:=by
 induction hr with
 |refl=>exact Or.inl rfl
 | step h1 e ih=>
   rename_i j k
   rcases ih with h2|⟨a,b,h2,h3,h4,h5,h6⟩
   · have hj:0≤s.of j:=o_
     have:=h.done j k hj e
     by_cases hk:s.of k=s.of x
     · exact Or.inl hk
     · exact Or.inr ⟨j,k,h2,e,o_,this.1,.refl _⟩
   · exact Or.inr ⟨a,b,h2,h3,h4,h5,.step h6 e⟩
theorem qeE {rel:Nat→List Int} {n:Nat} {G:Nat→Prop} {s:TS} {S:Nat→Int→Prop} {A:Nat→Int→Prop} {k:Nat} (h:TInv rel n G s) (hlt: ∀k':Nat,k'<k→qfP rel n S s.of k' (A k'))
 (hs: ∀v,A k v→ ∃i j,s.of i=(k:Int)∧Rch rel n i j∧S j v) (hc1: ∀i,s.of i=(k:Int)→ ∀v,S i v→A k v) (hc2: ∀i j (k':Nat),s.of i=(k:Int)→Edge rel n i j→s.of j=(k':Int)→k'<k→ ∀v,A k' v→A k v):qfP rel n S s.of k (A k):=by
 intro v
 refine⟨hs v,fun⟨i,j,hi,hr,hv⟩=>?_⟩
 have hi0:0≤s.of i:=o_
 rcases qfl h hi0 hr with e|⟨a,b,e1,e2,e3,e4,e5⟩
 · exact hc1 j o_ v hv
 · obtain ⟨k',hk'⟩: ∃k':Nat,s.of b=k':=⟨(s.of b).toNat,o_⟩
   exact hc2 a b k' o_ e2 hk' o_ v ((hlt k' o_ v).2 ⟨b,j,hk',e5,hv⟩)
theorem qf7 {rel:Nat→List Int} {n:Nat} {G:Nat→Prop} {s:TS} {S:Nat→Int→Prop} {A:Int→Prop} {k i:Nat} (h:TInv rel n G s) (hf:qfP rel n S s.of k A) (hi:s.of i=(k:Int)) (v:Int):A v↔ ∃j,Rch rel n i j∧S j v:=by
 rw[hf v]
 constructor
 · rintro ⟨i',j,h1,h2,h3⟩
   exact⟨j,((qjN h (x:=i) (y:=i') o_ o_).1).trans h2,h3⟩
 · rintro ⟨j,h2,h3⟩
   exact⟨i,j,hi,h2,h3⟩

structure RchI (rel:Nat→List Int) (n i:Nat) (out todo:List Int):Prop where
 rise:qmj out
 mem: ∀x∈out,∃k:Nat,x=k∧k<n∧Rch rel n i k
 self:(i:Int)∈out
 sub: ∀x∈todo,x∈out
 clo: ∀x:Nat,(x:Int)∈out→(x:Int) ∉ todo→ ∀y,Edge rel n x y→(y:Int)∈out
theorem qc7 {n:Nat}: ∀{l:List Int},qmj l→(∀x∈l,0≤x∧x<(n:Int))→l.length≤n:=by
 intro l h hb
 have: ∀(l:List Int) (a:Int),qmj l→(∀x∈l,a≤x∧x<(n:Int))→a≤n→(l.length:Int)≤n - a:=by
  intro l
  induction l with
  |nil=>intro a _ _ h;simp;omega
  | cons x r ih=>
    intro a h hb ha
    have hx:=hb x (by simp)
    have:=ih (x+1) (List.pairwise_cons.1 h).2 (fun y hy=>⟨by have:=(List.pairwise_cons.1 h).1 y hy;omega,(hb y (List.mem_cons_of_mem _ hy)).2⟩) o_
    rw[List.length_cons];omega
 have:=this l 0 h hb o_
 omega

abbrev AP (m:Nat→Bool):Int→Prop:=fun v=> ∃y:Nat,v=y∧m y=true
def qll (sl:Nat→List Int) (j:Nat):Int→Prop:=AP (Xz (sl j))
structure CloI (rel:Nat→List Int) (n:Nat) (of:Nat→Int) (sl:Nat→List Int) (A:Nat→Nat→Bool) (k:Nat) (D1:Nat→Prop) (D2:Nat→Nat→Prop):Prop where
 lt: ∀k':Nat,k'<k→qfP rel n (qll sl) of k' (AP (A k'))
 sd: ∀v,AP (A k) v→ ∃i j,of i=(k:Int)∧Rch rel n i j∧qll sl j v
 d1: ∀x,D1 x→ ∀v,qll sl x v→AP (A k) v
 d2: ∀x j (k':Nat),D2 x j→of j=(k':Int)→k'<k→ ∀v,AP (A k') v→AP (A k) v
 hi: ∀k',k<k'→A k'=fun _=>false
def qsL (A:Nat→Nat→Bool) (k:Nat) (m:Nat→Bool):Nat→Nat→Bool:=fun i=>if i=k then m else A i
theorem qaq (A:Nat→Nat→Bool) (k:Nat) (m:Nat→Bool):qsL A k m k=m:=if_pos rfl
theorem qar {A:Nat→Nat→Bool} {k i:Nat} {m:Nat→Bool} (h:i≠k):qsL A k m i=A i:=if_neg h
theorem CloI.start (rel:Nat→List Int) (n:Nat) (of:Nat→Int) (sl:Nat→List Int):CloI rel n of sl (fun _ _=>false) 0 (fun _=>False) (fun _ _=>False):=
 ⟨fun k' h=>by omega,fun v ⟨y,_,h⟩=>(by cases h),fun x h=>h.elim,fun x j k' h=>h.elim,fun _ _=>rfl⟩
theorem CloI.weak {rel:Nat→List Int} {n:Nat} {of:Nat→Int} {sl:Nat→List Int} {A:Nat→Nat→Bool} {k:Nat} {D1 E1:Nat→Prop} {D2 E2:Nat→Nat→Prop} (h:CloI rel n of sl A k D1 D2) (h1: ∀x,E1 x→D1 x) (h2: ∀x j,E2 x j→D2 x j):CloI rel n of sl A k E1 E2:=
 ⟨h.lt,h.sd,fun x hx=>h.d1 x (h1 x hx),fun x j k' hx=>h.d2 x j k' (h2 x j hx),h.hi⟩
theorem CloI.join {rel:Nat→List Int} {n:Nat} {of:Nat→Int} {sl:Nat→List Int} {A:Nat→Nat→Bool} {k:Nat} {D1 E1:Nat→Prop} {D2 E2:Nat→Nat→Prop} (h:CloI rel n of sl A k D1 D2) {m:Nat→Bool}
 (hm: ∀v,AP m v→ ∃i j,of i=(k:Int)∧Rch rel n i j∧qll sl j v) (h1: ∀x,E1 x→D1 x∨ ∀v,qll sl x v→AP m v) (h2: ∀x j,E2 x j→D2 x j∨ ∀(k':Nat),of j=(k':Int)→k'<k→ ∀v,AP (A k') v→AP m v):
 CloI rel n of sl (qsL A k (fun y=>A k y || m y)) k E1 E2:=by
 have up: ∀v,AP (A k) v→AP (qsL A k (fun y=>A k y || m y) k) v:=fun v ⟨y,e,hy⟩=>⟨y,e,by rw[qaq];simp[hy]⟩
 have um: ∀v,AP m v→AP (qsL A k (fun y=>A k y || m y) k) v:=fun v ⟨y,e,hy⟩=>⟨y,e,by rw[qaq];simp[hy]⟩
 refine⟨fun k' hk=>by rw[qar o_];exact h.lt k' hk,fun v ⟨y,e,hy⟩=>?_,fun x hx v hv=>?_,fun x j k' hx ho hk v hv=>?_,fun k' hk=>by rw[qar o_];exact h.hi k' hk⟩
 · rw[qaq,Bool.or_eq_true]at hy
   rcases hy with hy|hy
   · exact h.sd v ⟨y,e,hy⟩
   · exact hm v ⟨y,e,hy⟩
 · rcases h1 x hx with a|a
   · exact up v (h.d1 x a v hv)
   · exact um v (a v hv)
 · rw[qar o_]at hv
   rcases h2 x j hx with a|a
   · exact up v (h.d2 x j k' a ho hk v hv)
   · exact um v (a k' ho hk v hv)
theorem CloI.next {rel:Nat→List Int} {n:Nat} {G:Nat→Prop} {s:TS} {sl:Nat→List Int} {A:Nat→Nat→Bool} {k:Nat} {D1:Nat→Prop} {D2:Nat→Nat→Prop} (hI:TInv rel n G s) (h:CloI rel n s.of sl A k D1 D2) (h1: ∀x,s.of x=(k:Int)→D1 x) (h2: ∀x j,s.of x=(k:Int)→Edge rel n x j→D2 x j):
 CloI rel n s.of sl A (k+1) (fun _=>False) (fun _ _=>False):=by
 refine⟨fun k' hk=>?_,fun v ⟨y,_,hy⟩=>?_,fun x h=>h.elim,fun x j k' h=>h.elim,fun k' hk=>h.hi k' o_⟩
 · rcases Nat.lt_or_ge k' k with e|e
   · exact h.lt k' e
   · have:k'=k:=o_
     subst this
     exact qeE (A:=fun k=>AP (A k)) hI h.lt h.sd (fun i hi v hv=>h.d1 i (h1 i hi) v hv) (fun i j k2 hi hE ho hk2 v hv=>h.d2 i j k2 (h2 i j hi hE) ho hk2 v hv)
 · rw[h.hi (k+1) o_]at hy;cases hy
noncomputable def qKe (rel:Nat→List Int) (n:Nat) (sl:Nat→List Int) (i:Nat):Nat→Bool:=fun y=> @decide (∃j,Rch rel n i j∧Xz (sl j) y=true) (Classical.propDecidable _)
theorem CloI.out {rel:Nat→List Int} {n:Nat} {G:Nat→Prop} {s:TS} {sl:Nat→List Int} {A:Nat→Nat→Bool} {k i g:Nat} {D1:Nat→Prop} {D2:Nat→Nat→Prop} (hI:TInv rel n G s) (h:CloI rel n s.of sl A k D1 D2) (hi:s.of i=(g:Int)) (hg:g<k):A g=qKe rel n sl i:=by
 funext y
 have:=qf7 hI (h.lt g hg) hi (y:Int)
 rw[Bool.eq_iff_iff]
 unfold qKe
 rw[@decide_eq_true_eq _ (Classical.propDecidable _)]
 constructor
 · intro hy
   obtain ⟨j,hr,z,e,hz⟩:=this.1 ⟨y,rfl,hy⟩
   have:y=z:=o_
   subst this
   exact⟨j,hr,hz⟩
 · rintro ⟨j,hr,hy⟩
   obtain ⟨z,e,hz⟩:=this.2 ⟨j,hr,y,rfl,hy⟩
   have:y=z:=o_
   subst this
   exact hz
end Go.Proofs
