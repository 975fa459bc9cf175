/- Part of a proof that a law of the given program answers true. -/
import Derived.Test.YtjdjdbkoplmjeaaGreatDoorQVA
import Derived.Test.YtjdjdbkoplmjeaaGreatDoorQWB
import Derived.Test.YtjdjdbkoplmjeaaGreatDoorQEC
import Derived.Test.YtjdjdbkoplmjeaaGreatDoorQCA
set_option linter.unusedSimpArgs false
set_option linter.unusedVariables false
set_option maxHeartbeats 8000000
namespace Go.Proofs
open Go.E
def tbl (n:Nat) (f:Nat→List Int):List (List Int):=(List.range n).map f
theorem Qy (n:Nat) (f:Nat→List Int):(tbl n f).length=n:=by simp[tbl]
theorem Zu {n k:Nat} {f:Nat→List Int} (h:k<n):(tbl n f)[k]?=some (f k):=by simp[tbl,h]
theorem qjh {n k:Nat} {f:Nat→List Int} {x:Int} (h:k<n):(tbl n f).set k (f k++[x])=tbl n (qoc f k x):=by
 refine List.ext_getElem? fun i=>?_
 rw[List.getElem?_set,Qy]
 by_cases hi:i<n
 · rw[Zu hi,Zu hi]
   by_cases e:k=i
   · subst e;simp[hi,qoc]
   · rw[if_neg e]
     have e2: ¬ i=k:=fun e2=>e e2.symm
     simp[qoc,e2]
 · rw[List.getElem?_eq_none (by rw[Qy];omega),List.getElem?_eq_none (by rw[Qy];omega)]
   split
   · rename_i e;exact absurd (e ▸ h) hi
   · rfl
theorem qeJ (n:Nat):List.replicate n []=tbl n (fun _=>[]):=by
 refine List.ext_getElem? fun i=>?_
 by_cases h:i<n
 · rw[Zu h];simp[h]
 · rw[List.getElem?_eq_none (by simp;omega),List.getElem?_eq_none (by rw[Qy];omega)]
theorem qgs {n:Nat} {f:Nat→List Int} {i:Nat} (h:i<n):yH (tbl n f) i=f i:=by
 unfold yH;rw[List.getD_eq_getElem?_getD,Zu h];rfl
theorem Zl {rel rel':Nat→List Int} {n:Nat} (h: ∀i,i<n→rel i=rel' i) {i j:Nat} (hr:Rch rel n i j):Rch rel' n i j:=by
 induction hr with
 |refl=>exact .refl _
 |step _ e ih=>exact .step ih ⟨e.1,e.2.1,by rw[← h _ e.1];exact e.2.2⟩
theorem qmJ {S:Nat→Bool} {H H0:Nat→Option MObj} {id next:Nat} {L:List (List Int)} {es:List V} {ro:Bool} (hS:S id=true) (hH:H id=some (.own 1 es ro)) (h:GT H0 next L es):Er true (rsH S H) (.msl id 1 0 L.length) (.sl 1 false (L.map Xm)):=by
 have he:ErL true (rsH S H) es (L.map Xm):=h.erL
 obtain ⟨h1,h2⟩:=he.get
 refine .msl id 1 0 L.length es ro (L.map Xm) rfl (by unfold rsH;rw[if_pos hS];exact hH) (by rw[h.len];omega) (by simp) fun i c c' h3 h4=>?_
 rw[Nat.zero_add]at h3
 exact h2 i c c' h3 h4
def stC (n t i:Nat):List V:=(List.range n).map fun k=>if k<i then .sl 1 true [V.int .i64 ((t+k:Nat):Int)]else .sl 1 true []
theorem qFX (n t:Nat):stC n t n=(tbl n (qEQ t).2).map fun l=>.sl 1 true (l.map (V.int .i64)):=by
 unfold stC tbl
 rw[List.map_map]
 refine List.map_congr_left fun k hk=>?_
 rw[if_pos (List.mem_range.1 hk)];rfl
theorem GT2.start {H:Nat→Option MObj} {next n t:Nat}:GT2 H next (tbl n (qEQ t).1) (tbl n (qEQ t).2) (List.replicate n (.sl 1 true [])) (stC n t n):=by
 refine⟨?_,?_,fun i j v w h1 h2=>?_⟩
 · rw[show tbl n (qEQ t).1=List.replicate n [] from (qeJ n).symm]
   exact GT.new H next n
 · rw[qFX];exact GT.lit H next _
 · have e1:=List.mem_replicate.1 (List.mem_of_getElem? h1)
   rw[e1.2];exact Sep.slL
end Go.Proofs
