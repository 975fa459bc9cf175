/- Part of a proof that a law of the given program answers true. -/
import Derived.Test.YtnglccjjgbdfgaaDoorXEC
import Derived.Sort.Grow
import Derived.Shelf.SlSortCmp.Kit1
import Derived.Sort.AssemblyPlain
import Derived.Test.YtnglccjjgbdfgaaDoorGCA
import Derived.Shelf.SlGeneric
import Derived.Shelf.Sort.Plain
import Derived.Ground.Names2Prog
import Derived.Ground.NamesProg
import Derived.Shelf.Slices.Clone
import Derived.Shelf.SlSortCmp.Whole1
import Derived.Shelf.Small.Wraps
import Derived.Ground.SlsfProg
import Derived.Deep.QuietTactic
import Derived.BigQuiet
import Derived.WalkKit
set_option linter.unusedSimpArgs false
set_option linter.unusedVariables false
set_option maxHeartbeats 4000000
namespace Go.Proofs
open Go.E Go.Sort Go.Lib Go.RowKit
theorem R.msl_inv {β : Nat → Option E.Loc} {w : World} {lim : Nat → Option Nat} {v : V} {r : Value} (h : R β w lim v r) {id sz off len : Nat} (e : v = .msl id sz off len) (hl : 0 < len) :
 ∃ l cap, β id = some l ∧ l.size = sz ∧ r = .slice (some ⟨l.b, l.o + off * sz, none⟩) len cap := by
 cases h <;> cases e
 · omega
 · exact ⟨_, _, by assumption, rfl, rfl⟩
theorem R.int_inv {β : Nat → Option E.Loc} {w : World} {lim : Nat → Option Nat} {v : V} {r : Value} (h : R β w lim v r) {k : IntKind} {n : Int} (e : v = .int k n) : r = .int k n := by
 cases h <;> cases e
 rfl
theorem R.fn_inv {β : Nat → Option E.Loc} {w : World} {lim : Nat → Option Nat} {v : V} {r : Value} (h : R β w lim v r) {f : FuncId} (e : v = .fn f []) : r = .func (.func f) #[] #[] := by
 cases h <;> cases e
 rename_i rs hl _
 have : rs = #[] := Array.eq_empty_of_size_eq_zero hl
 rw [this]
theorem row_after {α : Type} [Inhabited α] {β : Nat → Option E.Loc} {w w' : World} {lim : Nat → Option Nat} {H : Nat → Option MObj} {next base id : Nat} (hR : RelH H next β lim base w) {es : List V} (hH : H id = some (.own 1 es false))
 {l : E.Loc} (hβ : β id = some l) (hpos : 0 < es.length) {enc : α → Value} {v : α → V} {d : Array α} (hd : d.size = es.length)
 (hv : ∀ x ∈ d.toList, (v x).cells = [v x] ∧ (v x).scalar = true ∧ R β w lim (v x) (enc x)) {n : Nat} {os : Array Obj} (hw : w' = grow (putRow enc (Sort.ahead w n) l.b l.o d) os) :
 RelH (fun j => if j = id then some (.own 1 (d.toList.map v) false) else H j) next β lim base w' ∧ Ext lim w w' ∧ RowKit.Below base w w' := by
 rcases hR.obj id _ hH with ⟨h1, h0⟩ | ⟨l', cur, et, h1, h2, h3, h4, h5, h6, h7⟩
 · rw [h1] at hβ; cases hβ
 · rw [hβ] at h1
   cases h1
   rw [Nat.mul_one] at h4
   have hlb : l.b < w.heap.size := (hR.own id l hβ).2
   have hid : id < next := by
    rcases Nat.lt_or_ge id next with h | h
    · exact h
    · have := (hR.fresh id h).2; rw [hH] at this; cases this
   have at_ : w'.heap[l.b]? = some (.cells (putCells enc l.o d cur) et (0, 0)) := by
    rw [hw, heap_grow_old _ _ (by simpa using hlb)]
    simp [putRow, mapBlock, Sort.ahead, Array.getElem?_modify, h3, onCells]
   have other : ∀ k, k < w.heap.size → k ≠ l.b → w'.heap[k]? = w.heap[k]? := fun k hk hne => by
    rw [hw, heap_grow_old _ _ (by simpa using hk)]
    have : l.b ≠ k := fun e => hne e.symm
    simp [putRow, mapBlock, Sort.ahead, Array.getElem?_modify, this]
   have size_ : w.heap.size ≤ w'.heap.size := by
    rw [hw]; simp [grow, putRow, mapBlock, Sort.ahead]
   have psz : (putCells enc l.o d cur).size = cur.size := by simp [putCells]
   have s123 : w'.os = w.os ∧ w'.tape = w.tape ∧ w'.output = w.output := by subst hw; exact ⟨rfl, rfl, rfl⟩
   obtain ⟨s1, s2, s3⟩ := s123
   have hlim : lim l.b = some 0 := by simpa using h5
   have hext : Ext lim w w' := ⟨size_, fun b c e fz hb => by
    by_cases hbl : b = l.b
    · subst hbl
      rw [h3] at hb
      cases hb
      refine ⟨_, _, _, at_, psz, fun i hi => ?_⟩
      unfold stab at hi
      rw [hlim] at hi
      simp at hi
    · have hlt : b < w.heap.size := (Array.getElem?_eq_some_iff.1 hb).1
      exact ⟨c, e, fz, (other b hlt hbl).trans hb, rfl, fun _ _ => rfl⟩⟩
   have hbe : RowKit.Below base w w' := ⟨s1, s2, s3, size_, fun k hk => other k (Nat.lt_of_lt_of_le hk hR.base_le) (by have := (hR.own id l hβ).1; omega)⟩
   have hgr : Grows β β lim lim base w w' := ⟨fun _ _ h => h, hext, LimLe.refl _ _, hbe, fun _ _ => rfl⟩
   refine ⟨?_, hext, hbe⟩
   refine hR.step hgr (Nat.le_refl _) (id := id) (tb := l.b) hid (fun b hb hne => ⟨other b hb hne, rfl⟩) (fun _ _ => rfl) (fun j o hj h => by rwa [if_neg hj] at h) (fun j o l2 hj h hβ2 e => ?_) (fun o h => ?_) (fun l2 h => ?_) (fun o l2 h h2 => ?_)
   · rw [if_neg hj] at h
     exact hj (hR.uniq j id o _ l2 l h hH hβ2 hβ e)
   · rw [if_pos rfl] at h
     cases h
     refine .inr ⟨l, _, et, hβ, h2, at_, by rw [psz, List.length_map, Array.length_toList, hd]; omega, by simpa using hlim, fun e he => ?_, fun i j e c he hcj => ?_⟩
     · obtain ⟨x, hx, rfl⟩ := List.mem_map.1 he
       obtain ⟨e1, e2, _⟩ := hv x hx
       rw [e1]
       exact ⟨rfl, fun c hc => by simp at hc; subst hc; exact e2⟩
     · rw [List.getElem?_map, Option.map_eq_some_iff] at he
       obtain ⟨x, hx1, rfl⟩ := he
       have hi : i < d.size := by have := (List.getElem?_eq_some_iff.1 hx1).1; simpa using this
       obtain ⟨e1, e2, e3⟩ := hv x (List.mem_of_getElem? hx1)
       rw [e1] at hcj
       have hj0 : j = 0 ∧ c = v x := by
        cases j with
        | zero => exact ⟨rfl, by simpa using hcj.symm⟩
        | succ j => simp at hcj
       obtain ⟨rfl, rfl⟩ := hj0
       refine ⟨enc x, ?_, hgr.R e3⟩
       rw [Nat.mul_one, Nat.add_zero]
       have hc1 : l.o + i < cur.size := by omega
       have hz2 : d[i]! = x := by
        rw [getElem!_pos d i hi]
        have := (List.getElem?_eq_some_iff.1 hx1).2
        simpa using this
       simp only [putCells, Array.getElem?_mapIdx, Array.getElem?_eq_getElem hc1, Option.map_some]
       rw [if_pos (by omega), show l.o + i - l.o = i by omega, hz2]
   · rw [hβ] at h
     cases h
     exact ⟨(hR.own id l hβ).1, Nat.lt_of_lt_of_le hlb size_⟩
   · rw [hβ] at h2
     cases h2
     rfl
abbrev srtZ (zs : List Int) : List Int := zs.mergeSort fun x y => decide (x ≤ y)
theorem sort_bridge {P : Program} [Glob P] {f : FuncId} (hE : E.Enters P f)
 (hc : ∀ (blk off cap : Nat) (zs : List Int) (w : World), Holds (Value.int .i64) w blk off zs.toArray → blk < w.heap.size → zs.length < 4611686018427387904 →
  Calls P f #[.slice (some ⟨blk, off, none⟩) zs.length cap] w fun e w' => e = .returned (.tuple #[]) ∧ ∃ n os, w' = grow (putRow (Value.int .i64) (Sort.ahead w n) blk off (srtZ zs).toArray) os)
 {H : Nat → Option MObj} {next id : Nat} {zs : List Int} (hH : H id = some (.own 1 (zs.map (V.int .i64)) false)) (hn : 0 < zs.length) (hz : zs.length < 4611686018427387904) :
 ECalls P f [.msl id 1 0 zs.length] H next fun v H' n' => v = .tup [] ∧ n' = next ∧ H' id = some (.own 1 ((srtZ zs).map (V.int .i64)) false) ∧ ∀ j, j ≠ id → H' j = H j := by
 have hlen : (srtZ zs).length = zs.length := List.length_mergeSort _
 refine ⟨.tup [], fun j => if j = id then some (.own 1 ((srtZ zs).map (V.int .i64)) false) else H j, next, ⟨rfl, rfl, if_pos rfl, fun j hj => if_neg hj⟩, ⟨⟨hE, _, _, _, rfl, rfl, rfl⟩, fun w β lim base ra hg hR hra => ?_⟩⟩
 obtain ⟨hsz, hrs⟩ := hra
 obtain ⟨r, rfl⟩ : ∃ r, ra = #[r] := by
  rcases ra with ⟨l⟩
  match l, hsz with
  | [r], _ => exact ⟨r, rfl⟩
 obtain ⟨l, cap, hβ, hls, rfl⟩ := R.msl_inv (hrs 0 _ r rfl rfl) rfl hn
 rw [Nat.zero_mul, Nat.add_zero]
 rcases hR.obj id _ hH with ⟨h1, _⟩ | ⟨l', cur, et, h1, h2, h3, h4, h5, h6, h7⟩
 · rw [h1] at hβ; cases hβ
 · rw [hβ] at h1
   cases h1
   rw [List.length_map, Nat.mul_one] at h4
   have hlb : l.b < w.heap.size := (hR.own id l hβ).2
   have holds : Holds (Value.int .i64) w l.b l.o zs.toArray := fun j hj => by
    have hj' : j < zs.length := by simpa using hj
    obtain ⟨r, hr, hRr⟩ := h7 j 0 (.int .i64 zs[j]) (.int .i64 zs[j]) (by rw [List.getElem?_map, List.getElem?_eq_getElem hj']; rfl) rfl
    rw [Nat.mul_one, Nat.add_zero, R.int_inv hRr rfl] at hr
    refine ⟨?_, by simp [World.frozen?, h3]⟩
    simp only [World.cell?, h3]
    simp [hr, hj']
   refine (hc l.b l.o cap zs w holds hlb hz).mono ?_
   rintro e w' ⟨rfl, n, os, hw⟩
   obtain ⟨k1, k2, k3⟩ := row_after hR hH hβ (by simpa using hn) (v := V.int .i64) (d := (srtZ zs).toArray) (by simp [hlen]) (fun x _ => ⟨rfl, rfl, .int _ _⟩) hw
   refine ⟨.tuple #[], .tup [], _, next, β, lim, rfl, ⟨rfl, rfl, rfl⟩, k1, .tup [] #[] rfl (by simp), fun _ _ h => h, k2, LimLe.refl _ _, k3, Nat.le_refl _, fun _ _ => rfl, fun j hj h => ?_, fun _ _ => rfl⟩
   have hne : j ≠ id := fun e => by subst e; rw [hH] at h; cases h
   rw [if_neg hne]; exact h
theorem clone_bridge {P : Program} [Glob P] {f : FuncId} (hE : E.Enters P f) (ty : TypeId)
 (hc : ∀ (b off n c : Nat) (zs : List Int) (w : World), n ≤ zs.length → n * 8 ≤ 140737488355328 → (∀ j, j < zs.length → w.cell? ⟨b, off + j, none⟩ = some (.int .i64 (zs.getD j 0))) →
  Calls P f #[.slice (some ⟨b, off, none⟩) n c] w fun e w' => ∃ v', e = .returned v' ∧ w'.ownsRow w.heap.size ty 1 v' n ((zs.take n).map (Value.int .i64)) ∧ v' ≠ .slice none 0 0 ∧ RowKit.Below w.heap.size w w')
 {H : Nat → Option MObj} {next id off len : Nat} {zs : List Int} {ro : Bool} (hH : H id = some (.own 1 (zs.map (V.int .i64)) ro)) (hn : 0 < len) (hle : off + len ≤ zs.length) (hz : len ≤ 17592186044416) :
 ECalls P f [.msl id 1 off len] H next fun v H' n' => v = .msl next 1 0 len ∧ n' = next + 1 ∧ H' next = some (.own 1 (((zs.drop off).take len).map (V.int .i64)) false) ∧ ∀ j, j ≠ next → H' j = H j := by
 refine ⟨.msl next 1 0 len, updN H next (some (.own 1 (((zs.drop off).take len).map (V.int .i64)) false)), next + 1, ⟨rfl, rfl, updN_same _ _ _, fun j hj => updN_ne _ _ hj⟩, ⟨⟨hE, _, _, _, rfl, rfl, rfl⟩, fun w β lim base ra hg hR hra => ?_⟩⟩
 obtain ⟨hsz, hrs⟩ := hra
 obtain ⟨r, rfl⟩ : ∃ r, ra = #[r] := by
  rcases ra with ⟨l⟩
  match l, hsz with
  | [r], _ => exact ⟨r, rfl⟩
 obtain ⟨l, cap, hβ, hls, rfl⟩ := R.msl_inv (hrs 0 _ r rfl rfl) rfl hn
 rcases hR.obj id _ hH with ⟨h1, _⟩ | ⟨l', cur, et, h1, h2, h3, h4, h5, h6, h7⟩
 · rw [h1] at hβ; cases hβ
 · rw [hβ] at h1
   cases h1
   have cell : ∀ j, j < (zs.drop off).length → w.cell? ⟨l.b, l.o + off * 1 + j, none⟩ = some (.int .i64 ((zs.drop off).getD j 0)) := fun j hj => by
    have hj' : off + j < zs.length := by simp at hj; omega
    obtain ⟨r, hr, hRr⟩ := h7 (off + j) 0 (.int .i64 zs[off + j]) (.int .i64 zs[off + j]) (by rw [List.getElem?_map, List.getElem?_eq_getElem hj']; rfl) rfl
    rw [Nat.mul_one, Nat.add_zero, R.int_inv hRr rfl] at hr
    simp only [World.cell?, h3]
    rw [Nat.mul_one, Nat.add_assoc]
    simp [hr, hj', List.getD, List.getElem?_drop]
   refine (hc l.b _ len cap (zs.drop off) w (by simp; omega) (by omega) cell).mono ?_
   rintro e w' ⟨v', rfl, ⟨ho1, ho2⟩, hne, hbel⟩
   rcases ho2 with ⟨rfl, _⟩ | ⟨g, cap', cur', rfl, hg1, hg2, hg3, hg4, hg5, hg6⟩
   · exact absurd rfl hne
   · rw [Nat.mul_one] at hg5 hg6
     have hgs : g < w'.heap.size := (Array.getElem?_eq_some_iff.1 hg2).1
     have hf := hR.fresh next (Nat.le_refl _)
     have hgr : Grows β (updN β next (some ⟨g, 0, 1⟩)) lim (updN lim g (some 0)) base w w' := ⟨fun j l2 h => by
      by_cases hj : j = next
      · subst hj; rw [hf.1] at h; cases h
      · rw [updN_ne _ _ hj]; exact h,
      ⟨hbel.size, fun b c e fz hb => ⟨c, e, fz, (hbel.block b (Array.getElem?_eq_some_iff.1 hb).1).trans hb, rfl, fun _ _ => rfl⟩⟩,
      fun b i hb hs => by unfold stab at *; rw [updN_ne _ _ (by omega)]; exact hs,
      hbel.mono hR.base_le, fun b hb => updN_ne _ _ (by have := hR.base_le; omega)⟩
     have hlen : ((zs.drop off).take len).length = len := by simp; omega
     refine ⟨_, .msl next 1 0 len, _, next + 1, updN β next (some ⟨g, 0, 1⟩), updN lim g (some 0), rfl, ⟨rfl, rfl, rfl⟩, ?_, ?_, hgr.β, hgr.ext, hgr.limLe, hgr.below, by omega, fun j hj => updN_ne _ _ (by omega), fun j hj h => by rw [updN_ne _ _ (by omega)]; exact h, hgr.old⟩
     · refine hR.step hgr (by omega) (id := next) (tb := g) (by omega) (fun b hb hne => ⟨hbel.block b hb, updN_ne _ _ hne⟩) (fun j hj => updN_ne _ _ hj) (fun j o hj h => by rwa [updN_ne _ _ hj] at h) (fun j o l2 hj h hβ2 => ?_) (fun o h => ?_) (fun l2 h => ?_) (fun o l2 h h2 => ?_)
       · have := (hR.own j l2 hβ2).2; omega
       · rw [updN_same] at h
         cases h
         refine .inr ⟨⟨g, 0, 1⟩, cur', ty, updN_same _ _ _, rfl, hg2, by simp; omega, updN_same _ _ _, fun e he => ?_, fun i j e c he hcj => ?_⟩
         · obtain ⟨x, hx, rfl⟩ := List.mem_map.1 he
           exact ⟨rfl, fun c hc => by simp [V.cells] at hc; subst hc; rfl⟩
         · rw [List.getElem?_map, Option.map_eq_some_iff] at he
           obtain ⟨x, hx1, rfl⟩ := he
           have hj0 : j = 0 ∧ c = .int .i64 x := by
            cases j with
            | zero => exact ⟨rfl, by simpa [V.cells] using hcj.symm⟩
            | succ j => simp [V.cells] at hcj
           obtain ⟨rfl, rfl⟩ := hj0
           refine ⟨.int .i64 x, ?_, .int _ _⟩
           have hi := (List.getElem?_eq_some_iff.1 hx1).1
           have e1 : (cur'.toList.take len)[i]? = some (Value.int .i64 x) := by rw [hg6, List.getElem?_map, hx1]; rfl
           rw [List.getElem?_take_of_lt (by omega)] at e1
           simpa using e1
       · rw [updN_same] at h
         cases h
         exact ⟨Nat.le_trans hR.base_le hg1, hgs⟩
       · rw [updN_same] at h2
         cases h2
         rfl
     · have := R.msl (β := updN β next (some ⟨g, 0, 1⟩)) (w := w') (lim := updN lim g (some 0)) next 0 len ⟨g, 0, 1⟩ cap' (updN_same _ _ _) hg3 hg4 (by
        show 0 + (0 + cap') * 1 ≤ rowSize w' g
        simp only [E.rowSize, hg2]; omega)
       simpa using this
theorem sortF_bridge {P : Program} [Glob P] {f g : FuncId} (hE : E.Enters P f)
 (hc : ∀ (enc : Nat → Value) (h1 : OneCell enc) (cf : Nat → Nat → Int) (hO : SWO (ltOf cf)) (blk off cap : Nat) (d : Array Nat) (w : World), CmpLays1 P g #[] enc cf blk off d.size w → Holds enc w blk off d → blk < w.heap.size → d.size < 4611686018427387904 →
  Calls P f #[.slice (some ⟨blk, off, none⟩) d.size cap, .func (.func g) #[] #[]] w fun e w' => e = .returned (.tuple #[]) ∧ ∃ n os, w' = sortWorld enc w blk off n (pdq (ltOf cf) d 0 d.size (Lib.bitLen d.size) true true) os)
 (hg : ∀ (W : World) (b1 o1 n1 c1 b2 o2 n2 c2 : Nat) (x y : Int), 0 < n1 → 0 < n2 → W.cell? ⟨b1, o1, none⟩ = some (.int .i64 x) → W.cell? ⟨b2, o2, none⟩ = some (.int .i64 y) →
  Calls P g #[.slice (some ⟨b1, o1, none⟩) n1 c1, .slice (some ⟨b2, o2, none⟩) n2 c2] W fun e w' => e = .returned (.int .i64 (Lib.compareInt x y)) ∧ ∃ q os', w' = grow (W.drewN q) os')
 {H : Nat → Option MObj} {next id : Nat} {es : List V} {key : Nat → Int} (hH : H id = some (.own 1 es false)) (hn : 0 < es.length) (hz : es.length < 4611686018427387904)
 (hes : ∀ i e, es[i]? = some e → ∃ (id2 n2 : Nat) (ro : Bool) (zs : List Int), e = .msl id2 1 0 n2 ∧ id2 ≠ id ∧ H id2 = some (.own 1 (zs.map (V.int .i64)) ro) ∧ 0 < n2 ∧ zs[0]? = some (key i)) :
 ECalls P f [.msl id 1 0 es.length, .fn g []] H next fun v H' n' => v = .tup [] ∧ n' = next ∧ (∃ p : List Nat, p.Perm (List.range es.length) ∧ (p.map key).Pairwise (· ≤ ·) ∧ H' id = some (.own 1 (p.map fun i => es.getD i .undef) false)) ∧ ∀ j, j ≠ id → H' j = H j := by
 let c : Nat → Nat := fun i => if i < es.length then i else 0
 have hcl : ∀ i, c i < es.length := fun i => by
  show (if i < es.length then i else 0) < _
  split
  · assumption
  · exact hn
 let cf : Nat → Nat → Int := fun x y => Lib.compareInt (key (c x)) (key (c y))
 have hlt : ∀ x y, ltOf cf x y = decide (key (c x) < key (c y)) := fun x y => by
  show decide (Lib.compareInt (key (c x)) (key (c y)) < 0) = _
  unfold Lib.compareInt
  by_cases h1 : key (c x) < key (c y)
  · simp [h1]
  · by_cases h2 : key (c y) < key (c x) <;> simp [h1, h2]
 have hO : SWO (ltOf cf) := ⟨fun x => by rw [hlt]; simp, fun x y z h1 h2 => by rw [hlt] at *; simp at *; omega, fun x y z h1 h2 => by rw [hlt] at *; simp at *; omega⟩
 let d : Array Nat := (List.range es.length).toArray
 have hds : d.size = es.length := by show (List.range es.length).toArray.size = _; simp
 have hdj : ∀ j, j < es.length → d[j]! = j := fun j hj => by
  rw [getElem!_pos d j (by omega)]
  show (List.range es.length).toArray[j]'_ = j
  simp
 obtain ⟨⟨hp1, _, hp3⟩, hs⟩ := pdq_sorts (ltOf cf) hO d 0 d.size (Lib.bitLen d.size) true true (Nat.zero_le _) (Nat.le_refl _) (Or.inl rfl)
 generalize hD : pdq (ltOf cf) d 0 d.size (Lib.bitLen d.size) true true = D at hp1 hp3 hs
 have hperm : D.toList.Perm (List.range es.length) := by
  have e1 : (D.extract 0 d.size) = D := by rw [← hp1]; exact Array.extract_size
  have e2 : (d.extract 0 d.size) = d := Array.extract_size
  rw [e1, e2] at hp3
  exact hp3
 have hin : ∀ x ∈ D.toList, x < es.length := fun x hx => List.mem_range.1 (hperm.mem_iff.1 hx)
 have hsort : (D.toList.map key).Pairwise (· ≤ ·) := by
  rw [List.pairwise_iff_getElem]
  intro i j hi hj hij
  simp only [List.length_map, Array.length_toList] at hi hj
  have := hs i j (Nat.zero_le _) hij (by omega)
  rw [hlt, getElem!_pos D j hj, getElem!_pos D i hi] at this
  have c1 : c D[j] = D[j] := if_pos (hin _ (by simp))
  have c2 : c D[i] = D[i] := if_pos (hin _ (by simp))
  rw [c1, c2] at this
  simp at this
  simpa using this
 refine ⟨.tup [], fun j => if j = id then some (.own 1 (D.toList.map fun i => es.getD i .undef) false) else H j, next, ⟨rfl, rfl, ⟨D.toList, hperm, hsort, if_pos rfl⟩, fun j hj => if_neg hj⟩, ⟨⟨hE, _, _, _, rfl, rfl, rfl⟩, fun w β lim base ra hg0 hR hra => ?_⟩⟩
 obtain ⟨hsz, hrs⟩ := hra
 obtain ⟨r, r2, rfl⟩ : ∃ r r2, ra = #[r, r2] := by
  rcases ra with ⟨l⟩
  match l, hsz with
  | [r, r2], _ => exact ⟨r, r2, rfl⟩
 obtain ⟨l, cap, hβ, hls, rfl⟩ := R.msl_inv (hrs 0 _ r rfl rfl) rfl hn
 obtain rfl := R.fn_inv (hrs 1 _ r2 rfl rfl) rfl
 rw [Nat.zero_mul, Nat.add_zero]
 rcases hR.obj id _ hH with ⟨h1, _⟩ | ⟨l', cur, et, h1, h2, h3, h4, h5, h6, h7⟩
 · rw [h1] at hβ; cases hβ
 · rw [hβ] at h1
   cases h1
   rw [Nat.mul_one] at h4
   have hlb : l.b < w.heap.size := (hR.own id l hβ).2
   let enc : Nat → Value := fun i => (cur[l.o + c i]?).getD Go.undef
   have hel : ∀ i, i < es.length → ∃ r, cur[l.o + i]? = some r ∧ R β w lim (es.getD i .undef) r ∧ ∃ b o n cp, r = .slice (some ⟨b, o, none⟩) n cp ∧ 0 < n ∧ b < w.heap.size ∧ b ≠ l.b ∧ w.cell? ⟨b, o, none⟩ = some (.int .i64 (key i)) := fun i hi => by
    obtain ⟨id2, n2, ro, zs, e1, e2, e3, e4, e5⟩ := hes i es[i] (List.getElem?_eq_getElem hi)
    have hgd : es.getD i .undef = es[i] := by simp [List.getD, hi]
    obtain ⟨r, hr, hRr⟩ := h7 i 0 es[i] es[i] (List.getElem?_eq_getElem hi) (by rw [e1]; rfl)
    rw [Nat.mul_one, Nat.add_zero] at hr
    refine ⟨r, hr, by rw [hgd]; exact hRr, ?_⟩
    obtain ⟨l2, cp, hβ2, hl2, rfl⟩ := R.msl_inv hRr e1 e4
    refine ⟨l2.b, _, n2, cp, rfl, e4, (hR.own id2 l2 hβ2).2, fun e => e2 (hR.uniq id2 id _ _ l2 l e3 hH hβ2 hβ e), ?_⟩
    rcases hR.obj id2 _ e3 with ⟨q1, _⟩ | ⟨l3, cur2, et2, q1, q2, q3, q4, q5, q6, q7⟩
    · rw [q1] at hβ2; cases hβ2
    · rw [hβ2] at q1
      cases q1
      obtain ⟨r3, hr3, hR3⟩ := q7 0 0 (.int .i64 (key i)) (.int .i64 (key i)) (by rw [List.getElem?_map, e5]; rfl) rfl
      rw [R.int_inv hR3 rfl] at hr3
      simp only [World.cell?, q3]
      simpa using hr3
   have henc : ∀ i, i < es.length → cur[l.o + i]? = some (enc i) := fun i hi => by
    obtain ⟨r, hr, _⟩ := hel i hi
    show _ = some ((cur[l.o + c i]?).getD Go.undef)
    rw [show c i = i from if_pos hi, hr]; rfl
   have hencE : ∀ i, enc i = enc (c i) := fun i => by
    show (cur[l.o + c i]?).getD Go.undef = (cur[l.o + c (c i)]?).getD Go.undef
    rw [show c (c i) = c i from if_pos (hcl i)]
   have hone : OneCell enc := fun i => by
    rw [hencE]
    obtain ⟨r, hr, _, b, o, n, cp, rfl, _⟩ := hel (c i) (hcl i)
    have := henc (c i) (hcl i)
    rw [hr] at this
    rw [← Option.some.inj this]; rfl
   have holds : Holds enc w l.b l.o d := fun j hj => by
    have hj' : j < es.length := by omega
    rw [hdj j hj']
    refine ⟨?_, by simp [World.frozen?, h3]⟩
    simp only [World.cell?, h3]
    exact henc j hj'
   have hcmp : CmpLays1 P g #[] enc cf l.b l.o d.size w := fun m os dk hdk x y => by
    obtain ⟨r, hr, _, b1, o1, n1, c1, hr1, p1, p2, p3, p4⟩ := hel (c x) (hcl x)
    obtain ⟨r', hr', _, b2, o2, n2, c2, hr2, s1, s2, s3, s4⟩ := hel (c y) (hcl y)
    have ex : enc x = .slice (some ⟨b1, o1, none⟩) n1 c1 := by
     have := henc (c x) (hcl x)
     rw [hr, hr1] at this
     rw [hencE]; exact (Option.some.inj this).symm
    have ey : enc y = .slice (some ⟨b2, o2, none⟩) n2 c2 := by
     have := henc (c y) (hcl y)
     rw [hr', hr2] at this
     rw [hencE]; exact (Option.some.inj this).symm
    have far : ∀ b o, b < w.heap.size → b ≠ l.b → (sortWorld enc w l.b l.o m dk os).cell? ⟨b, o, none⟩ = w.cell? ⟨b, o, none⟩ := fun b o hb hne => by
     have hhp : (sortWorld enc w l.b l.o m dk os).heap[b]? = w.heap[b]? := by
      unfold sortWorld
      rw [heap_grow_old _ _ (by simpa using hb)]
      have : l.b ≠ b := fun e => hne e.symm
      simp [putRow, mapBlock, Sort.ahead, Array.getElem?_modify, this]
     simp only [World.cell?, hhp]
    rw [ex, ey]
    exact hg _ b1 o1 n1 c1 b2 o2 n2 c2 (key (c x)) (key (c y)) p1 s1 ((far b1 o1 p2 p3).trans p4) ((far b2 o2 s2 s3).trans s4)
   have hcall := hc enc hone cf hO l.b l.o cap d w hcmp holds hlb (by omega)
   rw [hD, hds] at hcall
   refine hcall.mono ?_
   rintro e w' ⟨rfl, n, os, hw⟩
   obtain ⟨k1, k2, k3⟩ := row_after hR hH hβ hn (v := fun i => es.getD i .undef) (d := D) (by omega) (fun x hx => by
    have hx' := hin x hx
    obtain ⟨r, hr, hRr, _⟩ := hel x hx'
    obtain ⟨id2, n2, ro, zs, e1, _⟩ := hes x es[x] (List.getElem?_eq_getElem hx')
    have hgd : es.getD x .undef = es[x] := by simp [List.getD, hx']
    have := henc x hx'
    rw [hr] at this
    refine ⟨?_, ?_, by rw [← Option.some.inj this]; exact hRr⟩
    · show (es.getD x .undef).cells = [es.getD x .undef]
      rw [hgd, e1]; rfl
    · show (es.getD x .undef).scalar = true
      rw [hgd, e1]; rfl) hw
   refine ⟨.tuple #[], .tup [], _, next, β, lim, rfl, ⟨rfl, rfl, rfl⟩, k1, .tup [] #[] rfl (by simp), fun _ _ h => h, k2, LimLe.refl _ _, k3, Nat.le_refl _, fun _ _ => rfl, fun j hj h => ?_, fun _ _ => rfl⟩
   have hne : j ≠ id := fun e => by subst e; rw [hH] at h; cases h
   rw [if_neg hne]; exact h
end Go.Proofs

namespace Go.Proofs
open Go.Shelf
def Tryd.lays189_ren : Go.Shelf.Ren := ⟨fun | 189 => 48 | 125 => 33 | 257 => 54 | 128 => 44 | 129 => 45 | 294 => 56 | 295 => 57 | 296 => 58 | 297 => 59 | 298 => 60 | 299 => 61 | 216 => 62 | 300 => 63 | 301 => 64 | 328 => 65 | 329 => 50 | 330 => 51 | 331 => 66 | 332 => 67 | 215 => 34 | 343 => 68 | n => n, fun | 28 => 30 | 3 => 3 | 46 => 56 | 0 => 0 | 51 => 67 | 53 => 40 | 4 => 4 | 183 => 60 | 182 => 59 | 131 => 64 | 5 => 5 | 9 => 9 | 218 => 70 | 222 => 74 | 228 => 77 | 229 => 78 | n => n, fun | n => n⟩
theorem Tryd.lays189 : Go.Proofs.Lays.n189 Tryd.prog Tryd.lays189_ren := {
 mixed := by kernel_rfl
 f125 := Tryd.func33.trans (congrArg some (by kernel_rfl))
 f128 := Tryd.func44.trans (congrArg some (by kernel_rfl))
 f129 := Tryd.func45.trans (congrArg some (by kernel_rfl))
 f189 := Tryd.func48.trans (congrArg some (by kernel_rfl))
 f215 := Tryd.func34.trans (congrArg some (by kernel_rfl))
 f216 := Tryd.func62.trans (congrArg some (by kernel_rfl))
 f257 := Tryd.func54.trans (congrArg some (by kernel_rfl))
 f294 := Tryd.func56.trans (congrArg some (by kernel_rfl))
 f295 := Tryd.func57.trans (congrArg some (by kernel_rfl))
 f296 := Tryd.func58.trans (congrArg some (by kernel_rfl))
 f297 := Tryd.func59.trans (congrArg some (by kernel_rfl))
 f298 := Tryd.func60.trans (congrArg some (by kernel_rfl))
 f299 := Tryd.func61.trans (congrArg some (by kernel_rfl))
 f300 := Tryd.func63.trans (congrArg some (by kernel_rfl))
 f301 := Tryd.func64.trans (congrArg some (by kernel_rfl))
 f328 := Tryd.func65.trans (congrArg some (by kernel_rfl))
 f329 := Tryd.func50.trans (congrArg some (by kernel_rfl))
 f330 := Tryd.func51.trans (congrArg some (by kernel_rfl))
 f331 := Tryd.func66.trans (congrArg some (by kernel_rfl))
 f332 := Tryd.func67.trans (congrArg some (by kernel_rfl))
 f343 := Tryd.func68.trans (congrArg some (by kernel_rfl))
 t0 := Tryd.underlying0
 a0 := Tryd.isAgg0
 z0 := Tryd.sizeOf0
 v0 := Tryd.zeroValue0
 t3 := Tryd.underlying3
 a3 := Tryd.isAgg3
 z3 := Tryd.sizeOf3
 v3 := Tryd.zeroValue3
 t4 := Tryd.underlying4
 a4 := Tryd.isAgg4
 z4 := Tryd.sizeOf4
 v4 := Tryd.zeroValue4
 t5 := Tryd.underlying5
 a5 := Tryd.isAgg5
 z5 := Tryd.sizeOf5
 v5 := Tryd.zeroValue5
 t9 := Tryd.underlying9
 a9 := Tryd.isAgg9
 z9 := Tryd.sizeOf9
 v9 := Tryd.zeroValue9
 t28 := Tryd.underlying30
 a28 := Tryd.isAgg30
 z28 := Tryd.sizeOf30
 v28 := Tryd.zeroValue30
 t46 := Tryd.underlying56
 a46 := Tryd.isAgg56
 z46 := Tryd.sizeOf56
 v46 := Tryd.zeroValue56
 t51 := Tryd.underlying67
 a51 := Tryd.isAgg67
 z51 := Tryd.sizeOf67
 v51 := Tryd.zeroValue67
 t53 := Tryd.underlying40
 a53 := Tryd.isAgg40
 z53 := Tryd.sizeOf40
 v53 := Tryd.zeroValue40
 t131 := Tryd.underlying64
 a131 := Tryd.isAgg64
 z131 := Tryd.sizeOf64
 v131 := Tryd.zeroValue64
 t182 := Tryd.underlying59
 a182 := Tryd.isAgg59
 z182 := Tryd.sizeOf59
 v182 := Tryd.zeroValue59
 t183 := Tryd.underlying60
 a183 := Tryd.isAgg60
 z183 := Tryd.sizeOf60
 v183 := Tryd.zeroValue60
 t218 := Tryd.underlying70
 a218 := Tryd.isAgg70
 z218 := Tryd.sizeOf70
 v218 := Tryd.zeroValue70
 t222 := Tryd.underlying74
 a222 := Tryd.isAgg74
 z222 := Tryd.sizeOf74
 v222 := Tryd.zeroValue74
 t228 := Tryd.underlying77
 a228 := Tryd.isAgg77
 z228 := Tryd.sizeOf77
 v228 := Tryd.zeroValue77
 t229 := Tryd.underlying78
 a229 := Tryd.isAgg78
 z229 := Tryd.sizeOf78
 v229 := Tryd.zeroValue78 }
def Tryd.laysNm215_ren : Go.Shelf.Ren := ⟨fun | 15 => 47 | n => n, fun | 22 => 30 | 3 => 3 | 4 => 4 | n => n, fun | n => n⟩
theorem Tryd.laysNm215 : Go.Proofs.Lays2.n15 Tryd.prog Tryd.laysNm215_ren := {
 mixed := by kernel_rfl
 f15 := Tryd.func47.trans (congrArg some (by kernel_rfl))
 t3 := Tryd.underlying3
 a3 := Tryd.isAgg3
 z3 := Tryd.sizeOf3
 v3 := Tryd.zeroValue3
 t4 := Tryd.underlying4
 a4 := Tryd.isAgg4
 z4 := Tryd.sizeOf4
 v4 := Tryd.zeroValue4
 t22 := Tryd.underlying30
 a22 := Tryd.isAgg30
 z22 := Tryd.sizeOf30
 v22 := Tryd.zeroValue30
 i3 := by kernel_rfl }
def Tryd.sortL_ren : Go.Shelf.Ren := ⟨fun | 6 => 24 | 15 => 33 | 14 => 32 | 28 => 44 | 29 => 45 | 20 => 36 | 21 => 37 | 22 => 38 | 23 => 39 | 24 => 40 | 25 => 41 | 26 => 42 | 27 => 43 | 46 => 49 | 47 => 50 | 48 => 51 | 49 => 52 | 50 => 53 | 57 => 55 | n => n, fun | 22 => 22 | 24 => 30 | 25 => 50 | 3 => 3 | 39 => 56 | 0 => 0 | 53 => 67 | 55 => 40 | 4 => 4 | 46 => 60 | 45 => 59 | 50 => 64 | 5 => 5 | 9 => 9 | 66 => 70 | 70 => 74 | 76 => 77 | 77 => 78 | n => n, fun | n => n⟩
theorem Tryd.sortL : Go.Proofs.SlLaysF.n6 Tryd.prog Tryd.sortL_ren := {
 mixed := by kernel_rfl
 f6 := ⟨Tryd.f24.name, by decide, Tryd.func24.trans (congrArg some (by kernel_rfl))⟩
 f14 := ⟨Tryd.f32.name, by decide, Tryd.func32.trans (congrArg some (by kernel_rfl))⟩
 f15 := Tryd.func33.trans (congrArg some (by kernel_rfl))
 f20 := ⟨Tryd.f36.name, by decide, Tryd.func36.trans (congrArg some (by kernel_rfl))⟩
 f21 := ⟨Tryd.f37.name, by decide, Tryd.func37.trans (congrArg some (by kernel_rfl))⟩
 f22 := ⟨Tryd.f38.name, by decide, Tryd.func38.trans (congrArg some (by kernel_rfl))⟩
 f23 := ⟨Tryd.f39.name, by decide, Tryd.func39.trans (congrArg some (by kernel_rfl))⟩
 f24 := ⟨Tryd.f40.name, by decide, Tryd.func40.trans (congrArg some (by kernel_rfl))⟩
 f25 := ⟨Tryd.f41.name, by decide, Tryd.func41.trans (congrArg some (by kernel_rfl))⟩
 f26 := ⟨Tryd.f42.name, by decide, Tryd.func42.trans (congrArg some (by kernel_rfl))⟩
 f27 := ⟨Tryd.f43.name, by decide, Tryd.func43.trans (congrArg some (by kernel_rfl))⟩
 f28 := Tryd.func44.trans (congrArg some (by kernel_rfl))
 f29 := Tryd.func45.trans (congrArg some (by kernel_rfl))
 f46 := ⟨Tryd.f49.name, by decide, Tryd.func49.trans (congrArg some (by kernel_rfl))⟩
 f47 := Tryd.func50.trans (congrArg some (by kernel_rfl))
 f48 := Tryd.func51.trans (congrArg some (by kernel_rfl))
 f49 := ⟨Tryd.f52.name, by decide, Tryd.func52.trans (congrArg some (by kernel_rfl))⟩
 f50 := ⟨Tryd.f53.name, by decide, Tryd.func53.trans (congrArg some (by kernel_rfl))⟩
 f57 := ⟨Tryd.f55.name, by decide, Tryd.func55.trans (congrArg some (by kernel_rfl))⟩
 t0 := Tryd.underlying0
 a0 := Tryd.isAgg0
 z0 := Tryd.sizeOf0
 v0 := Tryd.zeroValue0
 t3 := Tryd.underlying3
 a3 := Tryd.isAgg3
 z3 := Tryd.sizeOf3
 v3 := Tryd.zeroValue3
 t4 := Tryd.underlying4
 a4 := Tryd.isAgg4
 z4 := Tryd.sizeOf4
 v4 := Tryd.zeroValue4
 t5 := Tryd.underlying5
 a5 := Tryd.isAgg5
 z5 := Tryd.sizeOf5
 v5 := Tryd.zeroValue5
 t9 := Tryd.underlying9
 a9 := Tryd.isAgg9
 z9 := Tryd.sizeOf9
 v9 := Tryd.zeroValue9
 t22 := Tryd.underlying22
 a22 := Tryd.isAgg22
 z22 := Tryd.sizeOf22
 v22 := Tryd.zeroValue22
 a24 := Tryd.isAgg30
 z24 := Tryd.sizeOf30
 t25 := Tryd.underlying50
 a25 := Tryd.isAgg50
 z25 := Tryd.sizeOf50
 v25 := Tryd.zeroValue50
 t39 := Tryd.underlying56
 a39 := Tryd.isAgg56
 z39 := Tryd.sizeOf56
 v39 := Tryd.zeroValue56
 t45 := Tryd.underlying59
 a45 := Tryd.isAgg59
 z45 := Tryd.sizeOf59
 v45 := Tryd.zeroValue59
 t46 := Tryd.underlying60
 a46 := Tryd.isAgg60
 z46 := Tryd.sizeOf60
 v46 := Tryd.zeroValue60
 t50 := Tryd.underlying64
 a50 := Tryd.isAgg64
 z50 := Tryd.sizeOf64
 v50 := Tryd.zeroValue64
 t53 := Tryd.underlying67
 a53 := Tryd.isAgg67
 z53 := Tryd.sizeOf67
 v53 := Tryd.zeroValue67
 t55 := Tryd.underlying40
 a55 := Tryd.isAgg40
 z55 := Tryd.sizeOf40
 v55 := Tryd.zeroValue40
 t66 := Tryd.underlying70
 a66 := Tryd.isAgg70
 z66 := Tryd.sizeOf70
 v66 := Tryd.zeroValue70
 t70 := Tryd.underlying74
 a70 := Tryd.isAgg74
 z70 := Tryd.sizeOf74
 v70 := Tryd.zeroValue74
 t76 := Tryd.underlying77
 a76 := Tryd.isAgg77
 z76 := Tryd.sizeOf77
 v76 := Tryd.zeroValue77
 t77 := Tryd.underlying78
 a77 := Tryd.isAgg78
 z77 := Tryd.sizeOf78
 v77 := Tryd.zeroValue78 }
def Tryd.cmpL_ren : Go.Shelf.Ren := ⟨fun | 122 => 26 | 215 => 34 | n => n, fun | 3 => 3 | 4 => 4 | n => n, fun | n => n⟩
theorem Tryd.cmpL : Go.Proofs.Lays.n122 Tryd.prog Tryd.cmpL_ren := {
 mixed := by kernel_rfl
 f122 := Tryd.func26.trans (congrArg some (by kernel_rfl))
 f215 := Tryd.func34.trans (congrArg some (by kernel_rfl))
 t3 := Tryd.underlying3
 a3 := Tryd.isAgg3
 z3 := Tryd.sizeOf3
 v3 := Tryd.zeroValue3
 t4 := Tryd.underlying4
 a4 := Tryd.isAgg4
 z4 := Tryd.sizeOf4
 v4 := Tryd.zeroValue4 }
end Go.Proofs

namespace Go.Proofs
open Go.E Go.Sort Go.Lib Go.RowKit Go.Shelf
theorem cmp_closure (W : World) (b1 o1 n1 c1 b2 o2 n2 c2 : Nat) (x y : Int) (h1 : 0 < n1) (h2 : 0 < n2) (hx : W.cell? ⟨b1, o1, none⟩ = some (.int .i64 x)) (hy : W.cell? ⟨b2, o2, none⟩ = some (.int .i64 y)) :
 Calls Tryd.prog 25 #[.slice (some ⟨b1, o1, none⟩) n1 c1, .slice (some ⟨b2, o2, none⟩) n2 c2] W fun e w' => e = .returned (.int .i64 (Lib.compareInt x y)) ∧ ∃ q os', w' = grow (W.drewN q) os' := by
 have hcon := fun W => Any.cmp_Compare_int Tryd.cmpL x y W
 change ∀ W, Calls Tryd.prog 26 _ W _ at hcon
 generalize Lib.compareInt x y = r at hcon ⊢
 go_enter Tryd.func25, Tryd.ntmps25
 go_wp2
 go_quiet ((go_at_call 26; exact Calls.quiet_of_same (hcon _)))
 go_wp2
 go_ret
 exact ⟨rfl, _, #[], (grow_empty _).symm⟩
theorem slices_Sort {H : Nat → Option MObj} {next id : Nat} {zs : List Int} (hH : H id = some (.own 1 (zs.map (V.int .i64)) false)) (hn : 0 < zs.length) (hz : zs.length < 4611686018427387904) :
 ECalls Tryd.prog 48 [.msl id 1 0 zs.length] H next fun v H' n' => v = .tup [] ∧ n' = next ∧ H' id = some (.own 1 ((srtZ zs).map (V.int .i64)) false) ∧ ∀ j, j ≠ id → H' j = H j :=
 sort_bridge ⟨Tryd.f48, Tryd.func48, by kernel_rfl, by kernel_rfl⟩ (fun blk off cap zs w h1 h2 h3 => Any.slices_Sort_int Tryd.lays189 blk off cap zs w h1 h2 h3) hH hn hz
theorem slices_Clone {H : Nat → Option MObj} {next id off len : Nat} {zs : List Int} {ro : Bool} (hH : H id = some (.own 1 (zs.map (V.int .i64)) ro)) (hn : 0 < len) (hle : off + len ≤ zs.length) (hz : len ≤ 17592186044416) :
 ECalls Tryd.prog 47 [.msl id 1 off len] H next fun v H' n' => v = .msl next 1 0 len ∧ n' = next + 1 ∧ H' next = some (.own 1 (((zs.drop off).take len).map (V.int .i64)) false) ∧ ∀ j, j ≠ next → H' j = H j :=
 clone_bridge ⟨Tryd.f47, Tryd.func47, by kernel_rfl, by kernel_rfl⟩ _ (fun b off n c zs w h1 h2 h3 => Any.slices_Clone_int Tryd.laysNm215 b off n c zs w h1 h2 h3) hH hn hle hz
theorem slices_SortFunc {H : Nat → Option MObj} {next id : Nat} {es : List V} {key : Nat → Int} (hH : H id = some (.own 1 es false)) (hn : 0 < es.length) (hz : es.length < 4611686018427387904)
 (hes : ∀ i e, es[i]? = some e → ∃ (id2 n2 : Nat) (ro : Bool) (zs : List Int), e = .msl id2 1 0 n2 ∧ id2 ≠ id ∧ H id2 = some (.own 1 (zs.map (V.int .i64)) ro) ∧ 0 < n2 ∧ zs[0]? = some (key i)) :
 ECalls Tryd.prog 24 [.msl id 1 0 es.length, .fn 25 []] H next fun v H' n' => v = .tup [] ∧ n' = next ∧ (∃ p : List Nat, p.Perm (List.range es.length) ∧ (p.map key).Pairwise (· ≤ ·) ∧ H' id = some (.own 1 (p.map fun i => es.getD i .undef) false)) ∧ ∀ j, j ≠ id → H' j = H j :=
 sortF_bridge ⟨Tryd.f24, Tryd.func24, by kernel_rfl, by kernel_rfl⟩ (fun enc h1 cf hO blk off cap d w hc hH hb hs => Any.slices_SortFunc_eq Tryd.sortL enc h1 cf hO 25 #[] blk off cap d w (enters_of Tryd.func25 (by kernel_rfl) rfl) hc hH hb hs)
  (fun W b1 o1 n1 c1 b2 o2 n2 c2 x y h1 h2 hx hy => cmp_closure W b1 o1 n1 c1 b2 o2 n2 c2 x y h1 h2 hx hy) hH hn hz hes
end Go.Proofs
