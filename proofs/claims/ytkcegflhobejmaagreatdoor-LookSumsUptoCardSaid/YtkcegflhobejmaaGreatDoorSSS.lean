/- Part of a proof that a law of the given program answers true. -/
import Derived.Test.YtkcegflhobejmaaGreatDoorSSZ
import Derived.Test.YtkcegflhobejmaaGreatDoorXEC
import Derived.Test.YtkcegflhobejmaaGreatDoorCards
import Derived.Test.YtkcegflhobejmaaGreatDoorTie
import Derived.WalkKit
import Derived.ProofKit
import Derived.OpenShut
import Derived.Deep.DeepHandedRow
import Derived.Lib.LaidTab
set_option linter.unusedSimpArgs false
set_option linter.unusedVariables false
namespace Go.Proofs.YtkcegflhobejmaaGreatDoor.law
open Go.E Go.ChangeShapes Go.WideShapes Go.ChangeAt Go.RowKit
def B (H : Type) (d : DataW H) : Nat := Rows.uptoBulk d
theorem bulkAll {H : Type} (l : List (DataW H)) : Rows.uptoBulkAll l = (l.map (B H)).sum := by
 induction l with
 | nil => simp [Rows.uptoBulkAll]
 | cons x l ih => simp only [Rows.uptoBulkAll, ih, List.map_cons, List.sum_cons]; rfl
theorem bulkOk : BulkOk B where
 one := fun H d => by
  cases d with
  | lit l => cases l <;> simp [B, Rows.uptoBulk]
  | _ => simp [B, Rows.uptoBulk]
 str := fun H s => by simp [B, Rows.uptoBulk]
 slice := fun H x y => by
  show _ ≤ Rows.uptoBulk (.slice x y)
  simp only [Rows.uptoBulk, bulkAll]; omega
 agg := fun H x => by
  show _ ≤ Rows.uptoBulk (.agg x)
  simp only [Rows.uptoBulk, bulkAll]; omega
theorem small {H : Type} {l : List (DataW H)} (hk : Rows.uptoSmall H l = true) : (l.map (B H)).sum ≤ 1048576 := by
 have h : Rows.uptoBulkAll l ≤ 1048576 := of_decide_eq_true hk
 rwa [bulkAll] at h
theorem own : ownKnob Tryz.prog.godebug = none := by kernel_rfl
theorem kids : Kids Tryz.prog (· < Tryz.prog.types.size) := kids_rows (by kernel_rfl) (by kernel_rfl)
theorem slices : ∀ t e, t < Tryz.prog.types.size → Tryz.prog.underlying t = some (.slice e) → 0 < Tryz.prog.cellsOf e := slices_full_of Tryz.prog (by kernel_rfl)
theorem cells3 : Tryz.prog.cellsOf 3 = 1 := by kernel_rfl
theorem rInt (N : Nat) : ReadsN N Tryz.prog B 3 (Img (fun n : Int => .int .i64 n) (fun _ => 1) (fun n => (Lit.int .i64 n).wf = true)) := reads_int bulkOk Tryz.underlying3 cells3 N
theorem gTab : Tryz.prog.globalNamed "math/bits.deBruijn64tab" = some 0 := by kernel_rfl
theorem gTabType : (Tryz.prog.globals[0]?).map (·.type) = some 194 := by kernel_rfl
theorem table {W : World} (h : laidMetH Tryz.prog [("math/bits.deBruijn64tab", Rows.laid_math_bits_deBruijn64tab)] W) : Lib.TabIs Tryz.prog W "math/bits.deBruijn64tab" .u8 (Lib.deBruijn64tab.map fun (n : Nat) => (n : Int)) :=
 Lib.tabIs_of_head (rest := []) gTab gTabType Tryz.underlying194 Tryz.underlying5 (by kernel_rfl) (by kernel_rfl) h
theorem globOk {W : World} (h : laidMetH Tryz.prog [("math/bits.deBruijn64tab", Rows.laid_math_bits_deBruijn64tab)] W) : Go.E.GOk Tryz.prog W nolim := by
 intro g
 show R noβ W nolim (if g = 0 then _ else _) _
 have hl : Lib.deBruijn64tab.length = 64 := by decide
 split
 · rename_i e
   subst e
   refine .iptr 64 _ 0 0 0 (fun j => .int .u8 ((Lib.deBruijn64tab.map fun (n : Nat) => (n : Int)).getD j 0)) (fun j hj => ⟨trivial, ?_⟩) (by simp [V.cells, hl]) (by simp [V.cells, V.scalar]) (fun j c hc => ?_)
   · have := (table h).cell gTab j (by simp [hl]; exact hj)
     simpa using this
   · simp only [V.cells, List.getElem?_map, Option.map_eq_some_iff] at hc
     obtain ⟨n, hn, rfl⟩ := hc
     have : (Lib.deBruijn64tab.map fun (n : Nat) => (n : Int)).getD j 0 = (n : Int) := by simp [List.getD, hn]
     rw [this]
     exact .int _ _
 · exact .iptr 0 (.agg []) 0 g 0 (fun _ => Go.undef) (fun j hj => absurd hj (Nat.not_lt_zero _)) rfl (by simp [V.cells]) (by simp [V.cells])
noncomputable def laidWorld (os : Os) : World :=
 { World.holding Tryz.prog os ⟨#[], #[], []⟩ with heap := (World.holding Tryz.prog os ⟨#[], #[], []⟩).heap.modify 0 fun
  | .cells _ t frozen => .cells ((Lib.deBruijn64tab.map fun (n : Nat) => Value.int .u8 (n : Int)).toArray) t frozen
  | o => o }
end Go.Proofs.YtkcegflhobejmaaGreatDoor.law
