/-
  Part of a proof that a law of the given program answers true: contracts of its functions, and the law. Holds for inputs of at most 1048576 values and letters in all.
-/
import Derived.Test.YtpnfbnlhjdnnpaaCA
import Derived.Test.YtpnfbnlhjdnnpaaEC
import Derived.Test.YtpnfbnlhjdnnpaaRows
import Derived.WalkKit
import Derived.ProofKit
import Derived.OpenShut
import Derived.JoinedCond
/- The seat's facts: how its arguments read. -/
set_option linter.unusedSimpArgs false
set_option linter.unusedVariables false
namespace Go.Proofs.Ytpnfbnlhjdnnpaa.law
open Go.E Go.ChangeShapes Go.WideShapes Go.ChangeAt Go.RowKit

def B (H : Type) (d : DataW H) : Nat := Rows.uptoBulk d
theorem bulkAll {H : Type} (l : List (DataW H)) : Rows.uptoBulkAll l = (l.map (B H)).sum := by
  induction l with
  | nil => simp [Rows.uptoBulkAll]
  | cons x l ih => simp only [Rows.uptoBulkAll, ih, List.map_cons, List.sum_cons]; rfl
theorem bulkOk : BulkOk B where
  one := fun H d => by
    cases d with
    | lit l => cases l <;> simp [B, Rows.uptoBulk]
    | _ => simp [B, Rows.uptoBulk]
  str := fun H s => by simp [B, Rows.uptoBulk]
  slice := fun H x y => by
    show _ ≤ Rows.uptoBulk (.slice x y)
    simp only [Rows.uptoBulk, bulkAll]; omega
  agg := fun H x => by
    show _ ≤ Rows.uptoBulk (.agg x)
    simp only [Rows.uptoBulk, bulkAll]; omega
theorem small {H : Type} {l : List (DataW H)} (hk : Rows.uptoSmall H l = true) : (l.map (B H)).sum ≤ 1048576 := by
  have h : Rows.uptoBulkAll l ≤ 1048576 := of_decide_eq_true hk
  rwa [bulkAll] at h

theorem own : ownKnob Try.prog.godebug = none := by kernel_rfl
theorem kids : Kids Try.prog (· < Try.prog.types.size) := kids_rows (by kernel_rfl) (by kernel_rfl)
theorem slices : ∀ t e, t < Try.prog.types.size → Try.prog.underlying t = some (.slice e) → 0 < Try.prog.cellsOf e := slices_full_of Try.prog (by kernel_rfl)

theorem cells3 : Try.prog.cellsOf 3 = 1 := by kernel_rfl
theorem cells4 : Try.prog.cellsOf 4 = 1 := by kernel_rfl
theorem rInt (N : Nat) : ReadsN N Try.prog B 3 (Img (fun n : Int => .int .i64 n) (fun _ => 1) (fun n => (Lit.int .i64 n).wf = true)) := reads_int bulkOk Try.underlying3 cells3 N
theorem rBool (N : Nat) : ReadsN N Try.prog B 4 (Img (fun n : Bool => .bool n) (fun _ => 1) (fun _ => True)) := reads_bool bulkOk Try.underlying4 cells4 N
/-- No variable of the program is looked at. -/
theorem gok (W : World) : GOk Try.prog W nolim := fun g => .iptr 0 (.agg []) 0 g 0 (fun _ => Go.undef) (fun j hj => absurd hj (Nat.not_lt_zero _)) rfl (by simp [V.cells]) (by simp [V.cells])
end Go.Proofs.Ytpnfbnlhjdnnpaa.law
