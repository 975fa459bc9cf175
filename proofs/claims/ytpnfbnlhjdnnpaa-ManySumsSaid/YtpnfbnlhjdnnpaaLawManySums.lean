/-
  Part of a proof that a law of the given program answers true: contracts of its functions, and the law. Holds for inputs of at most 1048576 values and letters in all.
-/
import Derived.Test.YtpnfbnlhjdnnpaaSF
import Derived.Test.YtpnfbnlhjdnnpaaPJ
/- ManySums: for every input the law answers true, and leaves its arguments as they were. No condition. -/
set_option linter.unusedSimpArgs false
set_option linter.unusedVariables false
set_option maxRecDepth 100000
namespace Go.Proofs.Ytpnfbnlhjdnnpaa.lawManySums
open Go.E Go.ChangeShapes Go.WideShapes Go.ChangeAt Go.RowKit Go.Proofs.Ytpnfbnlhjdnnpaa.law
theorem pures (ps : List (V × Nat)) (hl : ps.length = 3) (h : ∀ (i : Nat) p Q, ps[i]? = some p → ([Img (fun n : Int => .int .i64 n) (fun _ => 1) (fun n => (Lit.int .i64 n).wf = true), Img (fun n : Int => .int .i64 n) (fun _ => 1) (fun n => (Lit.int .i64 n).wf = true), Img (fun n : Bool => .bool n) (fun _ => 1) (fun _ => True)] : List (V → Nat → Prop))[i]? = some Q → Q p.1 p.2) :
    Pure Try.prog 4 (ps.map (·.1)) (.bool true) := by
  match ps, hl with
  | [p0, p1, p2], _ =>
    obtain ⟨a0, w0, e0, s0⟩ := h 0 _ _ rfl rfl
    obtain ⟨a1, w1, e1, s1⟩ := h 1 _ _ rfl rfl
    obtain ⟨a2, w2, e2, s2⟩ := h 2 _ _ rfl rfl
    simp only [List.map_cons, List.map_nil]
    rw [e0, e1, e2]
    exact yuccalaw14_ManySums
theorem contract (H : Type) (enc : TypeId × Value → H) (W : World) (base : Nat) (args : Array Value) (ds gs : List (DataW H)) (before : List MemPlace)
    (hval : ∀ (j : Nat) t v, Try.f4.params[j]? = some t → args[j]? = some v → Value.okWide Try.prog W .any base t v)
    (hW : DataW.Whole enc Try.prog Try.f4.params.toList Rows.manySumsSpec.vars false W args.toList ds gs before) :
    Calls Try.prog 4 args W fun e W' => ∃ v, e = .returned v ∧ Rows.manySumsSpec.post enc Try.prog Try.f4 false true false false W args v W' := by
  refine law_contract (B := B) (bound := (ds.map (B H)).sum) rfl (fun H ds h => ?_) (by kernel_rfl) Try.underlying4 kids slices (by rw [Try.params4]; decide +kernel) [Img (fun n : Int => .int .i64 n) (fun _ => 1) (fun n => (Lit.int .i64 n).wf = true), Img (fun n : Int => .int .i64 n) (fun _ => 1) (fun n => (Lit.int .i64 n).wf = true), Img (fun n : Bool => .bool n) (fun _ => 1) (fun _ => True)] (by rw [Try.params4]; rfl) ?_ (fun ps hl h _ => pures ps hl h) H enc W base args ds gs before hval hW (Nat.le_refl _) (gok W)
  · rw [Try.params4] at h
    match ds, h with
    | [x0, x1, x2], _ => rfl
  · rw [Try.params4]
    intro i t Q ht hq
    match i, ht, hq with
    | 0, ht, hq => cases ht; cases hq; exact rInt
    | 1, ht, hq => cases ht; cases hq; exact rInt
    | 2, ht, hq => cases ht; cases hq; exact rBool
theorem lifted (os : Os) (started : os.Started) (H : Type) (enc : TypeId × Value → H) :
    ReturnsInHanded {} Try.checked os 4 .any (Rows.manySumsSpec.pre6 enc Try.prog Try.f4 Rows.manySumsRow.domain false) (Rows.manySumsSpec.post enc Try.prog Try.f4 false true false false) := by
  refine returnsInHanded_of_change (C := Try.checked) own started (by kernel_rfl) Try.func4
    (ChangeSpec.witness6 (enc := enc) (C := Try.checked) false ⟨#[], #[.int .i64 0, .int .i64 0, .bool false], []⟩ 8 (by kernel_rfl) (by kernel_rfl) (by kernel_rfl) (by kernel_rfl)) ?_
  intro W base args ds gs before hval hW _ _
  exact contract H enc W base args ds gs before hval hW
theorem said : Rows.ManySumsSaid :=
  OpenClaim.holds_of_wide 4 Try.f4 rfl rfl rfl rfl rfl rfl rfl ⟨rfl, rfl, rfl, rfl, rfl⟩ rfl rfl rfl rfl rfl (by kernel_rfl) Try.func4 (by kernel_rfl)
    (of_decide_eq_true (by kernel_rfl)) (by unfold Func.isWrapper; first | (rw [if_pos (by decide +kernel)]; kernel_rfl) | (rw [if_neg (by decide +kernel)]; exact ⟨rfl, rfl⟩))
    (fun os started H enc _ => lifted os started H enc)
end Go.Proofs.Ytpnfbnlhjdnnpaa.lawManySums
