/-
  Part of a proof that a law of the given program answers true: contracts of its functions, and the law. Holds for inputs of at most 1048576 values and letters in all.
-/
import Derived.Test.YtgehkpbjmmcgdaaDoorPA
import Derived.Test.YtgehkpbjmmcgdaaDoorEC
import Derived.Lib.TrailingZeros
set_option linter.unusedSimpArgs false
set_option linter.unusedVariables false
namespace Go.Proofs
open Go.E

theorem yuccaref0_Has {a : List Int} {x : Int} (ha : a.length ≤ 4611686018427387903) : Pure Tryd.prog 16 [ints a, vi x] (.bool (decide (x ∈ a))) := by
  refine pure_intro Tryd.func16 e16_nm e16_ok (by show 2 ≤ 18; decide) ?_
  show ewp _ e16n20 _ _
  repeat' with_reducible first
    | refine ewp_reg_seq ?_ | refine ewp_seq ?_ | refine ewp_reg ?_ | refine ewp_skip ?_ | refine ewp_ret ?_ | refine ewp_block ?_ | refine ewp_exit ?_ | refine xt_n ?_ | refine xt_r ?_ | refine xt_e ?_ | refine xb_n ?_ | refine xb_r ?_ | refine xb_e ?_ | refine xb_x (by decide) ?_
    | refine ewp_condQ ?_ | refine condQ_T ?_ | refine condQ_F ?_
    | simp -implicitDefEqProofs only [wS, wT, wU, wV, wW, wX, wY, wL, wM, wN, Nat.reduceEqDiff, ↓reduceIte, reduceCtorEq, Nat.reduceAdd, Int.cast_ofNat_Int, Int.reduceLT, Int.reduceLE, Int.reduceEq, Int.reduceToNat, decide_true, decide_false, Bool.false_eq_true]
    | (refine condQ_i (fun h => ?_) (fun h => ?_) <;> have h_ := h <;> (try simp only [wD, reduceCtorEq] at h_) <;> (try (exfalso; first | omega | (refine absurd ?_ h_; focus assumption) | (refine absurd h_ ?_; focus assumption))) <;> (try simp only [h]))
    | (apply ia_slQ; (focus omega); (focus (first | assumption | exact List.getElem?_eq_getElem (by omega) | rfl)))
    | (apply ia_aslQ; (focus omega); (focus (first | assumption | exact List.getElem?_eq_getElem (by omega) | rfl)))
    | (apply ldQ_whole)
    | (apply ldQ_obj; (focus (first | assumption | exact List.getElem?_eq_getElem (by omega) | rfl)); (focus with_unfolding_all rfl))
    | (apply ldQ_cell; (focus with_unfolding_all rfl))
    | (apply ldQ_one; (focus with_unfolding_all rfl))
    | (apply ld_ipQ; (focus with_unfolding_all rfl))
    | simp -implicitDefEqProofs (disch := omega) only [w64, if_neg]
  refine ewp_loopN ?nx1 (fun (k : Nat) s => s.f 0 = ?v1_0 ∧ s.f 1 = ?v1_1 ∧ s.f 5 = vi k ∧ (k ≤ a.length) ∧ (x ∉ a.take k)) (fun k => a.length - k) (0) (by simp -implicitDefEqProofs only [wN, Nat.reduceAdd, Nat.zero_add]; exact Nat.le_refl _) (by refine ⟨?_, ?_, ?_, (by first | omega | (simp; done) | assumption), (by first | omega | (simp; done) | assumption)⟩ <;> first | (simp -implicitDefEqProofs only [wL, wM, wN, wX, Nat.reduceEqDiff, ↓reduceIte, reduceCtorEq, Nat.reduceAdd, Option.some.injEq] <;> first | rfl | exact ⟨_, rfl⟩ | exact ⟨_, rfl, by first | assumption | exact Gr.nil | exact Gr.tok rfl (by omega) | exact Gr.tok (by simp -implicitDefEqProofs only [wM, Nat.reduceEqDiff, ↓reduceIte, reduceCtorEq] <;> rfl) (by omega) | exact Gr.clip⟩) | rfl | exact ⟨_, rfl⟩) ?_
  intro k s hnx ⟨g0, g1, g5, k1_0, k1_1⟩
  repeat' with_reducible first
    | refine ewp_reg_seq ?_ | refine ewp_seq ?_ | refine ewp_reg ?_ | refine ewp_skip ?_ | refine ewp_ret ?_ | refine ewp_block ?_ | refine ewp_exit ?_ | refine xt_n ?_ | refine xt_r ?_ | refine xt_e ?_ | refine xb_n ?_ | refine xb_r ?_ | refine xb_e ?_ | refine xb_x (by decide) ?_
    | refine ewp_condQ ?_ | refine condQ_T ?_ | refine condQ_F ?_
    | simp -implicitDefEqProofs only [wS, wT, wU, wV, wW, wX, wY, wL, wM, wN, Nat.reduceEqDiff, ↓reduceIte, reduceCtorEq, Nat.reduceAdd, Int.cast_ofNat_Int, Int.reduceLT, Int.reduceLE, Int.reduceEq, Int.reduceToNat, decide_true, decide_false, Bool.false_eq_true, g0, g1, g5]
    | (refine condQ_i (fun h => ?_) (fun h => ?_) <;> have h_ := h <;> (try simp only [wD, reduceCtorEq] at h_) <;> (try (exfalso; first | omega | (refine absurd ?_ h_; focus assumption) | (refine absurd h_ ?_; focus assumption))) <;> (try simp only [h]))
    | (apply ia_slQ; (focus omega); (focus (first | assumption | exact List.getElem?_eq_getElem (by omega) | rfl)))
    | (apply ia_aslQ; (focus omega); (focus (first | assumption | exact List.getElem?_eq_getElem (by omega) | rfl)))
    | (apply ldQ_whole)
    | (apply ldQ_obj; (focus (first | assumption | exact List.getElem?_eq_getElem (by omega) | rfl)); (focus with_unfolding_all rfl))
    | (apply ldQ_cell; (focus with_unfolding_all rfl))
    | (apply ldQ_one; (focus with_unfolding_all rfl))
    | (apply ld_ipQ; (focus with_unfolding_all rfl))
    | simp -implicitDefEqProofs (disch := omega) only [w64, if_neg]
  · refine post1 rfl (Or.inr rfl) ?_
    simp -implicitDefEqProofs only [wL, Nat.reduceEqDiff, ↓reduceIte, reduceCtorEq, g0, g1, g5]
    first | refine er_bool ?_ | refine er_int ?_ | refine er_str ?_ | refine er_sl_eq ?_ | refine er_asl_eq ?_
    try (with_reducible rfl)
    rw [eq_comm, decide_eq_true_eq, ← h_]; exact List.getElem_mem _
  · refine ⟨(by first | assumption | omega | (simp -implicitDefEqProofs only [wN]; omega)), k + 1, (by omega), ?_⟩
    refine ⟨?_, ?_, ?_, ?_, ?_⟩
    iterate 3 (focus (first | (simp -implicitDefEqProofs only [wL, wM, wN, wX, Nat.reduceEqDiff, ↓reduceIte, reduceCtorEq, Nat.reduceAdd, Option.some.injEq, g0, g1, g5] <;> first | rfl | exact ⟨_, rfl⟩ | exact ⟨_, rfl, by first | assumption | exact Gr.nil | exact Gr.tok rfl (by omega) | exact Gr.tok (by simp -implicitDefEqProofs only [wM, Nat.reduceEqDiff, ↓reduceIte, reduceCtorEq] <;> rfl) (by omega) | exact Gr.clip⟩) | rfl | exact ⟨_, rfl⟩))
    all_goals try omega
    rw [List.take_add_one, List.getElem?_eq_getElem (by omega)]
    simp only [Option.toList_some, List.mem_append, List.mem_singleton, not_or]
    exact ⟨k1_1, fun e => h_ e.symm⟩
  · refine post1 rfl (Or.inr rfl) ?_
    simp -implicitDefEqProofs only [wL, Nat.reduceEqDiff, ↓reduceIte, reduceCtorEq, g0, g1, g5]
    first | refine er_bool ?_ | refine er_int ?_ | refine er_str ?_ | refine er_sl_eq ?_ | refine er_asl_eq ?_
    try (with_reducible rfl)
    rw [eq_comm, decide_eq_false_iff_not]
    rwa [List.take_of_length_le (by omega)] at k1_1

theorem eq_of_get {α : Type} {a b : List α} {k : Nat} (hk : ∀ i, i < k → a[i]? = b[i]?) (h1 : a.length ≤ k) (h2 : b.length ≤ k) : a = b := by
  refine List.ext_getElem? fun i => ?_
  by_cases hi : i < k
  · exact hk i hi
  · rw [List.getElem?_eq_none (by omega), List.getElem?_eq_none (by omega)]
theorem get_ext {α : Type} {a b : List α} {k : Nat} (hk : ∀ i, i < k → a[i]? = b[i]?) (h1 : k < a.length) (h2 : k < b.length) (e : a[k] = b[k]) : ∀ i, i < k + 1 → a[i]? = b[i]? := by
  intro i hi
  by_cases he : i = k
  · subst he; rw [List.getElem?_eq_getElem h1, List.getElem?_eq_getElem h2, e]
  · exact hk i (by omega)

theorem yuccaref0_EqInts {a b : List Int} (ha : a.length ≤ 4611686018427387903) (hb : b.length ≤ 4611686018427387903) : Pure Tryd.prog 13 [ints a, ints b] (.bool (decide (a = b))) := by
  refine pure_intro Tryd.func13 e13_nm e13_ok (by show 2 ≤ 26; decide) ?_
  show ewp _ e13n26 _ _
  repeat' with_reducible first
    | refine ewp_reg_seq ?_ | refine ewp_seq ?_ | refine ewp_reg ?_ | refine ewp_skip ?_ | refine ewp_ret ?_ | refine ewp_block ?_ | refine ewp_exit ?_ | refine xt_n ?_ | refine xt_r ?_ | refine xt_e ?_ | refine xb_n ?_ | refine xb_r ?_ | refine xb_e ?_ | refine xb_x (by decide) ?_
    | refine ewp_condQ ?_ | refine condQ_T ?_ | refine condQ_F ?_
    | simp -implicitDefEqProofs only [wS, wT, wU, wV, wW, wX, wY, wL, wM, wN, Nat.reduceEqDiff, ↓reduceIte, reduceCtorEq, Nat.reduceAdd, Int.cast_ofNat_Int, Int.reduceLT, Int.reduceLE, Int.reduceEq, Int.reduceToNat, decide_true, decide_false, Bool.false_eq_true]
    | (refine condQ_i (fun h => ?_) (fun h => ?_) <;> have h_ := h <;> (try simp only [wD, reduceCtorEq] at h_) <;> (try (exfalso; first | omega | (refine absurd ?_ h_; focus assumption) | (refine absurd h_ ?_; focus assumption))) <;> (try simp only [h]))
    | (apply ia_slQ; (focus omega); (focus (first | assumption | exact List.getElem?_eq_getElem (by omega) | rfl)))
    | (apply ia_aslQ; (focus omega); (focus (first | assumption | exact List.getElem?_eq_getElem (by omega) | rfl)))
    | (apply ldQ_whole)
    | (apply ldQ_obj; (focus (first | assumption | exact List.getElem?_eq_getElem (by omega) | rfl)); (focus with_unfolding_all rfl))
    | (apply ldQ_cell; (focus with_unfolding_all rfl))
    | (apply ldQ_one; (focus with_unfolding_all rfl))
    | (apply ld_ipQ; (focus with_unfolding_all rfl))
    | simp -implicitDefEqProofs (disch := omega) only [w64, if_neg]
  · refine post1 rfl (Or.inr rfl) ?_
    simp -implicitDefEqProofs only [wL, Nat.reduceEqDiff, ↓reduceIte, reduceCtorEq]
    first | refine er_bool ?_ | refine er_int ?_ | refine er_str ?_ | refine er_sl_eq ?_ | refine er_asl_eq ?_
    try (with_reducible rfl)
    rw [eq_comm, decide_eq_false_iff_not]
    intro e; subst e; exact h_ rfl
  refine ewp_loopN ?nx1 (fun (k : Nat) s => s.f 0 = ?v1_0 ∧ s.f 1 = ?v1_1 ∧ s.f 5 = vi k ∧ (k ≤ a.length) ∧ (∀ i, i < k → a[i]? = b[i]?)) (fun k => a.length - k) (0) (by simp -implicitDefEqProofs only [wN, Nat.reduceAdd, Nat.zero_add]; exact Nat.le_refl _) (by refine ⟨?_, ?_, ?_, (by first | omega | (simp; done) | assumption), (by first | omega | (simp; done) | assumption)⟩ <;> first | (simp -implicitDefEqProofs only [wL, wM, wN, wX, Nat.reduceEqDiff, ↓reduceIte, reduceCtorEq, Nat.reduceAdd, Option.some.injEq] <;> first | rfl | exact ⟨_, rfl⟩ | exact ⟨_, rfl, by first | assumption | exact Gr.nil | exact Gr.tok rfl (by omega) | exact Gr.tok (by simp -implicitDefEqProofs only [wM, Nat.reduceEqDiff, ↓reduceIte, reduceCtorEq] <;> rfl) (by omega) | exact Gr.clip⟩) | rfl | exact ⟨_, rfl⟩) ?_
  intro k s hnx ⟨g0, g1, g5, k1_0, k1_1⟩
  repeat' with_reducible first
    | refine ewp_reg_seq ?_ | refine ewp_seq ?_ | refine ewp_reg ?_ | refine ewp_skip ?_ | refine ewp_ret ?_ | refine ewp_block ?_ | refine ewp_exit ?_ | refine xt_n ?_ | refine xt_r ?_ | refine xt_e ?_ | refine xb_n ?_ | refine xb_r ?_ | refine xb_e ?_ | refine xb_x (by decide) ?_
    | refine ewp_condQ ?_ | refine condQ_T ?_ | refine condQ_F ?_
    | simp -implicitDefEqProofs only [wS, wT, wU, wV, wW, wX, wY, wL, wM, wN, Nat.reduceEqDiff, ↓reduceIte, reduceCtorEq, Nat.reduceAdd, Int.cast_ofNat_Int, Int.reduceLT, Int.reduceLE, Int.reduceEq, Int.reduceToNat, decide_true, decide_false, Bool.false_eq_true, g0, g1, g5]
    | (refine condQ_i (fun h => ?_) (fun h => ?_) <;> have h_ := h <;> (try simp only [wD, reduceCtorEq] at h_) <;> (try (exfalso; first | omega | (refine absurd ?_ h_; focus assumption) | (refine absurd h_ ?_; focus assumption))) <;> (try simp only [h]))
    | (apply ia_slQ; (focus omega); (focus (first | assumption | exact List.getElem?_eq_getElem (by omega) | rfl)))
    | (apply ia_aslQ; (focus omega); (focus (first | assumption | exact List.getElem?_eq_getElem (by omega) | rfl)))
    | (apply ldQ_whole)
    | (apply ldQ_obj; (focus (first | assumption | exact List.getElem?_eq_getElem (by omega) | rfl)); (focus with_unfolding_all rfl))
    | (apply ldQ_cell; (focus with_unfolding_all rfl))
    | (apply ldQ_one; (focus with_unfolding_all rfl))
    | (apply ld_ipQ; (focus with_unfolding_all rfl))
    | simp -implicitDefEqProofs (disch := omega) only [w64, if_neg]
  · refine post1 rfl (Or.inr rfl) ?_
    simp -implicitDefEqProofs only [wL, Nat.reduceEqDiff, ↓reduceIte, reduceCtorEq, g0, g1, g5]
    first | refine er_bool ?_ | refine er_int ?_ | refine er_str ?_ | refine er_sl_eq ?_ | refine er_asl_eq ?_
    try (with_reducible rfl)
    rw [eq_comm, decide_eq_false_iff_not]
    intro e; subst e; exact h_ rfl
  · refine ⟨(by first | assumption | omega | (simp -implicitDefEqProofs only [wN]; omega)), k + 1, (by omega), ?_⟩
    refine ⟨?_, ?_, ?_, ?_, ?_⟩
    iterate 3 (focus (first | (simp -implicitDefEqProofs only [wL, wM, wN, wX, Nat.reduceEqDiff, ↓reduceIte, reduceCtorEq, Nat.reduceAdd, Option.some.injEq, g0, g1, g5] <;> first | rfl | exact ⟨_, rfl⟩ | exact ⟨_, rfl, by first | assumption | exact Gr.nil | exact Gr.tok rfl (by omega) | exact Gr.tok (by simp -implicitDefEqProofs only [wM, Nat.reduceEqDiff, ↓reduceIte, reduceCtorEq] <;> rfl) (by omega) | exact Gr.clip⟩) | rfl | exact ⟨_, rfl⟩))
    all_goals try omega
    exact get_ext k1_1 (by omega) (by omega) (by simpa using h_)
  · refine post1 rfl (Or.inr rfl) ?_
    simp -implicitDefEqProofs only [wL, Nat.reduceEqDiff, ↓reduceIte, reduceCtorEq, g0, g1, g5]
    first | refine er_bool ?_ | refine er_int ?_ | refine er_str ?_ | refine er_sl_eq ?_ | refine er_asl_eq ?_
    try (with_reducible rfl)
    rw [eq_comm, decide_eq_true_eq]
    exact eq_of_get k1_1 (by omega) (by omega)

/-- Where a number goes in a list, looked for from the end. -/
def cutP (l : List Int) (x : Int) : Nat → Nat
  | 0 => 0
  | k + 1 => if x < l.getD k 0 then cutP l x k else k + 1
theorem cutP_succ (l : List Int) (x : Int) (k : Nat) : cutP l x (k + 1) = if x < l.getD k 0 then cutP l x k else k + 1 := rfl
theorem cutP_le (l : List Int) (x : Int) (k : Nat) : cutP l x k ≤ k := by
  induction k with
  | zero => exact Nat.le_refl _
  | succ k ih => unfold cutP; split <;> omega
/-- A number, put into a rising list. -/
def putL (l : List Int) (x : Int) : List Int :=
  if 0 < cutP l x l.length ∧ l.getD (cutP l x l.length - 1) 0 = x then l else l.take (cutP l x l.length) ++ [x] ++ l.drop (cutP l x l.length)
theorem putL_len (l : List Int) (x : Int) : (putL l x).length ≤ l.length + 1 := by
  unfold putL; split
  · omega
  · simp; have := cutP_le l x l.length; omega
theorem getD_eq {l : List Int} {k : Nat} (h : k < l.length) : l.getD k 0 = l[k] := by simp [List.getD, h]

theorem yuccaref0_Put {l : List Int} {x : Int} (hl : l.length ≤ 1099511627776) : Pure Tryd.prog 26 [ints l, vi x] (ints (putL l x)) := by
  refine pure_intro Tryd.func26 e26_nm e26_ok (by show 2 ≤ 47; decide) ?_
  show ewp _ e26n22 _ _
  repeat' with_reducible first
    | refine ewp_reg_seq ?_ | refine ewp_seq ?_ | refine ewp_reg ?_ | refine ewp_skip ?_ | refine ewp_ret ?_ | refine ewp_block ?_ | refine ewp_exit ?_ | refine xt_n ?_ | refine xt_r ?_ | refine xt_e ?_ | refine xb_n ?_ | refine xb_r ?_ | refine xb_e ?_ | refine xb_x (by decide) ?_
    | refine ewp_condQ ?_ | refine condQ_T ?_ | refine condQ_F ?_
    | refine L_gdQ ?_ | refine gdQ_TT ?_ | refine gdQ_FF ?_ | refine gdQ_TF ?_ | refine gdQ_FT ?_ | refine gdQ_u ?_
    | simp -implicitDefEqProofs only [wS, wT, wU, wV, wW, wX, wY, wL, wM, wN, Nat.reduceEqDiff, ↓reduceIte, reduceCtorEq, Nat.reduceAdd, Int.cast_ofNat_Int, Int.reduceLT, Int.reduceLE, Int.reduceEq, Int.reduceToNat, decide_true, decide_false, Bool.false_eq_true]
    | (refine condQ_i (fun h => ?_) (fun h => ?_) <;> have h_ := h <;> (try simp only [wD, reduceCtorEq] at h_) <;> (try (exfalso; first | omega | (refine absurd ?_ h_; focus assumption) | (refine absurd h_ ?_; focus assumption))) <;> (try simp only [h]))
    | ((first | refine gdQ_iT (fun h => ?_) (fun h => ?_) | refine gdQ_iF (fun h => ?_) (fun h => ?_)) <;> have h_ := h <;> (try simp only [wD, reduceCtorEq] at h_) <;> (try (exfalso; first | omega | (refine absurd ?_ h_; focus assumption) | (refine absurd h_ ?_; focus assumption))) <;> (try simp only [h]))
    | (apply ia_slQ; (focus omega); (focus (first | assumption | exact List.getElem?_eq_getElem (by omega) | rfl)))
    | (apply ia_aslQ; (focus omega); (focus (first | assumption | exact List.getElem?_eq_getElem (by omega) | rfl)))
    | (apply appQ_C; (focus (first | exact SrcN.sl | exact SrcN.asl | exact SrcN.str)); (focus (first | assumption | omega | (simp only [wZ]; omega) | trivial)); (focus (unfold maxLen; first | omega | (simp only [wZ]; omega))))
    | (refine app_asl ?_; simp -implicitDefEqProofs only [wM, wN, Nat.reduceEqDiff, ↓reduceIte, reduceCtorEq]; apply appT_i; (focus (first | exact SrcN.sl | exact SrcN.asl | exact SrcN.str)); (focus (first | assumption | omega | (simp only [wZ]; omega) | trivial)); (focus (unfold maxLen; first | omega | (simp only [wZ]; omega))))
    | (apply slm_hiQ; (focus omega); (focus (first | assumption | omega | (simp only [wZ]; omega) | trivial)))
    | (apply slm_loQ; (focus omega); (focus (first | assumption | omega | (simp only [wZ]; omega) | trivial)))
    | (apply slm_lohiQ; (focus omega); (focus omega); (focus (first | assumption | omega | (simp only [wZ]; omega) | trivial)))
    | (apply slm_lo_aslQ; (focus omega); (focus (first | assumption | omega | (simp only [wZ]; omega) | trivial)))
    | (apply ldQ_whole)
    | (apply ldQ_obj; (focus (first | assumption | exact List.getElem?_eq_getElem (by omega) | rfl)); (focus with_unfolding_all rfl))
    | (apply ldQ_cell; (focus with_unfolding_all rfl))
    | (apply ldQ_one; (focus with_unfolding_all rfl))
    | (apply ld_ipQ; (focus with_unfolding_all rfl))
    | simp -implicitDefEqProofs (disch := omega) only [w64, if_neg]
  refine ewp_loopN ?nx1 (fun (k : Nat) s => s.f 0 = ?v1_0 ∧ s.f 1 = ?v1_1 ∧ s.f 5 = vi k ∧ (k ≤ l.length) ∧ (cutP l x k = cutP l x l.length)) (fun k => k) (l.length) (by simp -implicitDefEqProofs only [wN, Nat.reduceAdd, Nat.zero_add]; exact Nat.le_refl _) (by refine ⟨?_, ?_, ?_, (by first | omega | (simp; done) | assumption), (by first | omega | (simp; done) | assumption)⟩ <;> first | (simp -implicitDefEqProofs only [wL, wM, wN, wX, Nat.reduceEqDiff, ↓reduceIte, reduceCtorEq, Nat.reduceAdd, Option.some.injEq] <;> first | rfl | exact ⟨_, rfl⟩ | exact ⟨_, rfl, by first | assumption | exact Gr.nil | exact Gr.tok rfl (by omega) | exact Gr.tok (by simp -implicitDefEqProofs only [wM, Nat.reduceEqDiff, ↓reduceIte, reduceCtorEq] <;> rfl) (by omega) | exact Gr.clip⟩) | rfl | exact ⟨_, rfl⟩) ?_
  intro k s hnx ⟨g0, g1, g5, k1_0, k1_1⟩
  by_cases hk : k = 0
  · subst hk
    have hc : cutP l x l.length = 0 := k1_1.symm
    have hp : putL l x = [] ++ [x] ++ l := by unfold putL; rw [hc]; simp
    rw [hp]
    repeat' with_reducible first
      | refine ewp_reg_seq ?_ | refine ewp_seq ?_ | refine ewp_reg ?_ | refine ewp_skip ?_ | refine ewp_ret ?_ | refine ewp_block ?_ | refine ewp_exit ?_ | refine xt_n ?_ | refine xt_r ?_ | refine xt_e ?_ | refine xb_n ?_ | refine xb_r ?_ | refine xb_e ?_ | refine xb_x (by decide) ?_
      | refine ewp_condQ ?_ | refine condQ_T ?_ | refine condQ_F ?_
      | refine L_gdQ ?_ | refine gdQ_TT ?_ | refine gdQ_FF ?_ | refine gdQ_TF ?_ | refine gdQ_FT ?_ | refine gdQ_u ?_
      | simp -implicitDefEqProofs only [wS, wT, wU, wV, wW, wX, wY, wL, wM, wN, Nat.reduceEqDiff, ↓reduceIte, reduceCtorEq, Nat.reduceAdd, Int.cast_ofNat_Int, Int.reduceLT, Int.reduceLE, Int.reduceEq, Int.reduceToNat, decide_true, decide_false, Bool.false_eq_true, g0, g1, g5]
      | (refine condQ_i (fun h => ?_) (fun h => ?_) <;> have h_ := h <;> (try simp only [wD, reduceCtorEq] at h_) <;> (try (exfalso; first | omega | (refine absurd ?_ h_; focus assumption) | (refine absurd h_ ?_; focus assumption))) <;> (try simp only [h]))
      | ((first | refine gdQ_iT (fun h => ?_) (fun h => ?_) | refine gdQ_iF (fun h => ?_) (fun h => ?_)) <;> have h_ := h <;> (try simp only [wD, reduceCtorEq] at h_) <;> (try (exfalso; first | omega | (refine absurd ?_ h_; focus assumption) | (refine absurd h_ ?_; focus assumption))) <;> (try simp only [h]))
      | (apply ia_slQ; (focus omega); (focus (first | assumption | exact List.getElem?_eq_getElem (by omega) | rfl)))
      | (apply ia_aslQ; (focus omega); (focus (first | assumption | exact List.getElem?_eq_getElem (by omega) | rfl)))
      | (apply appQ_C; (focus (first | exact SrcN.sl | exact SrcN.asl | exact SrcN.str)); (focus (first | assumption | omega | (simp only [wZ]; omega) | trivial)); (focus (unfold maxLen; first | omega | (simp only [wZ]; omega))))
      | (refine app_asl ?_; simp -implicitDefEqProofs only [wM, wN, Nat.reduceEqDiff, ↓reduceIte, reduceCtorEq, g0, g1, g5]; apply appT_i; (focus (first | exact SrcN.sl | exact SrcN.asl | exact SrcN.str)); (focus (first | assumption | omega | (simp only [wZ]; omega) | trivial)); (focus (unfold maxLen; first | omega | (simp only [wZ]; omega))))
      | (apply slm_hiQ; (focus omega); (focus (first | assumption | omega | (simp only [wZ]; omega) | trivial)))
      | (apply slm_loQ; (focus omega); (focus (first | assumption | omega | (simp only [wZ]; omega) | trivial)))
      | (apply slm_lohiQ; (focus omega); (focus omega); (focus (first | assumption | omega | (simp only [wZ]; omega) | trivial)))
      | (apply slm_lo_aslQ; (focus omega); (focus (first | assumption | omega | (simp only [wZ]; omega) | trivial)))
      | (apply ldQ_whole)
      | (apply ldQ_obj; (focus (first | assumption | exact List.getElem?_eq_getElem (by omega) | rfl)); (focus with_unfolding_all rfl))
      | (apply ldQ_cell; (focus with_unfolding_all rfl))
      | (apply ldQ_one; (focus with_unfolding_all rfl))
      | (apply ld_ipQ; (focus with_unfolding_all rfl))
      | simp -implicitDefEqProofs (disch := omega) only [w64, if_neg]
    refine post1 rfl (Or.inr rfl) ?_
    simp -implicitDefEqProofs only [wL, Nat.reduceEqDiff, ↓reduceIte, reduceCtorEq, g0, g1, g5]
    first | refine er_bool ?_ | refine er_int ?_ | refine er_str ?_ | refine er_sl_eq ?_ | refine er_asl_eq ?_
    try (with_reducible rfl)
    simp
  · obtain ⟨m, rfl⟩ : ∃ m, k = m + 1 := ⟨k - 1, by omega⟩
    have hm : m < l.length := by omega
    rw [cutP_succ, getD_eq hm] at k1_1
    by_cases hgt : x < l[m]
    · rw [if_pos hgt] at k1_1
      repeat' with_reducible first
        | refine ewp_reg_seq ?_ | refine ewp_seq ?_ | refine ewp_reg ?_ | refine ewp_skip ?_ | refine ewp_ret ?_ | refine ewp_block ?_ | refine ewp_exit ?_ | refine xt_n ?_ | refine xt_r ?_ | refine xt_e ?_ | refine xb_n ?_ | refine xb_r ?_ | refine xb_e ?_ | refine xb_x (by decide) ?_
        | refine ewp_condQ ?_ | refine condQ_T ?_ | refine condQ_F ?_
        | refine L_gdQ ?_ | refine gdQ_TT ?_ | refine gdQ_FF ?_ | refine gdQ_TF ?_ | refine gdQ_FT ?_ | refine gdQ_u ?_
        | simp -implicitDefEqProofs only [wS, wT, wU, wV, wW, wX, wY, wL, wM, wN, Nat.reduceEqDiff, ↓reduceIte, reduceCtorEq, Nat.reduceAdd, Int.cast_ofNat_Int, Int.reduceLT, Int.reduceLE, Int.reduceEq, Int.reduceToNat, decide_true, decide_false, Bool.false_eq_true, g0, g1, g5]
        | (refine condQ_i (fun h => ?_) (fun h => ?_) <;> have h_ := h <;> (try simp only [wD, reduceCtorEq] at h_) <;> (try (exfalso; first | omega | (refine absurd ?_ h_; focus assumption) | (refine absurd h_ ?_; focus assumption))) <;> (try simp only [h]))
        | ((first | refine gdQ_iT (fun h => ?_) (fun h => ?_) | refine gdQ_iF (fun h => ?_) (fun h => ?_)) <;> have h_ := h <;> (try simp only [wD, reduceCtorEq] at h_) <;> (try (exfalso; first | omega | (refine absurd ?_ h_; focus assumption) | (refine absurd h_ ?_; focus assumption))) <;> (try simp only [h]))
        | (apply ia_slQ; (focus omega); (focus (first | assumption | exact List.getElem?_eq_getElem (by omega) | rfl)))
        | (apply ia_aslQ; (focus omega); (focus (first | assumption | exact List.getElem?_eq_getElem (by omega) | rfl)))
        | (apply appQ_C; (focus (first | exact SrcN.sl | exact SrcN.asl | exact SrcN.str)); (focus (first | assumption | omega | (simp only [wZ]; omega) | trivial)); (focus (unfold maxLen; first | omega | (simp only [wZ]; omega))))
        | (refine app_asl ?_; simp -implicitDefEqProofs only [wM, wN, Nat.reduceEqDiff, ↓reduceIte, reduceCtorEq, g0, g1, g5]; apply appT_i; (focus (first | exact SrcN.sl | exact SrcN.asl | exact SrcN.str)); (focus (first | assumption | omega | (simp only [wZ]; omega) | trivial)); (focus (unfold maxLen; first | omega | (simp only [wZ]; omega))))
        | (apply slm_hiQ; (focus omega); (focus (first | assumption | omega | (simp only [wZ]; omega) | trivial)))
        | (apply slm_loQ; (focus omega); (focus (first | assumption | omega | (simp only [wZ]; omega) | trivial)))
        | (apply slm_lohiQ; (focus omega); (focus omega); (focus (first | assumption | omega | (simp only [wZ]; omega) | trivial)))
        | (apply slm_lo_aslQ; (focus omega); (focus (first | assumption | omega | (simp only [wZ]; omega) | trivial)))
        | (apply ldQ_whole)
        | (apply ldQ_obj; (focus (first | assumption | exact List.getElem?_eq_getElem (by omega) | rfl)); (focus with_unfolding_all rfl))
        | (apply ldQ_cell; (focus with_unfolding_all rfl))
        | (apply ldQ_one; (focus with_unfolding_all rfl))
        | (apply ld_ipQ; (focus with_unfolding_all rfl))
        | simp -implicitDefEqProofs (disch := omega) only [w64, if_neg]
      refine ⟨(by first | assumption | omega | (simp -implicitDefEqProofs only [wN]; omega)), m, (by omega), ?_⟩
      refine ⟨?_, ?_, ?_, ?_, ?_⟩
      iterate 3 (focus (first | (simp -implicitDefEqProofs only [wL, wM, wN, wX, Nat.reduceEqDiff, ↓reduceIte, reduceCtorEq, Nat.reduceAdd, Option.some.injEq, g0, g1, g5] <;> first | rfl | exact ⟨_, rfl⟩ | exact ⟨_, rfl, by first | assumption | exact Gr.nil | exact Gr.tok rfl (by omega) | exact Gr.tok (by simp -implicitDefEqProofs only [wM, Nat.reduceEqDiff, ↓reduceIte, reduceCtorEq] <;> rfl) (by omega) | exact Gr.clip⟩) | rfl | exact ⟨_, rfl⟩))
      all_goals try omega
    · rw [if_neg hgt] at k1_1
      have hp : putL l x = if l[m] = x then l else l.take (m + 1) ++ [x] ++ l.drop (m + 1) := by
        unfold putL; rw [← k1_1]; simp [List.getElem?_eq_getElem hm]
      by_cases hx : l[m] = x
      · rw [hp, if_pos hx]
        repeat' with_reducible first
          | refine ewp_reg_seq ?_ | refine ewp_seq ?_ | refine ewp_reg ?_ | refine ewp_skip ?_ | refine ewp_ret ?_ | refine ewp_block ?_ | refine ewp_exit ?_ | refine xt_n ?_ | refine xt_r ?_ | refine xt_e ?_ | refine xb_n ?_ | refine xb_r ?_ | refine xb_e ?_ | refine xb_x (by decide) ?_
          | refine ewp_condQ ?_ | refine condQ_T ?_ | refine condQ_F ?_
          | refine L_gdQ ?_ | refine gdQ_TT ?_ | refine gdQ_FF ?_ | refine gdQ_TF ?_ | refine gdQ_FT ?_ | refine gdQ_u ?_
          | simp -implicitDefEqProofs only [wS, wT, wU, wV, wW, wX, wY, wL, wM, wN, Nat.reduceEqDiff, ↓reduceIte, reduceCtorEq, Nat.reduceAdd, Int.cast_ofNat_Int, Int.reduceLT, Int.reduceLE, Int.reduceEq, Int.reduceToNat, decide_true, decide_false, Bool.false_eq_true, g0, g1, g5]
          | (refine condQ_i (fun h => ?_) (fun h => ?_) <;> have h_ := h <;> (try simp only [wD, reduceCtorEq] at h_) <;> (try (exfalso; first | omega | (refine absurd ?_ h_; focus assumption) | (refine absurd h_ ?_; focus assumption))) <;> (try simp only [h]))
          | ((first | refine gdQ_iT (fun h => ?_) (fun h => ?_) | refine gdQ_iF (fun h => ?_) (fun h => ?_)) <;> have h_ := h <;> (try simp only [wD, reduceCtorEq] at h_) <;> (try (exfalso; first | omega | (refine absurd ?_ h_; focus assumption) | (refine absurd h_ ?_; focus assumption))) <;> (try simp only [h]))
          | (apply ia_slQ; (focus omega); (focus (first | assumption | exact List.getElem?_eq_getElem (by omega) | rfl)))
          | (apply ia_aslQ; (focus omega); (focus (first | assumption | exact List.getElem?_eq_getElem (by omega) | rfl)))
          | (apply appQ_C; (focus (first | exact SrcN.sl | exact SrcN.asl | exact SrcN.str)); (focus (first | assumption | omega | (simp only [wZ]; omega) | trivial)); (focus (unfold maxLen; first | omega | (simp only [wZ]; omega))))
          | (refine app_asl ?_; simp -implicitDefEqProofs only [wM, wN, Nat.reduceEqDiff, ↓reduceIte, reduceCtorEq, g0, g1, g5]; apply appT_i; (focus (first | exact SrcN.sl | exact SrcN.asl | exact SrcN.str)); (focus (first | assumption | omega | (simp only [wZ]; omega) | trivial)); (focus (unfold maxLen; first | omega | (simp only [wZ]; omega))))
          | (apply slm_hiQ; (focus omega); (focus (first | assumption | omega | (simp only [wZ]; omega) | trivial)))
          | (apply slm_loQ; (focus omega); (focus (first | assumption | omega | (simp only [wZ]; omega) | trivial)))
          | (apply slm_lohiQ; (focus omega); (focus omega); (focus (first | assumption | omega | (simp only [wZ]; omega) | trivial)))
          | (apply slm_lo_aslQ; (focus omega); (focus (first | assumption | omega | (simp only [wZ]; omega) | trivial)))
          | (apply ldQ_whole)
          | (apply ldQ_obj; (focus (first | assumption | exact List.getElem?_eq_getElem (by omega) | rfl)); (focus with_unfolding_all rfl))
          | (apply ldQ_cell; (focus with_unfolding_all rfl))
          | (apply ldQ_one; (focus with_unfolding_all rfl))
          | (apply ld_ipQ; (focus with_unfolding_all rfl))
          | simp -implicitDefEqProofs (disch := omega) only [w64, if_neg]
        refine post1 rfl (Or.inr rfl) ?_
        simp -implicitDefEqProofs only [wL, Nat.reduceEqDiff, ↓reduceIte, reduceCtorEq, g0, g1, g5]
        first | refine er_bool ?_ | refine er_int ?_ | refine er_str ?_ | refine er_sl_eq ?_ | refine er_asl_eq ?_
        try (with_reducible rfl)
      · rw [hp, if_neg hx]
        repeat' with_reducible first
          | refine ewp_reg_seq ?_ | refine ewp_seq ?_ | refine ewp_reg ?_ | refine ewp_skip ?_ | refine ewp_ret ?_ | refine ewp_block ?_ | refine ewp_exit ?_ | refine xt_n ?_ | refine xt_r ?_ | refine xt_e ?_ | refine xb_n ?_ | refine xb_r ?_ | refine xb_e ?_ | refine xb_x (by decide) ?_
          | refine ewp_condQ ?_ | refine condQ_T ?_ | refine condQ_F ?_
          | refine L_gdQ ?_ | refine gdQ_TT ?_ | refine gdQ_FF ?_ | refine gdQ_TF ?_ | refine gdQ_FT ?_ | refine gdQ_u ?_
          | simp -implicitDefEqProofs only [wS, wT, wU, wV, wW, wX, wY, wL, wM, wN, Nat.reduceEqDiff, ↓reduceIte, reduceCtorEq, Nat.reduceAdd, Int.cast_ofNat_Int, Int.reduceLT, Int.reduceLE, Int.reduceEq, Int.reduceToNat, decide_true, decide_false, Bool.false_eq_true, g0, g1, g5]
          | (refine condQ_i (fun h => ?_) (fun h => ?_) <;> have h_ := h <;> (try simp only [wD, reduceCtorEq] at h_) <;> (try (exfalso; first | omega | (refine absurd ?_ h_; focus assumption) | (refine absurd h_ ?_; focus assumption))) <;> (try simp only [h]))
          | ((first | refine gdQ_iT (fun h => ?_) (fun h => ?_) | refine gdQ_iF (fun h => ?_) (fun h => ?_)) <;> have h_ := h <;> (try simp only [wD, reduceCtorEq] at h_) <;> (try (exfalso; first | omega | (refine absurd ?_ h_; focus assumption) | (refine absurd h_ ?_; focus assumption))) <;> (try simp only [h]))
          | (apply ia_slQ; (focus omega); (focus (first | assumption | exact List.getElem?_eq_getElem (by omega) | rfl)))
          | (apply ia_aslQ; (focus omega); (focus (first | assumption | exact List.getElem?_eq_getElem (by omega) | rfl)))
          | (apply appQ_C; (focus (first | exact SrcN.sl | exact SrcN.asl | exact SrcN.str)); (focus (first | assumption | omega | (simp only [wZ]; omega) | trivial)); (focus (unfold maxLen; first | omega | (simp only [wZ]; omega))))
          | (refine app_asl ?_; simp -implicitDefEqProofs only [wM, wN, Nat.reduceEqDiff, ↓reduceIte, reduceCtorEq, g0, g1, g5]; apply appT_i; (focus (first | exact SrcN.sl | exact SrcN.asl | exact SrcN.str)); (focus (first | assumption | omega | (simp only [wZ]; omega) | trivial)); (focus (unfold maxLen; first | omega | (simp only [wZ]; omega))))
          | (apply slm_hiQ; (focus omega); (focus (first | assumption | omega | (simp only [wZ]; omega) | trivial)))
          | (apply slm_loQ; (focus omega); (focus (first | assumption | omega | (simp only [wZ]; omega) | trivial)))
          | (apply slm_lohiQ; (focus omega); (focus omega); (focus (first | assumption | omega | (simp only [wZ]; omega) | trivial)))
          | (apply slm_lo_aslQ; (focus omega); (focus (first | assumption | omega | (simp only [wZ]; omega) | trivial)))
          | (apply ldQ_whole)
          | (apply ldQ_obj; (focus (first | assumption | exact List.getElem?_eq_getElem (by omega) | rfl)); (focus with_unfolding_all rfl))
          | (apply ldQ_cell; (focus with_unfolding_all rfl))
          | (apply ldQ_one; (focus with_unfolding_all rfl))
          | (apply ld_ipQ; (focus with_unfolding_all rfl))
          | simp -implicitDefEqProofs (disch := omega) only [w64, if_neg]
        refine post1 rfl (Or.inr rfl) ?_
        simp -implicitDefEqProofs only [wL, Nat.reduceEqDiff, ↓reduceIte, reduceCtorEq, g0, g1, g5]
        first | refine er_bool ?_ | refine er_int ?_ | refine er_str ?_ | refine er_sl_eq ?_ | refine er_asl_eq ?_
        try (with_reducible rfl)
end Go.Proofs


namespace Go.Proofs
open Go.E

theorem take_snoc {α : Type} {l : List α} {k : Nat} (h : k < l.length) : l.take (k + 1) = l.take k ++ [l[k]] := by
  rw [List.take_add_one, List.getElem?_eq_getElem h]; rfl

/-- The first so many. -/
def intsN (l : List Int) (n : Int) : List Int := if n < l.length then l.take n.toNat else l
theorem intsN_len (l : List Int) (n : Nat) : (intsN l n).length ≤ n ∧ (intsN l n).length ≤ l.length := by
  unfold intsN; split
  · simp; omega
  · omega

theorem yuccalaw0_Ints {l : List Int} {n : Int} (hl : l.length ≤ 1099511627776) (hn : 0 ≤ n) : Pure Tryd.prog 9 [ints l, vi n] (ints (intsN l n)) := by
  refine pure_intro Tryd.func9 e9_nm e9_ok (by show 2 ≤ 13; decide) ?_
  show ewp _ e9n9 _ _
  by_cases h : n < l.length
  · have e : intsN l n = l.take n.toNat := by unfold intsN; rw [if_pos h]
    rw [e]
    repeat' with_reducible first
      | refine ewp_reg_seq ?_ | refine ewp_seq ?_ | refine ewp_reg ?_ | refine ewp_skip ?_ | refine ewp_ret ?_ | refine ewp_block ?_ | refine ewp_exit ?_ | refine xt_n ?_ | refine xt_r ?_ | refine xt_e ?_ | refine xb_n ?_ | refine xb_r ?_ | refine xb_e ?_ | refine xb_x (by decide) ?_
      | refine ewp_condQ ?_ | refine condQ_T ?_ | refine condQ_F ?_
      | simp -implicitDefEqProofs only [wS, wT, wU, wV, wW, wX, wY, wL, wM, wN, Nat.reduceEqDiff, ↓reduceIte, reduceCtorEq, Nat.reduceAdd, Int.cast_ofNat_Int, Int.reduceLT, Int.reduceLE, Int.reduceEq, Int.reduceToNat, decide_true, decide_false, Bool.false_eq_true]
      | (refine condQ_i (fun h => ?_) (fun h => ?_) <;> have h_ := h <;> (try simp only [wD, reduceCtorEq] at h_) <;> (try (exfalso; first | omega | (refine absurd ?_ h_; focus assumption) | (refine absurd h_ ?_; focus assumption))) <;> (try simp only [h]))
      | (apply slm_hiQ; (focus omega); (focus (first | assumption | omega | (simp only [wZ]; omega) | trivial)))
      | (apply slm_loQ; (focus omega); (focus (first | assumption | omega | (simp only [wZ]; omega) | trivial)))
      | (apply slm_lohiQ; (focus omega); (focus omega); (focus (first | assumption | omega | (simp only [wZ]; omega) | trivial)))
      | (apply slm_lo_aslQ; (focus omega); (focus (first | assumption | omega | (simp only [wZ]; omega) | trivial)))
      | simp -implicitDefEqProofs (disch := omega) only [w64, if_neg]
    refine post1 rfl (Or.inr rfl) ?_
    simp -implicitDefEqProofs only [wL, Nat.reduceEqDiff, ↓reduceIte, reduceCtorEq]
    first | refine er_bool ?_ | refine er_int ?_ | refine er_str ?_ | refine er_sl_eq ?_ | refine er_asl_eq ?_
    try (with_reducible rfl)
  · have e : intsN l n = l := by unfold intsN; rw [if_neg h]
    rw [e]
    repeat' with_reducible first
      | refine ewp_reg_seq ?_ | refine ewp_seq ?_ | refine ewp_reg ?_ | refine ewp_skip ?_ | refine ewp_ret ?_ | refine ewp_block ?_ | refine ewp_exit ?_ | refine xt_n ?_ | refine xt_r ?_ | refine xt_e ?_ | refine xb_n ?_ | refine xb_r ?_ | refine xb_e ?_ | refine xb_x (by decide) ?_
      | refine ewp_condQ ?_ | refine condQ_T ?_ | refine condQ_F ?_
      | simp -implicitDefEqProofs only [wS, wT, wU, wV, wW, wX, wY, wL, wM, wN, Nat.reduceEqDiff, ↓reduceIte, reduceCtorEq, Nat.reduceAdd, Int.cast_ofNat_Int, Int.reduceLT, Int.reduceLE, Int.reduceEq, Int.reduceToNat, decide_true, decide_false, Bool.false_eq_true]
      | (refine condQ_i (fun h => ?_) (fun h => ?_) <;> have h_ := h <;> (try simp only [wD, reduceCtorEq] at h_) <;> (try (exfalso; first | omega | (refine absurd ?_ h_; focus assumption) | (refine absurd h_ ?_; focus assumption))) <;> (try simp only [h]))
      | (apply slm_hiQ; (focus omega); (focus (first | assumption | omega | (simp only [wZ]; omega) | trivial)))
      | (apply slm_loQ; (focus omega); (focus (first | assumption | omega | (simp only [wZ]; omega) | trivial)))
      | (apply slm_lohiQ; (focus omega); (focus omega); (focus (first | assumption | omega | (simp only [wZ]; omega) | trivial)))
      | (apply slm_lo_aslQ; (focus omega); (focus (first | assumption | omega | (simp only [wZ]; omega) | trivial)))
      | simp -implicitDefEqProofs (disch := omega) only [w64, if_neg]
    refine post1 rfl (Or.inr rfl) ?_
    simp -implicitDefEqProofs only [wL, Nat.reduceEqDiff, ↓reduceIte, reduceCtorEq]
    first | refine er_bool ?_ | refine er_int ?_ | refine er_str ?_ | refine er_sl_eq ?_ | refine er_asl_eq ?_
    try (with_reducible rfl)

/-- The numbers of a list that a Set has, rising. -/
def setF : List Int → List Int := List.foldl (fun acc x => if 0 ≤ x ∧ x < 1024 then putL acc x else acc) []
theorem setF_snoc (l : List Int) (x : Int) : setF (l ++ [x]) = if 0 ≤ x ∧ x < 1024 then putL (setF l) x else setF l := by simp [setF]
theorem setF_len (l : List Int) : (setF l).length ≤ l.length := by
  have h : ∀ (l acc : List Int), (l.foldl (fun acc x => if 0 ≤ x ∧ x < 1024 then putL acc x else acc) acc).length ≤ acc.length + l.length := by
    intro l
    induction l with
    | nil => intro acc; simp
    | cons x l ih =>
      intro acc
      simp only [List.foldl_cons, List.length_cons]
      refine Nat.le_trans (ih _) ?_
      split
      · have := putL_len acc x; omega
      · omega
  simpa [setF] using h l []

theorem yuccaref1_Set {l : List Int} (hl : l.length ≤ 1099511627776) : Pure Tryd.prog 10 [ints l] (ints (setF l)) := by
  refine pure_intro Tryd.func10 e10_nm e10_ok (by show 1 ≤ 30; decide) ?_
  show ewp _ e10n21 _ _
  repeat' with_reducible first
    | refine ewp_reg_seq ?_ | refine ewp_seq ?_ | refine ewp_reg ?_ | refine ewp_skip ?_ | refine ewp_ret ?_ | refine ewp_block ?_ | refine ewp_exit ?_ | refine xt_n ?_ | refine xt_r ?_ | refine xt_e ?_ | refine xb_n ?_ | refine xb_r ?_ | refine xb_e ?_ | refine xb_x (by decide) ?_
    | refine ewp_condQ ?_ | refine condQ_T ?_ | refine condQ_F ?_
    | refine L_gdQ ?_ | refine gdQ_TT ?_ | refine gdQ_FF ?_ | refine gdQ_TF ?_ | refine gdQ_FT ?_ | refine gdQ_u ?_
    | simp -implicitDefEqProofs only [wS, wT, wU, wV, wW, wX, wY, wL, wM, wN, Nat.reduceEqDiff, ↓reduceIte, reduceCtorEq, Nat.reduceAdd, Int.cast_ofNat_Int, Int.reduceLT, Int.reduceLE, Int.reduceEq, Int.reduceToNat, decide_true, decide_false, Bool.false_eq_true]
    | (refine condQ_i (fun h => ?_) (fun h => ?_) <;> have h_ := h <;> (try simp only [wD, reduceCtorEq] at h_) <;> (try (exfalso; first | omega | (refine absurd ?_ h_; focus assumption) | (refine absurd h_ ?_; focus assumption))) <;> (try simp only [h]))
    | ((first | refine gdQ_iT (fun h => ?_) (fun h => ?_) | refine gdQ_iF (fun h => ?_) (fun h => ?_)) <;> have h_ := h <;> (try simp only [wD, reduceCtorEq] at h_) <;> (try (exfalso; first | omega | (refine absurd ?_ h_; focus assumption) | (refine absurd h_ ?_; focus assumption))) <;> (try simp only [h]))
    | (apply ia_slQ; (focus omega); (focus (first | assumption | exact List.getElem?_eq_getElem (by omega) | rfl)))
    | (apply ia_aslQ; (focus omega); (focus (first | assumption | exact List.getElem?_eq_getElem (by omega) | rfl)))
    | (apply ldQ_whole)
    | (apply ldQ_obj; (focus (first | assumption | exact List.getElem?_eq_getElem (by omega) | rfl)); (focus with_unfolding_all rfl))
    | (apply ldQ_cell; (focus with_unfolding_all rfl))
    | (apply ldQ_one; (focus with_unfolding_all rfl))
    | (apply ld_ipQ; (focus with_unfolding_all rfl))
    | (apply callQ2 (hp := yuccaref0_Put ?_); (focus (first | exact er_intsL | exact er_cl | exact er_sl | exact er_asl)); (focus (first | exact er_intsL | exact er_cl | exact er_sl | exact er_asl)); rotate_left; (focus (first | assumption | omega | (simp only [wZ]; omega) | trivial)))
    | simp -implicitDefEqProofs (disch := omega) only [w64, if_neg]
  refine ewp_loopN ?nx1 (fun (k : Nat) s => s.f 0 = ?v1_0 ∧ (∃ c, s.f 3 = .sl 1 c ((setF (l.take k)).map (V.int .i64))) ∧ s.f 4 = vi k ∧ (k ≤ l.length)) (fun k => l.length - k) (0) (by simp -implicitDefEqProofs only [wN, Nat.reduceAdd, Nat.zero_add]; exact Nat.le_refl _) (by refine ⟨?_, ?_, ?_, (by first | omega | (simp; done) | assumption)⟩ <;> first | (simp -implicitDefEqProofs only [wL, wM, wN, wX, Nat.reduceEqDiff, ↓reduceIte, reduceCtorEq, Nat.reduceAdd, Option.some.injEq] <;> first | rfl | exact ⟨_, rfl⟩ | exact ⟨_, rfl, by first | assumption | exact Gr.nil | exact Gr.tok rfl (by omega) | exact Gr.tok (by simp -implicitDefEqProofs only [wM, Nat.reduceEqDiff, ↓reduceIte, reduceCtorEq] <;> rfl) (by omega) | exact Gr.clip⟩) | rfl | exact ⟨_, rfl⟩) ?_
  intro k s hnx ⟨g0, ⟨c3, g3⟩, g4, k1_0⟩
  by_cases hk : k < l.length
  · have hs := setF_len (l.take k)
    have hs2 : (setF (l.take k)).length ≤ 1099511627776 := by simp at hs; omega
    have ht := take_snoc hk
    have hsn := setF_snoc (l.take k) l[k]
    rw [← ht] at hsn
    by_cases hr : 0 ≤ l[k] ∧ l[k] < 1024
    · rw [if_pos hr] at hsn
      have hr1 := hr.1
      have hr2 := hr.2
      clear hs
      repeat' with_reducible first
        | refine ewp_reg_seq ?_ | refine ewp_seq ?_ | refine ewp_reg ?_ | refine ewp_skip ?_ | refine ewp_ret ?_ | refine ewp_block ?_ | refine ewp_exit ?_ | refine xt_n ?_ | refine xt_r ?_ | refine xt_e ?_ | refine xb_n ?_ | refine xb_r ?_ | refine xb_e ?_ | refine xb_x (by decide) ?_
        | refine ewp_condQ ?_ | refine condQ_T ?_ | refine condQ_F ?_
        | refine L_gdQ ?_ | refine gdQ_TT ?_ | refine gdQ_FF ?_ | refine gdQ_TF ?_ | refine gdQ_FT ?_ | refine gdQ_u ?_
        | simp -implicitDefEqProofs only [wS, wT, wU, wV, wW, wX, wY, wL, wM, wN, Nat.reduceEqDiff, ↓reduceIte, reduceCtorEq, Nat.reduceAdd, Int.cast_ofNat_Int, Int.reduceLT, Int.reduceLE, Int.reduceEq, Int.reduceToNat, decide_true, decide_false, Bool.false_eq_true, g0, g3, g4]
        | (refine condQ_i (fun h => ?_) (fun h => ?_) <;> have h_ := h <;> (try simp only [wD, reduceCtorEq] at h_) <;> (try (exfalso; first | omega | (refine absurd ?_ h_; focus assumption) | (refine absurd h_ ?_; focus assumption))) <;> (try simp only [h]))
        | ((first | refine gdQ_iT (fun h => ?_) (fun h => ?_) | refine gdQ_iF (fun h => ?_) (fun h => ?_)) <;> have h_ := h <;> (try simp only [wD, reduceCtorEq] at h_) <;> (try (exfalso; first | omega | (refine absurd ?_ h_; focus assumption) | (refine absurd h_ ?_; focus assumption))) <;> (try simp only [h]))
        | (apply ia_slQ; (focus omega); (focus (first | assumption | exact List.getElem?_eq_getElem (by omega) | rfl)))
        | (apply ia_aslQ; (focus omega); (focus (first | assumption | exact List.getElem?_eq_getElem (by omega) | rfl)))
        | (apply ldQ_whole)
        | (apply ldQ_obj; (focus (first | assumption | exact List.getElem?_eq_getElem (by omega) | rfl)); (focus with_unfolding_all rfl))
        | (apply ldQ_cell; (focus with_unfolding_all rfl))
        | (apply ldQ_one; (focus with_unfolding_all rfl))
        | (apply ld_ipQ; (focus with_unfolding_all rfl))
        | (apply callQ2 (hp := yuccaref0_Put ?_); (focus (first | exact er_intsL | exact er_cl | exact er_sl | exact er_asl)); (focus (first | exact er_intsL | exact er_cl | exact er_sl | exact er_asl)); rotate_left; (focus (first | assumption | omega | (simp only [wZ]; omega) | trivial)))
        | simp -implicitDefEqProofs (disch := omega) only [w64, if_neg]
      refine ⟨(by first | assumption | omega | (simp -implicitDefEqProofs only [wN]; omega)), k + 1, (by omega), ?_⟩
      refine ⟨?_, ?_, ?_, ?_⟩
      iterate 3 (focus (first | (simp -implicitDefEqProofs only [wL, wM, wN, wX, Nat.reduceEqDiff, ↓reduceIte, reduceCtorEq, Nat.reduceAdd, Option.some.injEq, g0, g3, g4, hsn] <;> first | rfl | exact ⟨_, rfl⟩ | exact ⟨_, rfl, by first | assumption | exact Gr.nil | exact Gr.tok rfl (by omega) | exact Gr.tok (by simp -implicitDefEqProofs only [wM, Nat.reduceEqDiff, ↓reduceIte, reduceCtorEq] <;> rfl) (by omega) | exact Gr.clip⟩) | rfl | exact ⟨_, rfl⟩))
      all_goals try omega
    · rw [if_neg hr] at hsn
      repeat' with_reducible first
        | refine ewp_reg_seq ?_ | refine ewp_seq ?_ | refine ewp_reg ?_ | refine ewp_skip ?_ | refine ewp_ret ?_ | refine ewp_block ?_ | refine ewp_exit ?_ | refine xt_n ?_ | refine xt_r ?_ | refine xt_e ?_ | refine xb_n ?_ | refine xb_r ?_ | refine xb_e ?_ | refine xb_x (by decide) ?_
        | refine ewp_condQ ?_ | refine condQ_T ?_ | refine condQ_F ?_
        | refine L_gdQ ?_ | refine gdQ_TT ?_ | refine gdQ_FF ?_ | refine gdQ_TF ?_ | refine gdQ_FT ?_ | refine gdQ_u ?_
        | simp -implicitDefEqProofs only [wS, wT, wU, wV, wW, wX, wY, wL, wM, wN, Nat.reduceEqDiff, ↓reduceIte, reduceCtorEq, Nat.reduceAdd, Int.cast_ofNat_Int, Int.reduceLT, Int.reduceLE, Int.reduceEq, Int.reduceToNat, decide_true, decide_false, Bool.false_eq_true, g0, g3, g4]
        | (refine condQ_i (fun h => ?_) (fun h => ?_) <;> have h_ := h <;> (try simp only [wD, reduceCtorEq] at h_) <;> (try (exfalso; first | omega | (refine absurd ?_ h_; focus assumption) | (refine absurd h_ ?_; focus assumption))) <;> (try simp only [h]))
        | ((first | refine gdQ_iT (fun h => ?_) (fun h => ?_) | refine gdQ_iF (fun h => ?_) (fun h => ?_)) <;> have h_ := h <;> (try simp only [wD, reduceCtorEq] at h_) <;> (try (exfalso; first | omega | (refine absurd ?_ h_; focus assumption) | (refine absurd h_ ?_; focus assumption))) <;> (try simp only [h]))
        | (apply ia_slQ; (focus omega); (focus (first | assumption | exact List.getElem?_eq_getElem (by omega) | rfl)))
        | (apply ia_aslQ; (focus omega); (focus (first | assumption | exact List.getElem?_eq_getElem (by omega) | rfl)))
        | (apply ldQ_whole)
        | (apply ldQ_obj; (focus (first | assumption | exact List.getElem?_eq_getElem (by omega) | rfl)); (focus with_unfolding_all rfl))
        | (apply ldQ_cell; (focus with_unfolding_all rfl))
        | (apply ldQ_one; (focus with_unfolding_all rfl))
        | (apply ld_ipQ; (focus with_unfolding_all rfl))
        | (apply callQ2 (hp := yuccaref0_Put ?_); (focus (first | exact er_intsL | exact er_cl | exact er_sl | exact er_asl)); (focus (first | exact er_intsL | exact er_cl | exact er_sl | exact er_asl)); rotate_left; (focus (first | assumption | omega | (simp only [wZ]; omega) | trivial)))
        | simp -implicitDefEqProofs (disch := omega) only [w64, if_neg]
      refine ⟨(by first | assumption | omega | (simp -implicitDefEqProofs only [wN]; omega)), k + 1, (by omega), ?_⟩
      refine ⟨?_, ?_, ?_, ?_⟩
      iterate 3 (focus (first | (simp -implicitDefEqProofs only [wL, wM, wN, wX, Nat.reduceEqDiff, ↓reduceIte, reduceCtorEq, Nat.reduceAdd, Option.some.injEq, g0, g3, g4, hsn] <;> first | rfl | exact ⟨_, rfl⟩ | exact ⟨_, rfl, by first | assumption | exact Gr.nil | exact Gr.tok rfl (by omega) | exact Gr.tok (by simp -implicitDefEqProofs only [wM, Nat.reduceEqDiff, ↓reduceIte, reduceCtorEq] <;> rfl) (by omega) | exact Gr.clip⟩) | rfl | exact ⟨_, rfl⟩))
      all_goals try omega
      refine ⟨(by first | assumption | omega | (simp -implicitDefEqProofs only [wN]; omega)), k + 1, (by omega), ?_⟩
      refine ⟨?_, ?_, ?_, ?_⟩
      iterate 3 (focus (first | (simp -implicitDefEqProofs only [wL, wM, wN, wX, Nat.reduceEqDiff, ↓reduceIte, reduceCtorEq, Nat.reduceAdd, Option.some.injEq, g0, g3, g4, hsn] <;> first | rfl | exact ⟨_, rfl⟩ | exact ⟨_, rfl, by first | assumption | exact Gr.nil | exact Gr.tok rfl (by omega) | exact Gr.tok (by simp -implicitDefEqProofs only [wM, Nat.reduceEqDiff, ↓reduceIte, reduceCtorEq] <;> rfl) (by omega) | exact Gr.clip⟩) | rfl | exact ⟨_, rfl⟩))
      all_goals try omega
  · repeat' with_reducible first
      | refine ewp_reg_seq ?_ | refine ewp_seq ?_ | refine ewp_reg ?_ | refine ewp_skip ?_ | refine ewp_ret ?_ | refine ewp_block ?_ | refine ewp_exit ?_ | refine xt_n ?_ | refine xt_r ?_ | refine xt_e ?_ | refine xb_n ?_ | refine xb_r ?_ | refine xb_e ?_ | refine xb_x (by decide) ?_
      | refine ewp_condQ ?_ | refine condQ_T ?_ | refine condQ_F ?_
      | refine L_gdQ ?_ | refine gdQ_TT ?_ | refine gdQ_FF ?_ | refine gdQ_TF ?_ | refine gdQ_FT ?_ | refine gdQ_u ?_
      | simp -implicitDefEqProofs only [wS, wT, wU, wV, wW, wX, wY, wL, wM, wN, Nat.reduceEqDiff, ↓reduceIte, reduceCtorEq, Nat.reduceAdd, Int.cast_ofNat_Int, Int.reduceLT, Int.reduceLE, Int.reduceEq, Int.reduceToNat, decide_true, decide_false, Bool.false_eq_true, g0, g3, g4]
      | (refine condQ_i (fun h => ?_) (fun h => ?_) <;> have h_ := h <;> (try simp only [wD, reduceCtorEq] at h_) <;> (try (exfalso; first | omega | (refine absurd ?_ h_; focus assumption) | (refine absurd h_ ?_; focus assumption))) <;> (try simp only [h]))
      | ((first | refine gdQ_iT (fun h => ?_) (fun h => ?_) | refine gdQ_iF (fun h => ?_) (fun h => ?_)) <;> have h_ := h <;> (try simp only [wD, reduceCtorEq] at h_) <;> (try (exfalso; first | omega | (refine absurd ?_ h_; focus assumption) | (refine absurd h_ ?_; focus assumption))) <;> (try simp only [h]))
      | (apply ia_slQ; (focus omega); (focus (first | assumption | exact List.getElem?_eq_getElem (by omega) | rfl)))
      | (apply ia_aslQ; (focus omega); (focus (first | assumption | exact List.getElem?_eq_getElem (by omega) | rfl)))
      | (apply ldQ_whole)
      | (apply ldQ_obj; (focus (first | assumption | exact List.getElem?_eq_getElem (by omega) | rfl)); (focus with_unfolding_all rfl))
      | (apply ldQ_cell; (focus with_unfolding_all rfl))
      | (apply ldQ_one; (focus with_unfolding_all rfl))
      | (apply ld_ipQ; (focus with_unfolding_all rfl))
      | (apply callQ2 (hp := yuccaref0_Put ?_); (focus (first | exact er_intsL | exact er_cl | exact er_sl | exact er_asl)); (focus (first | exact er_intsL | exact er_cl | exact er_sl | exact er_asl)); rotate_left; (focus (first | assumption | omega | (simp only [wZ]; omega) | trivial)))
      | simp -implicitDefEqProofs (disch := omega) only [w64, if_neg]
    refine post1 rfl (Or.inr rfl) ?_
    simp -implicitDefEqProofs only [wL, Nat.reduceEqDiff, ↓reduceIte, reduceCtorEq, g0, g3, g4]
    first | refine er_bool ?_ | refine er_int ?_ | refine er_str ?_ | refine er_sl_eq ?_ | refine er_asl_eq ?_
    try (with_reducible rfl)
    rw [List.take_of_length_le (by omega)]
end Go.Proofs


namespace Go.Proofs
open Go.E

/-- The number of a pair. -/
def pairF (i j : Int) : Int := if i < 0 ∨ 999 < i ∨ j < 0 ∨ 999 < j then -1 else (i + j) * (i + j + 1) / 2 + i

theorem pair_arith {i j : Int} (h1 : ¬ i < 0) (h2 : ¬ 999 < i) (h3 : ¬ j < 0) (h4 : ¬ 999 < j) :
    IntKind.i64.wrap (IntKind.i64.wrap ((IntKind.i64.wrap (IntKind.i64.wrap (i + j) * IntKind.i64.wrap (IntKind.i64.wrap (i + j) + 1))).tdiv 2) + i) = (i + j) * (i + j + 1) / 2 + i := by
  rw [wrap64 (x := i + j) (by omega) (by omega), wrap64 (x := i + j + 1) (by omega) (by omega)]
  have hp : 0 ≤ (i + j) * (i + j + 1) := Int.mul_nonneg (by omega) (by omega)
  have hq : (i + j) * (i + j + 1) ≤ 1998 * 1999 := Int.mul_le_mul (by omega) (by omega) (by omega) (by omega)
  generalize (i + j) * (i + j + 1) = p at hp hq ⊢
  rw [wrap64 (x := p) (by omega) (by omega), Int.tdiv_eq_ediv_of_nonneg hp, wrap64 (x := p / 2) (by omega) (by omega), wrap64 (by omega) (by omega)]

theorem bits_Pair {i j : Int}  : Pure Tryd.prog 20 [vi i, vi j] (vi (pairF i j)) := by
  refine pure_intro Tryd.func20 e20_nm e20_ok (by show 2 ≤ 30; decide) ?_
  show ewp _ e20n9 _ _
  repeat' with_reducible first
    | refine ewp_reg_seq ?_ | refine ewp_seq ?_ | refine ewp_reg ?_ | refine ewp_skip ?_ | refine ewp_ret ?_ | refine ewp_block ?_ | refine ewp_exit ?_ | refine xt_n ?_ | refine xt_r ?_ | refine xt_e ?_ | refine xb_n ?_ | refine xb_r ?_ | refine xb_e ?_ | refine xb_x (by decide) ?_
    | (refine ewp_if (by simp -implicitDefEqProofs only [ev_t, bump_f, setO_F, entry0, entry1, entry2, entry3, entry4, entry5, put_none, put_f, Nat.reduceEqDiff, ↓reduceIte, reduceCtorEq] <;> rfl) (fun h => ?_) (fun h => ?_) <;> (try simp only [Bool.not_false, Bool.not_true, Bool.not_eq_true', Bool.not_eq_false', Bool.true_eq_false, Bool.false_eq_true, reduceCtorEq] at h) <;> (try (exfalso; simp only [decide_eq_true_eq, decide_eq_false_iff_not] at h; omega)) <;> (try simp only [h]))
    | (refine L_gd' (by simp -implicitDefEqProofs only [bump_f, setO_F, entry0, entry1, entry2, entry3, entry4, entry5, put_none, put_f, Nat.reduceEqDiff, ↓reduceIte, reduceCtorEq] <;> rfl) (fun h => ?_) (fun h => ?_) <;> (try simp only [Bool.not_false, Bool.not_true, Bool.not_eq_true', Bool.not_eq_false', Bool.true_eq_false, Bool.false_eq_true, reduceCtorEq] at h) <;> (try (exfalso; simp only [decide_eq_true_eq, decide_eq_false_iff_not] at h; omega)) <;> (try simp only [h]))
    | simp -implicitDefEqProofs only [L_nil, L_none, st_mov, st_bin, st_pick, st_ext, st_len, st_lenS, st_lenc, st_un, st_eqb, st_conv, st_mkfn, st_build, st_fld, ev_t, ev_c, bump_f, setO_F, setO_H, putH, bump_H, putN, bump_N, setO_N, entry_N, entry_H, List.length_cons, List.length_nil, Nat.reduceAdd, Nat.zero_add, Nat.add_zero, b_lss, b_leq, b_gtr, b_geq, b_eql, b_neq, b_add, b_sub, b_mul, b_quo, b_rem, u_not, eqb_b, len_sl, len_asl, len_msl, List.length_map, onS_some, Bool.false_eq_true, Int.reduceEq, bump_f, setO_F, entry0, entry1, entry2, entry3, entry4, entry5, put_none, put_f, Nat.reduceEqDiff, ↓reduceIte, reduceCtorEq]
  all_goals refine post1 rfl (Or.inr rfl) ?_
  all_goals try simp only [put_f, Nat.reduceEqDiff, ↓reduceIte]
  all_goals refine er_int ?_
  all_goals try simp only [decide_eq_true_eq, decide_eq_false_iff_not] at *
  all_goals unfold pairF
  all_goals first
    | (rw [if_pos (by omega)])
    | (rw [if_neg (by omega)]; exact pair_arith (by assumption) (by assumption) (by assumption) (by assumption))

theorem yuccaref1_Pair {i j : Int}  : Pure Tryd.prog 21 [vi i, vi j] (vi (pairF i j)) := by
  refine pure_intro Tryd.func21 e21_nm e21_ok (by show 2 ≤ 30; decide) ?_
  show ewp _ e21n9 _ _
  repeat' with_reducible first
    | refine ewp_reg_seq ?_ | refine ewp_seq ?_ | refine ewp_reg ?_ | refine ewp_skip ?_ | refine ewp_ret ?_ | refine ewp_block ?_ | refine ewp_exit ?_ | refine xt_n ?_ | refine xt_r ?_ | refine xt_e ?_ | refine xb_n ?_ | refine xb_r ?_ | refine xb_e ?_ | refine xb_x (by decide) ?_
    | (refine ewp_if (by simp -implicitDefEqProofs only [ev_t, bump_f, setO_F, entry0, entry1, entry2, entry3, entry4, entry5, put_none, put_f, Nat.reduceEqDiff, ↓reduceIte, reduceCtorEq] <;> rfl) (fun h => ?_) (fun h => ?_) <;> (try simp only [Bool.not_false, Bool.not_true, Bool.not_eq_true', Bool.not_eq_false', Bool.true_eq_false, Bool.false_eq_true, reduceCtorEq] at h) <;> (try (exfalso; simp only [decide_eq_true_eq, decide_eq_false_iff_not] at h; omega)) <;> (try simp only [h]))
    | (refine L_gd' (by simp -implicitDefEqProofs only [bump_f, setO_F, entry0, entry1, entry2, entry3, entry4, entry5, put_none, put_f, Nat.reduceEqDiff, ↓reduceIte, reduceCtorEq] <;> rfl) (fun h => ?_) (fun h => ?_) <;> (try simp only [Bool.not_false, Bool.not_true, Bool.not_eq_true', Bool.not_eq_false', Bool.true_eq_false, Bool.false_eq_true, reduceCtorEq] at h) <;> (try (exfalso; simp only [decide_eq_true_eq, decide_eq_false_iff_not] at h; omega)) <;> (try simp only [h]))
    | simp -implicitDefEqProofs only [L_nil, L_none, st_mov, st_bin, st_pick, st_ext, st_len, st_lenS, st_lenc, st_un, st_eqb, st_conv, st_mkfn, st_build, st_fld, ev_t, ev_c, bump_f, setO_F, setO_H, putH, bump_H, putN, bump_N, setO_N, entry_N, entry_H, List.length_cons, List.length_nil, Nat.reduceAdd, Nat.zero_add, Nat.add_zero, b_lss, b_leq, b_gtr, b_geq, b_eql, b_neq, b_add, b_sub, b_mul, b_quo, b_rem, u_not, eqb_b, len_sl, len_asl, len_msl, List.length_map, onS_some, Bool.false_eq_true, Int.reduceEq, bump_f, setO_F, entry0, entry1, entry2, entry3, entry4, entry5, put_none, put_f, Nat.reduceEqDiff, ↓reduceIte, reduceCtorEq]
  all_goals refine post1 rfl (Or.inr rfl) ?_
  all_goals try simp only [put_f, Nat.reduceEqDiff, ↓reduceIte]
  all_goals refine er_int ?_
  all_goals try simp only [decide_eq_true_eq, decide_eq_false_iff_not] at *
  all_goals unfold pairF
  all_goals first
    | (rw [if_pos (by omega)])
    | (rw [if_neg (by omega)]; exact pair_arith (by assumption) (by assumption) (by assumption) (by assumption))

theorem bits_fits {x : Int}  : Pure Tryd.prog 27 [vi x] (.bool (decide (0 ≤ x) && decide (x < 1024))) := by
  refine pure_intro Tryd.func27 e27_nm e27_ok (by show 1 ≤ 9; decide) ?_
  show ewp _ e27n3 _ _
  repeat' with_reducible first
    | refine ewp_reg_seq ?_ | refine ewp_seq ?_ | refine ewp_reg ?_ | refine ewp_skip ?_ | refine ewp_ret ?_ | refine ewp_block ?_ | refine ewp_exit ?_ | refine xt_n ?_ | refine xt_r ?_ | refine xt_e ?_ | refine xb_n ?_ | refine xb_r ?_ | refine xb_e ?_ | refine xb_x (by decide) ?_
    | refine L_gdQ ?_ | refine gdQ_TT ?_ | refine gdQ_FF ?_ | refine gdQ_TF ?_ | refine gdQ_FT ?_ | refine gdQ_u ?_
    | simp -implicitDefEqProofs only [wS, wT, wU, wV, wW, wX, wY, wL, wM, wN, Nat.reduceEqDiff, ↓reduceIte, reduceCtorEq, Nat.reduceAdd, Int.cast_ofNat_Int, Int.reduceLT, Int.reduceLE, Int.reduceEq, Int.reduceToNat, decide_true, decide_false, Bool.false_eq_true]
    | ((first | refine gdQ_iT (fun h => ?_) (fun h => ?_) | refine gdQ_iF (fun h => ?_) (fun h => ?_)) <;> have h_ := h <;> (try simp only [wD, reduceCtorEq] at h_) <;> (try (exfalso; first | omega | (refine absurd ?_ h_; focus assumption) | (refine absurd h_ ?_; focus assumption))) <;> (try simp only [h]))
    | simp -implicitDefEqProofs (disch := omega) only [w64, if_neg]
  all_goals refine post1 rfl (Or.inr rfl) ?_
  all_goals try simp only [put_f, Nat.reduceEqDiff, ↓reduceIte]
  all_goals refine er_bool ?_
  all_goals simp_all

/-- Half of s (s + 1). -/
def tri (s : Nat) : Nat := s * (s + 1) / 2
theorem tri_succ (s : Nat) : tri (s + 1) = tri s + (s + 1) := by
  unfold tri
  have h : (s + 1) * (s + 1 + 1) = s * (s + 1) + 2 * (s + 1) := by rw [Nat.mul_comm (s + 1) (s + 1 + 1), ← Nat.add_mul]
  rw [h, Nat.add_mul_div_left _ _ (by omega)]
theorem tri_mono {a b : Nat} (h : a ≤ b) : tri a ≤ tri b := Nat.div_le_div_right (Nat.mul_le_mul h (by omega))
theorem tri_ex (k : Nat) : ∃ s, tri s ≤ k ∧ k < tri (s + 1) := by
  induction k with
  | zero => exact ⟨0, by decide, by decide⟩
  | succ k ih =>
    obtain ⟨s, h1, h2⟩ := ih
    by_cases h : k + 1 < tri (s + 1)
    · exact ⟨s, by omega, h⟩
    · exact ⟨s + 1, by omega, by rw [tri_succ (s + 1)]; omega⟩
theorem tri_uniq {k a b : Nat} (ha : tri a ≤ k) (ha' : k < tri (a + 1)) (hb : tri b ≤ k) (hb' : k < tri (b + 1)) : a = b := by
  rcases Nat.lt_trichotomy a b with h | h | h
  · have := tri_mono (show a + 1 ≤ b from h); omega
  · exact h
  · have := tri_mono (show b + 1 ≤ a from h); omega
theorem tri_small {s : Nat} (h : tri s ≤ 1998000) : s ≤ 1998 := by
  apply Nat.le_of_not_lt
  intro hl
  have h1 := tri_mono (show 1999 ≤ s from hl)
  have h2 : tri 1999 = 1999000 := by decide
  omega
theorem mul_div_wrap {x y p : Nat} (hp : x * y = p) (hx : x ≤ 2000) (hy : y ≤ 2000) (a b : Int) (ha : a = x) (hb : b = y) : IntKind.i64.wrap ((IntKind.i64.wrap (a * b)).tdiv 2) = ((p / 2 : Nat) : Int) := by
  subst ha hb
  have h1 : x * y ≤ 2000 * 2000 := Nat.mul_le_mul hx hy
  have h2 : (x : Int) * (y : Int) = ((x * y : Nat) : Int) := by simp
  rw [h2, hp, wrap64 (x := (p : Int)) (by omega) (by omega), Int.tdiv_eq_ediv_of_nonneg (by omega), wrap64 (by omega) (by omega)]
  rfl
theorem tri_w1 {s : Nat} (hs : s ≤ 1998) : IntKind.i64.wrap ((IntKind.i64.wrap (((s + 1 : Nat) : Int) * IntKind.i64.wrap ((s : Int) + 2))).tdiv 2) = ((tri (s + 1) : Nat) : Int) :=
  mul_div_wrap (x := s + 1) (y := s + 2) rfl (by omega) (by omega) _ _ rfl (by rw [wrap64 (by omega) (by omega)]; omega)
theorem tri_w0 {s : Nat} (hs : s ≤ 1998) : IntKind.i64.wrap ((IntKind.i64.wrap ((s : Int) * ((s + 1 : Nat) : Int))).tdiv 2) = ((tri s : Nat) : Int) :=
  mul_div_wrap (x := s) (y := s + 1) rfl (by omega) (by omega) _ _ rfl rfl

noncomputable def unS (k : Nat) : Nat := (tri_ex k).choose
theorem unS_spec (k : Nat) : tri (unS k) ≤ k ∧ k < tri (unS k + 1) := (tri_ex k).choose_spec
/-- The pair of a number. -/
noncomputable def unpairF (k : Int) : Int × Int :=
  if k < 0 ∨ 1998000 < k then (-1, -1) else
  let s : Int := unS k.toNat
  let i : Int := k - tri (unS k.toNat)
  if 999 < i ∨ 999 < s - i then (-1, -1) else (i, s - i)

theorem bits_Unpair {k : Int}  : Pure Tryd.prog 18 [vi k] (.tup [vi (unpairF k).1, vi (unpairF k).2]) := by
  refine pure_intro Tryd.func18 e18_nm e18_ok (by show 1 ≤ 41; decide) ?_
  show ewp _ e18n28 _ _
  repeat' with_reducible first
    | refine ewp_reg_seq ?_ | refine ewp_seq ?_ | refine ewp_reg ?_ | refine ewp_skip ?_ | refine ewp_ret ?_ | refine ewp_block ?_ | refine ewp_exit ?_ | refine xt_n ?_ | refine xt_r ?_ | refine xt_e ?_ | refine xb_n ?_ | refine xb_r ?_ | refine xb_e ?_ | refine xb_x (by decide) ?_
    | (refine ewp_if (by simp -implicitDefEqProofs only [ev_t, bump_f, setO_F, entry0, entry1, entry2, entry3, entry4, entry5, put_none, put_f, Nat.reduceEqDiff, ↓reduceIte, reduceCtorEq] <;> rfl) (fun h => ?_) (fun h => ?_) <;> (try simp only [Bool.not_false, Bool.not_true, Bool.not_eq_true', Bool.not_eq_false', Bool.true_eq_false, Bool.false_eq_true, reduceCtorEq] at h) <;> (try (exfalso; simp only [decide_eq_true_eq, decide_eq_false_iff_not] at h; omega)) <;> (try simp only [h]))
    | (refine L_gd' (by simp -implicitDefEqProofs only [bump_f, setO_F, entry0, entry1, entry2, entry3, entry4, entry5, put_none, put_f, Nat.reduceEqDiff, ↓reduceIte, reduceCtorEq] <;> rfl) (fun h => ?_) (fun h => ?_) <;> (try simp only [Bool.not_false, Bool.not_true, Bool.not_eq_true', Bool.not_eq_false', Bool.true_eq_false, Bool.false_eq_true, reduceCtorEq] at h) <;> (try (exfalso; simp only [decide_eq_true_eq, decide_eq_false_iff_not] at h; omega)) <;> (try simp only [h]))
    | simp -implicitDefEqProofs only [L_nil, L_none, st_mov, st_bin, st_pick, st_ext, st_len, st_lenS, st_lenc, st_un, st_eqb, st_conv, st_mkfn, st_build, st_fld, ev_t, ev_c, bump_f, setO_F, setO_H, putH, bump_H, putN, bump_N, setO_N, entry_N, entry_H, List.length_cons, List.length_nil, Nat.reduceAdd, Nat.zero_add, Nat.add_zero, b_lss, b_leq, b_gtr, b_geq, b_eql, b_neq, b_add, b_sub, b_mul, b_quo, b_rem, u_not, eqb_b, len_sl, len_asl, len_msl, List.length_map, onS_some, Bool.false_eq_true, Int.reduceEq, bump_f, setO_F, entry0, entry1, entry2, entry3, entry4, entry5, put_none, put_f, Nat.reduceEqDiff, ↓reduceIte, reduceCtorEq]
  all_goals try simp only [decide_eq_true_eq, decide_eq_false_iff_not] at *
  · refine post2 rfl (Or.inr rfl) ?_
    simp -implicitDefEqProofs only [bump_f, setO_F, entry0, entry1, entry2, entry3, entry4, entry5, put_none, put_f, Nat.reduceEqDiff, ↓reduceIte, reduceCtorEq]
    refine er_tup2 (er_int ?_) (er_int ?_)
    · unfold unpairF; rw [if_pos (by omega)]
    · unfold unpairF; rw [if_pos (by omega)]
  · obtain ⟨n, rfl⟩ : ∃ n : Nat, k = n := ⟨k.toNat, by omega⟩
    refine ewp_loopI (fun (t : Nat) s => tri t ≤ n ∧ s.f 0 = vi n ∧ s.f 4 = vi t) (fun t => 2000 - t) 0
      ⟨Nat.zero_le _, by simp only [put_f, bump_f, entry0, Nat.reduceEqDiff, ↓reduceIte], by simp only [put_f, bump_f, Nat.reduceEqDiff, ↓reduceIte]; rfl⟩ ?_
    intro t s ⟨ht, g0, g4⟩
    have htl : t ≤ 1998 := tri_small (by omega)
    have hsub : IntKind.i64.wrap ((n : Int) - tri t) = (n : Int) - tri t := wrap64 (by omega) (by omega)
    have hsub2 : IntKind.i64.wrap ((t : Int) - ((n : Int) - tri t)) = (t : Int) - ((n : Int) - tri t) := wrap64 (by omega) (by omega)
    repeat' with_reducible first
      | refine ewp_reg_seq ?_ | refine ewp_seq ?_ | refine ewp_reg ?_ | refine ewp_skip ?_ | refine ewp_ret ?_ | refine ewp_block ?_ | refine ewp_exit ?_ | refine xt_n ?_ | refine xt_r ?_ | refine xt_e ?_ | refine xb_n ?_ | refine xb_r ?_ | refine xb_e ?_ | refine xb_x (by decide) ?_
      | (refine ewp_if (by simp -implicitDefEqProofs only [ev_t, bump_f, setO_F, entry0, entry1, entry2, entry3, entry4, entry5, put_none, put_f, Nat.reduceEqDiff, ↓reduceIte, reduceCtorEq, g0, g4, tri_w1 htl, tri_w0 htl, hsub, hsub2, add1 (show t < 4611686018427387904 by omega)] <;> rfl) (fun h => ?_) (fun h => ?_) <;> (try simp only [Bool.not_false, Bool.not_true, Bool.not_eq_true', Bool.not_eq_false', Bool.true_eq_false, Bool.false_eq_true, reduceCtorEq] at h) <;> (try (exfalso; simp only [decide_eq_true_eq, decide_eq_false_iff_not] at h; omega)) <;> (try simp only [h]))
      | (refine L_gd' (by simp -implicitDefEqProofs only [bump_f, setO_F, entry0, entry1, entry2, entry3, entry4, entry5, put_none, put_f, Nat.reduceEqDiff, ↓reduceIte, reduceCtorEq, g0, g4, tri_w1 htl, tri_w0 htl, hsub, hsub2, add1 (show t < 4611686018427387904 by omega)] <;> rfl) (fun h => ?_) (fun h => ?_) <;> (try simp only [Bool.not_false, Bool.not_true, Bool.not_eq_true', Bool.not_eq_false', Bool.true_eq_false, Bool.false_eq_true, reduceCtorEq] at h) <;> (try (exfalso; simp only [decide_eq_true_eq, decide_eq_false_iff_not] at h; omega)) <;> (try simp only [h]))
      | simp -implicitDefEqProofs only [L_nil, L_none, st_mov, st_bin, st_pick, st_ext, st_len, st_lenS, st_lenc, st_un, st_eqb, st_conv, st_mkfn, st_build, st_fld, ev_t, ev_c, bump_f, setO_F, setO_H, putH, bump_H, putN, bump_N, setO_N, entry_N, entry_H, List.length_cons, List.length_nil, Nat.reduceAdd, Nat.zero_add, Nat.add_zero, b_lss, b_leq, b_gtr, b_geq, b_eql, b_neq, b_add, b_sub, b_mul, b_quo, b_rem, u_not, eqb_b, len_sl, len_asl, len_msl, List.length_map, onS_some, Bool.false_eq_true, Int.reduceEq, bump_f, setO_F, entry0, entry1, entry2, entry3, entry4, entry5, put_none, put_f, Nat.reduceEqDiff, ↓reduceIte, reduceCtorEq, g0, g4, tri_w1 htl, tri_w0 htl, hsub, hsub2, add1 (show t < 4611686018427387904 by omega)]
    all_goals try simp only [decide_eq_true_eq, decide_eq_false_iff_not] at *
    · exact ⟨t + 1, by omega, by omega, trivial, rfl⟩
    all_goals have hu : unS n = t := tri_uniq (unS_spec n).1 (unS_spec n).2 ht (by omega)
    all_goals have hun : unpairF n = if 999 < (n : Int) - tri t ∨ 999 < (t : Int) - ((n : Int) - tri t) then (-1, -1) else ((n : Int) - tri t, (t : Int) - ((n : Int) - tri t)) := (by unfold unpairF; rw [if_neg (by omega)]; simp only [Int.toNat_natCast, hu])
    · refine post2 rfl (Or.inr rfl) ?_
      simp -implicitDefEqProofs only [bump_f, setO_F, entry0, entry1, entry2, entry3, entry4, entry5, put_none, put_f, Nat.reduceEqDiff, ↓reduceIte, reduceCtorEq, hsub, hsub2]
      refine er_tup2 (er_int ?_) (er_int ?_)
      · rw [hun, if_pos (by omega)]
      · rw [hun, if_pos (by omega)]
    · refine post2 rfl (Or.inr rfl) ?_
      simp -implicitDefEqProofs only [bump_f, setO_F, entry0, entry1, entry2, entry3, entry4, entry5, put_none, put_f, Nat.reduceEqDiff, ↓reduceIte, reduceCtorEq, hsub, hsub2]
      refine er_tup2 (er_int ?_) (er_int ?_)
      · rw [hun, if_neg (by omega)]
      · rw [hun, if_neg (by omega)]
    · refine post2 rfl (Or.inr rfl) ?_
      simp -implicitDefEqProofs only [bump_f, setO_F, entry0, entry1, entry2, entry3, entry4, entry5, put_none, put_f, Nat.reduceEqDiff, ↓reduceIte, reduceCtorEq, hsub, hsub2]
      refine er_tup2 (er_int ?_) (er_int ?_)
      · rw [hun, if_pos (by omega)]
      · rw [hun, if_pos (by omega)]
  · refine post2 rfl (Or.inr rfl) ?_
    simp -implicitDefEqProofs only [bump_f, setO_F, entry0, entry1, entry2, entry3, entry4, entry5, put_none, put_f, Nat.reduceEqDiff, ↓reduceIte, reduceCtorEq]
    refine er_tup2 (er_int ?_) (er_int ?_)
    · unfold unpairF; rw [if_pos (by omega)]
    · unfold unpairF; rw [if_pos (by omega)]

theorem yuccaref1_Unpair {k : Int}  : Pure Tryd.prog 19 [vi k] (.tup [vi (unpairF k).1, vi (unpairF k).2]) := by
  refine pure_intro Tryd.func19 e19_nm e19_ok (by show 1 ≤ 41; decide) ?_
  show ewp _ e19n28 _ _
  repeat' with_reducible first
    | refine ewp_reg_seq ?_ | refine ewp_seq ?_ | refine ewp_reg ?_ | refine ewp_skip ?_ | refine ewp_ret ?_ | refine ewp_block ?_ | refine ewp_exit ?_ | refine xt_n ?_ | refine xt_r ?_ | refine xt_e ?_ | refine xb_n ?_ | refine xb_r ?_ | refine xb_e ?_ | refine xb_x (by decide) ?_
    | (refine ewp_if (by simp -implicitDefEqProofs only [ev_t, bump_f, setO_F, entry0, entry1, entry2, entry3, entry4, entry5, put_none, put_f, Nat.reduceEqDiff, ↓reduceIte, reduceCtorEq] <;> rfl) (fun h => ?_) (fun h => ?_) <;> (try simp only [Bool.not_false, Bool.not_true, Bool.not_eq_true', Bool.not_eq_false', Bool.true_eq_false, Bool.false_eq_true, reduceCtorEq] at h) <;> (try (exfalso; simp only [decide_eq_true_eq, decide_eq_false_iff_not] at h; omega)) <;> (try simp only [h]))
    | (refine L_gd' (by simp -implicitDefEqProofs only [bump_f, setO_F, entry0, entry1, entry2, entry3, entry4, entry5, put_none, put_f, Nat.reduceEqDiff, ↓reduceIte, reduceCtorEq] <;> rfl) (fun h => ?_) (fun h => ?_) <;> (try simp only [Bool.not_false, Bool.not_true, Bool.not_eq_true', Bool.not_eq_false', Bool.true_eq_false, Bool.false_eq_true, reduceCtorEq] at h) <;> (try (exfalso; simp only [decide_eq_true_eq, decide_eq_false_iff_not] at h; omega)) <;> (try simp only [h]))
    | simp -implicitDefEqProofs only [L_nil, L_none, st_mov, st_bin, st_pick, st_ext, st_len, st_lenS, st_lenc, st_un, st_eqb, st_conv, st_mkfn, st_build, st_fld, ev_t, ev_c, bump_f, setO_F, setO_H, putH, bump_H, putN, bump_N, setO_N, entry_N, entry_H, List.length_cons, List.length_nil, Nat.reduceAdd, Nat.zero_add, Nat.add_zero, b_lss, b_leq, b_gtr, b_geq, b_eql, b_neq, b_add, b_sub, b_mul, b_quo, b_rem, u_not, eqb_b, len_sl, len_asl, len_msl, List.length_map, onS_some, Bool.false_eq_true, Int.reduceEq, bump_f, setO_F, entry0, entry1, entry2, entry3, entry4, entry5, put_none, put_f, Nat.reduceEqDiff, ↓reduceIte, reduceCtorEq]
  all_goals try simp only [decide_eq_true_eq, decide_eq_false_iff_not] at *
  · refine post2 rfl (Or.inr rfl) ?_
    simp -implicitDefEqProofs only [bump_f, setO_F, entry0, entry1, entry2, entry3, entry4, entry5, put_none, put_f, Nat.reduceEqDiff, ↓reduceIte, reduceCtorEq]
    refine er_tup2 (er_int ?_) (er_int ?_)
    · unfold unpairF; rw [if_pos (by omega)]
    · unfold unpairF; rw [if_pos (by omega)]
  · obtain ⟨n, rfl⟩ : ∃ n : Nat, k = n := ⟨k.toNat, by omega⟩
    refine ewp_loopI (fun (t : Nat) s => tri t ≤ n ∧ s.f 0 = vi n ∧ s.f 4 = vi t) (fun t => 2000 - t) 0
      ⟨Nat.zero_le _, by simp only [put_f, bump_f, entry0, Nat.reduceEqDiff, ↓reduceIte], by simp only [put_f, bump_f, Nat.reduceEqDiff, ↓reduceIte]; rfl⟩ ?_
    intro t s ⟨ht, g0, g4⟩
    have htl : t ≤ 1998 := tri_small (by omega)
    have hsub : IntKind.i64.wrap ((n : Int) - tri t) = (n : Int) - tri t := wrap64 (by omega) (by omega)
    have hsub2 : IntKind.i64.wrap ((t : Int) - ((n : Int) - tri t)) = (t : Int) - ((n : Int) - tri t) := wrap64 (by omega) (by omega)
    repeat' with_reducible first
      | refine ewp_reg_seq ?_ | refine ewp_seq ?_ | refine ewp_reg ?_ | refine ewp_skip ?_ | refine ewp_ret ?_ | refine ewp_block ?_ | refine ewp_exit ?_ | refine xt_n ?_ | refine xt_r ?_ | refine xt_e ?_ | refine xb_n ?_ | refine xb_r ?_ | refine xb_e ?_ | refine xb_x (by decide) ?_
      | (refine ewp_if (by simp -implicitDefEqProofs only [ev_t, bump_f, setO_F, entry0, entry1, entry2, entry3, entry4, entry5, put_none, put_f, Nat.reduceEqDiff, ↓reduceIte, reduceCtorEq, g0, g4, tri_w1 htl, tri_w0 htl, hsub, hsub2, add1 (show t < 4611686018427387904 by omega)] <;> rfl) (fun h => ?_) (fun h => ?_) <;> (try simp only [Bool.not_false, Bool.not_true, Bool.not_eq_true', Bool.not_eq_false', Bool.true_eq_false, Bool.false_eq_true, reduceCtorEq] at h) <;> (try (exfalso; simp only [decide_eq_true_eq, decide_eq_false_iff_not] at h; omega)) <;> (try simp only [h]))
      | (refine L_gd' (by simp -implicitDefEqProofs only [bump_f, setO_F, entry0, entry1, entry2, entry3, entry4, entry5, put_none, put_f, Nat.reduceEqDiff, ↓reduceIte, reduceCtorEq, g0, g4, tri_w1 htl, tri_w0 htl, hsub, hsub2, add1 (show t < 4611686018427387904 by omega)] <;> rfl) (fun h => ?_) (fun h => ?_) <;> (try simp only [Bool.not_false, Bool.not_true, Bool.not_eq_true', Bool.not_eq_false', Bool.true_eq_false, Bool.false_eq_true, reduceCtorEq] at h) <;> (try (exfalso; simp only [decide_eq_true_eq, decide_eq_false_iff_not] at h; omega)) <;> (try simp only [h]))
      | simp -implicitDefEqProofs only [L_nil, L_none, st_mov, st_bin, st_pick, st_ext, st_len, st_lenS, st_lenc, st_un, st_eqb, st_conv, st_mkfn, st_build, st_fld, ev_t, ev_c, bump_f, setO_F, setO_H, putH, bump_H, putN, bump_N, setO_N, entry_N, entry_H, List.length_cons, List.length_nil, Nat.reduceAdd, Nat.zero_add, Nat.add_zero, b_lss, b_leq, b_gtr, b_geq, b_eql, b_neq, b_add, b_sub, b_mul, b_quo, b_rem, u_not, eqb_b, len_sl, len_asl, len_msl, List.length_map, onS_some, Bool.false_eq_true, Int.reduceEq, bump_f, setO_F, entry0, entry1, entry2, entry3, entry4, entry5, put_none, put_f, Nat.reduceEqDiff, ↓reduceIte, reduceCtorEq, g0, g4, tri_w1 htl, tri_w0 htl, hsub, hsub2, add1 (show t < 4611686018427387904 by omega)]
    all_goals try simp only [decide_eq_true_eq, decide_eq_false_iff_not] at *
    · exact ⟨t + 1, by omega, by omega, trivial, rfl⟩
    all_goals have hu : unS n = t := tri_uniq (unS_spec n).1 (unS_spec n).2 ht (by omega)
    all_goals have hun : unpairF n = if 999 < (n : Int) - tri t ∨ 999 < (t : Int) - ((n : Int) - tri t) then (-1, -1) else ((n : Int) - tri t, (t : Int) - ((n : Int) - tri t)) := (by unfold unpairF; rw [if_neg (by omega)]; simp only [Int.toNat_natCast, hu])
    · refine post2 rfl (Or.inr rfl) ?_
      simp -implicitDefEqProofs only [bump_f, setO_F, entry0, entry1, entry2, entry3, entry4, entry5, put_none, put_f, Nat.reduceEqDiff, ↓reduceIte, reduceCtorEq, hsub, hsub2]
      refine er_tup2 (er_int ?_) (er_int ?_)
      · rw [hun, if_pos (by omega)]
      · rw [hun, if_pos (by omega)]
    · refine post2 rfl (Or.inr rfl) ?_
      simp -implicitDefEqProofs only [bump_f, setO_F, entry0, entry1, entry2, entry3, entry4, entry5, put_none, put_f, Nat.reduceEqDiff, ↓reduceIte, reduceCtorEq, hsub, hsub2]
      refine er_tup2 (er_int ?_) (er_int ?_)
      · rw [hun, if_neg (by omega)]
      · rw [hun, if_neg (by omega)]
    · refine post2 rfl (Or.inr rfl) ?_
      simp -implicitDefEqProofs only [bump_f, setO_F, entry0, entry1, entry2, entry3, entry4, entry5, put_none, put_f, Nat.reduceEqDiff, ↓reduceIte, reduceCtorEq, hsub, hsub2]
      refine er_tup2 (er_int ?_) (er_int ?_)
      · rw [hun, if_pos (by omega)]
      · rw [hun, if_pos (by omega)]
  · refine post2 rfl (Or.inr rfl) ?_
    simp -implicitDefEqProofs only [bump_f, setO_F, entry0, entry1, entry2, entry3, entry4, entry5, put_none, put_f, Nat.reduceEqDiff, ↓reduceIte, reduceCtorEq]
    refine er_tup2 (er_int ?_) (er_int ?_)
    · unfold unpairF; rw [if_pos (by omega)]
    · unfold unpairF; rw [if_pos (by omega)]

/-- The number of which the bits are told. -/
def wd (m : Nat → Bool) : Nat → Nat
  | 0 => 0
  | n + 1 => wd m n ||| (if m n then 2 ^ n else 0)
theorem wd_bit (m : Nat → Bool) (n i : Nat) : (wd m n).testBit i = (decide (i < n) && m i) := by
  induction n with
  | zero => simp [wd]
  | succ n ih =>
    rw [wd, Nat.testBit_or, ih]
    by_cases hi : i = n
    · subst hi; cases h : m i <;> simp [h, Nat.testBit_two_pow]
    · have e : (if m n = true then 2 ^ n else 0).testBit i = false := by
        split
        · rw [Nat.testBit_two_pow]; simp; omega
        · simp
      rw [e]
      by_cases h2 : i < n
      · simp [h2, Nat.lt_succ_of_lt h2]
      · have h3 : ¬ i < n + 1 := by omega
        simp [h2, h3]
theorem wd_lt (m : Nat → Bool) (n : Nat) : wd m n < 2 ^ n := by
  induction n with
  | zero => simp [wd]
  | succ n ih =>
    rw [wd]
    refine Nat.or_lt_two_pow (Nat.lt_of_lt_of_le ih (Nat.pow_le_pow_right (by omega) (by omega))) ?_
    split
    · exact Nat.pow_lt_pow_right (by omega) (by omega)
    · exact Nat.two_pow_pos _
def word (m : Nat → Bool) (i : Nat) : Nat := wd (fun b => m (64 * i + b)) 64
theorem word_lt (m : Nat → Bool) (i : Nat) : word m i < 18446744073709551616 := wd_lt _ 64
theorem word_bit (m : Nat → Bool) (i b : Nat) (hb : b < 64) : (word m i).testBit b = m (64 * i + b) := by rw [word, wd_bit]; simp [hb]
theorem word_ext {m : Nat → Bool} {i x : Nat} (hx : x < 18446744073709551616) (h : ∀ b, b < 64 → x.testBit b = m (64 * i + b)) : x = word m i := by
  refine Nat.eq_of_testBit_eq fun b => ?_
  by_cases hb : b < 64
  · rw [h b hb, word_bit m i b hb]
  · rw [Nat.testBit_lt_two_pow (Nat.lt_of_lt_of_le (show x < 2 ^ 64 from hx) (Nat.pow_le_pow_right (by omega) (by omega))),
      Nat.testBit_lt_two_pow (Nat.lt_of_lt_of_le (show word m i < 2 ^ 64 from word_lt m i) (Nat.pow_le_pow_right (by omega) (by omega)))]
def cellsW (m : Nat → Bool) : List V := (List.range 16).map fun i => V.int .u64 (word m i : Int)
/-- A Set, of what it has. -/
abbrev setC (m : Nat → Bool) : V := .agg (cellsW m)
theorem cellsW_get (m : Nat → Bool) {i : Nat} (h : i < 16) : (cellsW m)[i]? = some (.int .u64 (word m i : Int)) := by simp [cellsW, h]
theorem cellsW_len (m : Nat → Bool) : (cellsW m).length = 16 := by simp [cellsW]
theorem word_none (i : Nat) : word (fun _ => false) i = 0 := (word_ext (by decide) (fun b _ => by simp)).symm
theorem cellsW_none : cellsW (fun _ => false) = [.int .u64 0, .int .u64 0, .int .u64 0, .int .u64 0, .int .u64 0, .int .u64 0, .int .u64 0, .int .u64 0, .int .u64 0, .int .u64 0, .int .u64 0, .int .u64 0, .int .u64 0, .int .u64 0, .int .u64 0, .int .u64 0] := by
  unfold cellsW
  simp only [word_none]
  rfl
theorem cellsW_set (m : Nat → Bool) {x : Nat} (h : x < 1024) :
    (cellsW m).set (x / 64) (.int .u64 ((word m (x / 64) ||| 2 ^ (x % 64) : Nat) : Int)) = cellsW (fun y => m y || decide (y = x)) := by
  refine List.ext_getElem? fun i => ?_
  rw [List.getElem?_set]
  by_cases hi : i < 16
  · rw [cellsW_get _ hi, cellsW_get _ hi, cellsW_len]
    split
    · rename_i e
      rw [if_pos (by omega)]
      congr 3
      subst e
      refine word_ext (Nat.or_lt_two_pow (n := 64) (word_lt m _) (Nat.pow_lt_pow_right (by omega) (Nat.mod_lt _ (by omega)))) fun b hb => ?_
      rw [Nat.testBit_or, word_bit _ _ _ hb, Nat.testBit_two_pow]
      congr 1
      rw [decide_eq_decide]; omega
    · rename_i e
      congr 3
      refine word_ext (word_lt m i) fun b hb => ?_
      rw [word_bit _ _ _ hb]
      have : ¬ (64 * i + b = x) := by omega
      simp [this]
  · rw [if_neg (by omega), List.getElem?_eq_none (by rw [cellsW_len]; omega), List.getElem?_eq_none (by rw [cellsW_len]; omega)]
theorem quo64 (n : Nat) (h : n < 1024) : IntKind.i64.wrap ((n : Int).tdiv 64) = ((n / 64 : Nat) : Int) := by
  rw [Int.tdiv_eq_ediv_of_nonneg (by omega), wrap64 (by omega) (by omega)]; simp
theorem rem64 (n : Nat) : (n : Int).tmod 64 = ((n % 64 : Nat) : Int) := by
  rw [Int.tmod_eq_emod_of_nonneg (by omega)]; simp

theorem bits_Set_Has {m : Nat → Bool} {x : Int}  : Pure Tryd.prog 15 [setC m, vi x] (.bool (decide (0 ≤ x) && decide (x < 1024) && m x.toNat)) := by
  refine pure_intro Tryd.func15 e15_nm e15_ok (by show 2 ≤ 19; decide) ?_
  show ewp _ e15n3 _ _
  repeat' with_reducible first
    | refine ewp_reg_seq ?_ | refine ewp_seq ?_ | refine ewp_reg ?_ | refine ewp_skip ?_ | refine ewp_ret ?_ | refine ewp_block ?_ | refine ewp_exit ?_ | refine xt_n ?_ | refine xt_r ?_ | refine xt_e ?_ | refine xb_n ?_ | refine xb_r ?_ | refine xb_e ?_ | refine xb_x (by decide) ?_
    | (refine ewp_if (by simp -implicitDefEqProofs only [ev_t, bump_f, setO_F, entry0, entry1, entry2, entry3, entry4, entry5, put_none, put_f, Nat.reduceEqDiff, ↓reduceIte, reduceCtorEq, st_box] <;> rfl) (fun h => ?_) (fun h => ?_) <;> (try simp only [Bool.not_false, Bool.not_true, Bool.not_eq_true', Bool.not_eq_false', Bool.true_eq_false, Bool.false_eq_true, reduceCtorEq] at h) <;> (try (exfalso; simp only [decide_eq_true_eq, decide_eq_false_iff_not] at h; omega)) <;> (try simp only [h]))
    | (refine L_gd' (by simp -implicitDefEqProofs only [bump_f, setO_F, entry0, entry1, entry2, entry3, entry4, entry5, put_none, put_f, Nat.reduceEqDiff, ↓reduceIte, reduceCtorEq, st_box] <;> rfl) (fun h => ?_) (fun h => ?_) <;> (try simp only [Bool.not_false, Bool.not_true, Bool.not_eq_true', Bool.not_eq_false', Bool.true_eq_false, Bool.false_eq_true, reduceCtorEq] at h) <;> (try (exfalso; simp only [decide_eq_true_eq, decide_eq_false_iff_not] at h; omega)) <;> (try simp only [h]))
    | simp -implicitDefEqProofs only [L_nil, L_none, st_mov, st_bin, st_pick, st_ext, st_len, st_lenS, st_lenc, st_un, st_eqb, st_conv, st_mkfn, st_build, st_fld, ev_t, ev_c, bump_f, setO_F, setO_H, putH, bump_H, putN, bump_N, setO_N, entry_N, entry_H, List.length_cons, List.length_nil, Nat.reduceAdd, Nat.zero_add, Nat.add_zero, b_lss, b_leq, b_gtr, b_geq, b_eql, b_neq, b_add, b_sub, b_mul, b_quo, b_rem, u_not, eqb_b, len_sl, len_asl, len_msl, List.length_map, onS_some, Bool.false_eq_true, Int.reduceEq, bump_f, setO_F, entry0, entry1, entry2, entry3, entry4, entry5, put_none, put_f, Nat.reduceEqDiff, ↓reduceIte, reduceCtorEq, st_box]
  refine ⟨cellsW_len m, rfl, ?_⟩
  repeat' with_reducible first
    | refine ewp_reg_seq ?_ | refine ewp_seq ?_ | refine ewp_reg ?_ | refine ewp_skip ?_ | refine ewp_ret ?_ | refine ewp_block ?_ | refine ewp_exit ?_ | refine xt_n ?_ | refine xt_r ?_ | refine xt_e ?_ | refine xb_n ?_ | refine xb_r ?_ | refine xb_e ?_ | refine xb_x (by decide) ?_
    | (refine ewp_if (by simp -implicitDefEqProofs only [ev_t, bump_f, setO_F, entry0, entry1, entry2, entry3, entry4, entry5, put_none, put_f, Nat.reduceEqDiff, ↓reduceIte, reduceCtorEq] <;> rfl) (fun h => ?_) (fun h => ?_) <;> (try simp only [Bool.not_false, Bool.not_true, Bool.not_eq_true', Bool.not_eq_false', Bool.true_eq_false, Bool.false_eq_true, reduceCtorEq] at h) <;> (try (exfalso; simp only [decide_eq_true_eq, decide_eq_false_iff_not] at h; omega)) <;> (try simp only [h]))
    | (refine L_gd' (by simp -implicitDefEqProofs only [bump_f, setO_F, entry0, entry1, entry2, entry3, entry4, entry5, put_none, put_f, Nat.reduceEqDiff, ↓reduceIte, reduceCtorEq] <;> rfl) (fun h => ?_) (fun h => ?_) <;> (try simp only [Bool.not_false, Bool.not_true, Bool.not_eq_true', Bool.not_eq_false', Bool.true_eq_false, Bool.false_eq_true, reduceCtorEq] at h) <;> (try (exfalso; simp only [decide_eq_true_eq, decide_eq_false_iff_not] at h; omega)) <;> (try simp only [h]))
    | simp -implicitDefEqProofs only [L_nil, L_none, st_mov, st_bin, st_pick, st_ext, st_len, st_lenS, st_lenc, st_un, st_eqb, st_conv, st_mkfn, st_build, st_fld, ev_t, ev_c, bump_f, setO_F, setO_H, putH, bump_H, putN, bump_N, setO_N, entry_N, entry_H, List.length_cons, List.length_nil, Nat.reduceAdd, Nat.zero_add, Nat.add_zero, b_lss, b_leq, b_gtr, b_geq, b_eql, b_neq, b_add, b_sub, b_mul, b_quo, b_rem, u_not, eqb_b, len_sl, len_asl, len_msl, List.length_map, onS_some, Bool.false_eq_true, Int.reduceEq, bump_f, setO_F, entry0, entry1, entry2, entry3, entry4, entry5, put_none, put_f, Nat.reduceEqDiff, ↓reduceIte, reduceCtorEq]
  refine st_call1 (by simp only [put_f, ev_t, Nat.reduceEqDiff, ↓reduceIte] <;> rfl) (er_int rfl) (bits_fits) ?_
  by_cases hx : 0 ≤ x ∧ x < 1024
  · obtain ⟨n, rfl⟩ : ∃ n : Nat, x = n := ⟨x.toNat, by omega⟩
    have hn : n < 1024 := by omega
    have e1 : (decide (0 ≤ (n : Int)) && decide ((n : Int) < 1024)) = true := by simp; omega
    have hd : n / 64 < 16 := by omega
    have hm : n % 64 < 64 := by omega
    simp only [e1]
    have hv : word m (n / 64) / 2 ^ (n % 64) < 18446744073709551616 := Nat.lt_of_le_of_lt (Nat.div_le_self _ _) (word_lt m _)
    repeat' with_reducible first
      | refine ewp_reg_seq ?_ | refine ewp_seq ?_ | refine ewp_reg ?_ | refine ewp_skip ?_ | refine ewp_ret ?_ | refine ewp_block ?_ | refine ewp_exit ?_ | refine xt_n ?_ | refine xt_r ?_ | refine xt_e ?_ | refine xb_n ?_ | refine xb_r ?_ | refine xb_e ?_ | refine xb_x (by decide) ?_
      | (refine ewp_if (by simp -implicitDefEqProofs only [ev_t, bump_f, setO_F, entry0, entry1, entry2, entry3, entry4, entry5, put_none, put_f, Nat.reduceEqDiff, ↓reduceIte, reduceCtorEq, st_fa, fa_ptr, st_iaA, iaA_ptr hd, quo64 n hn, rem64 n, st_load, Nat.mul_one, u_shr hm, u_and (y := 1) hv (by omega)] <;> rfl) (fun h => ?_) (fun h => ?_) <;> (try simp only [Bool.not_false, Bool.not_true, Bool.not_eq_true', Bool.not_eq_false', Bool.true_eq_false, Bool.false_eq_true, reduceCtorEq] at h) <;> (try (exfalso; simp only [decide_eq_true_eq, decide_eq_false_iff_not] at h; omega)) <;> (try simp only [h]))
      | (refine L_gd' (by simp -implicitDefEqProofs only [bump_f, setO_F, entry0, entry1, entry2, entry3, entry4, entry5, put_none, put_f, Nat.reduceEqDiff, ↓reduceIte, reduceCtorEq, st_fa, fa_ptr, st_iaA, iaA_ptr hd, quo64 n hn, rem64 n, st_load, Nat.mul_one, u_shr hm, u_and (y := 1) hv (by omega)] <;> rfl) (fun h => ?_) (fun h => ?_) <;> (try simp only [Bool.not_false, Bool.not_true, Bool.not_eq_true', Bool.not_eq_false', Bool.true_eq_false, Bool.false_eq_true, reduceCtorEq] at h) <;> (try (exfalso; simp only [decide_eq_true_eq, decide_eq_false_iff_not] at h; omega)) <;> (try simp only [h]))
      | refine onS_i (ld_cell (by simp -implicitDefEqProofs only [putH, bump_H, setO_H, entry_H, bump_f, setO_F, entry0, entry1, entry2, entry3, entry4, entry5, put_none, put_f, Nat.reduceEqDiff, ↓reduceIte, reduceCtorEq, st_fa, fa_ptr, st_iaA, iaA_ptr hd, quo64 n hn, rem64 n, st_load, Nat.mul_one, u_shr hm, u_and (y := 1) hv (by omega)] <;> rfl) (Or.inr trivial) (cellsW_get m hd)) ?_
      | refine onS_i (u_and (y := 1) hv (by omega)) ?_
      | simp -implicitDefEqProofs only [L_nil, L_none, st_mov, st_bin, st_pick, st_ext, st_len, st_lenS, st_lenc, st_un, st_eqb, st_conv, st_mkfn, st_build, st_fld, ev_t, ev_c, bump_f, setO_F, setO_H, putH, bump_H, putN, bump_N, setO_N, entry_N, entry_H, List.length_cons, List.length_nil, Nat.reduceAdd, Nat.zero_add, Nat.add_zero, b_lss, b_leq, b_gtr, b_geq, b_eql, b_neq, b_add, b_sub, b_mul, b_quo, b_rem, u_not, eqb_b, len_sl, len_asl, len_msl, List.length_map, onS_some, Bool.false_eq_true, Int.reduceEq, bump_f, setO_F, entry0, entry1, entry2, entry3, entry4, entry5, put_none, put_f, Nat.reduceEqDiff, ↓reduceIte, reduceCtorEq, st_fa, fa_ptr, st_iaA, iaA_ptr hd, quo64 n hn, rem64 n, st_load, Nat.mul_one, u_shr hm, u_and (y := 1) hv (by omega)]
    refine post1 rfl (Or.inr rfl) ?_
    simp -implicitDefEqProofs only [bump_f, setO_F, entry0, entry1, entry2, entry3, entry4, entry5, put_none, put_f, Nat.reduceEqDiff, ↓reduceIte, reduceCtorEq]
    refine er_bool ?_
    try simp only [Bool.true_and, Int.toNat_natCast]
    have e2 := word_bit m (n / 64) (n % 64) hm
    rw [show 64 * (n / 64) + n % 64 = n by omega] at e2
    rw [← e2, Nat.testBit_eq_decide_div_mod_eq, Nat.and_one_is_mod]
    rw [decide_eq_decide]; omega
  · have e1 : (decide (0 ≤ x) && decide (x < 1024)) = false := by simp; omega
    simp only [e1]
    repeat' with_reducible first
      | refine ewp_reg_seq ?_ | refine ewp_seq ?_ | refine ewp_reg ?_ | refine ewp_skip ?_ | refine ewp_ret ?_ | refine ewp_block ?_ | refine ewp_exit ?_ | refine xt_n ?_ | refine xt_r ?_ | refine xt_e ?_ | refine xb_n ?_ | refine xb_r ?_ | refine xb_e ?_ | refine xb_x (by decide) ?_
      | (refine ewp_if (by simp -implicitDefEqProofs only [ev_t, bump_f, setO_F, entry0, entry1, entry2, entry3, entry4, entry5, put_none, put_f, Nat.reduceEqDiff, ↓reduceIte, reduceCtorEq] <;> rfl) (fun h => ?_) (fun h => ?_) <;> (try simp only [Bool.not_false, Bool.not_true, Bool.not_eq_true', Bool.not_eq_false', Bool.true_eq_false, Bool.false_eq_true, reduceCtorEq] at h) <;> (try (exfalso; simp only [decide_eq_true_eq, decide_eq_false_iff_not] at h; omega)) <;> (try simp only [h]))
      | (refine L_gd' (by simp -implicitDefEqProofs only [bump_f, setO_F, entry0, entry1, entry2, entry3, entry4, entry5, put_none, put_f, Nat.reduceEqDiff, ↓reduceIte, reduceCtorEq] <;> rfl) (fun h => ?_) (fun h => ?_) <;> (try simp only [Bool.not_false, Bool.not_true, Bool.not_eq_true', Bool.not_eq_false', Bool.true_eq_false, Bool.false_eq_true, reduceCtorEq] at h) <;> (try (exfalso; simp only [decide_eq_true_eq, decide_eq_false_iff_not] at h; omega)) <;> (try simp only [h]))
      | simp -implicitDefEqProofs only [L_nil, L_none, st_mov, st_bin, st_pick, st_ext, st_len, st_lenS, st_lenc, st_un, st_eqb, st_conv, st_mkfn, st_build, st_fld, ev_t, ev_c, bump_f, setO_F, setO_H, putH, bump_H, putN, bump_N, setO_N, entry_N, entry_H, List.length_cons, List.length_nil, Nat.reduceAdd, Nat.zero_add, Nat.add_zero, b_lss, b_leq, b_gtr, b_geq, b_eql, b_neq, b_add, b_sub, b_mul, b_quo, b_rem, u_not, eqb_b, len_sl, len_asl, len_msl, List.length_map, onS_some, Bool.false_eq_true, Int.reduceEq, bump_f, setO_F, entry0, entry1, entry2, entry3, entry4, entry5, put_none, put_f, Nat.reduceEqDiff, ↓reduceIte, reduceCtorEq]
    refine post1 rfl (Or.inr rfl) ?_
    simp -implicitDefEqProofs only [bump_f, setO_F, entry0, entry1, entry2, entry3, entry4, entry5, put_none, put_f, Nat.reduceEqDiff, ↓reduceIte, reduceCtorEq]
    refine er_bool ?_
    simp

/-- Which numbers of a list a Set takes. -/
def memS (l : List Int) (y : Nat) : Bool := decide (y < 1024) && decide ((y : Int) ∈ l)
theorem memS_nil : memS [] = fun _ => false := by funext y; simp [memS]

theorem bits_Of {l : List Int} (hl : l.length < 4611686018427387904) : Pure Tryd.prog 11 [ints l] (setC (memS l)) := by
  refine pure_intro Tryd.func11 e11_nm e11_ok (by show 1 ≤ 27; decide) ?_
  show ewp _ e11n23 _ _
  repeat' with_reducible first
    | refine ewp_reg_seq ?_ | refine ewp_seq ?_ | refine ewp_reg ?_ | refine ewp_skip ?_ | refine ewp_ret ?_ | refine ewp_block ?_ | refine ewp_exit ?_ | refine xt_n ?_ | refine xt_r ?_ | refine xt_e ?_ | refine xb_n ?_ | refine xb_r ?_ | refine xb_e ?_ | refine xb_x (by decide) ?_
    | (refine ewp_if (by simp -implicitDefEqProofs only [ev_t, bump_f, setO_F, entry0, entry1, entry2, entry3, entry4, entry5, put_none, put_f, Nat.reduceEqDiff, ↓reduceIte, reduceCtorEq, st_alloc] <;> rfl) (fun h => ?_) (fun h => ?_) <;> (try simp only [Bool.not_false, Bool.not_true, Bool.not_eq_true', Bool.not_eq_false', Bool.true_eq_false, Bool.false_eq_true, reduceCtorEq] at h) <;> (try (exfalso; simp only [decide_eq_true_eq, decide_eq_false_iff_not] at h; omega)) <;> (try simp only [h]))
    | (refine L_gd' (by simp -implicitDefEqProofs only [bump_f, setO_F, entry0, entry1, entry2, entry3, entry4, entry5, put_none, put_f, Nat.reduceEqDiff, ↓reduceIte, reduceCtorEq, st_alloc] <;> rfl) (fun h => ?_) (fun h => ?_) <;> (try simp only [Bool.not_false, Bool.not_true, Bool.not_eq_true', Bool.not_eq_false', Bool.true_eq_false, Bool.false_eq_true, reduceCtorEq] at h) <;> (try (exfalso; simp only [decide_eq_true_eq, decide_eq_false_iff_not] at h; omega)) <;> (try simp only [h]))
    | simp -implicitDefEqProofs only [L_nil, L_none, st_mov, st_bin, st_pick, st_ext, st_len, st_lenS, st_lenc, st_un, st_eqb, st_conv, st_mkfn, st_build, st_fld, ev_t, ev_c, bump_f, setO_F, setO_H, putH, bump_H, putN, bump_N, setO_N, entry_N, entry_H, List.length_cons, List.length_nil, Nat.reduceAdd, Nat.zero_add, Nat.add_zero, b_lss, b_leq, b_gtr, b_geq, b_eql, b_neq, b_add, b_sub, b_mul, b_quo, b_rem, u_not, eqb_b, len_sl, len_asl, len_msl, List.length_map, onS_some, Bool.false_eq_true, Int.reduceEq, bump_f, setO_F, entry0, entry1, entry2, entry3, entry4, entry5, put_none, put_f, Nat.reduceEqDiff, ↓reduceIte, reduceCtorEq, st_alloc]
  refine ewp_loopI (fun (k : Nat) s => k ≤ l.length ∧ s.f 6 = ints l ∧ s.f 7 = vi l.length ∧ s.f 8 = vi k ∧ s.f 2 = .ptr 0 0 0 ∧ s.f 3 = .ptr 1 0 0 ∧ s.H 0 = some (.own 16 [.agg (cellsW fun _ => false)] false) ∧ s.H 1 = some (.own 16 [setC (memS (l.take k))] false)) (fun k => l.length - k) 0 ?_ ?_
  · simp only [putH, bump_H, setO_H, setO_F, put_f, bump_f, entry0, Nat.reduceEqDiff, ↓reduceIte, Nat.zero_le, List.take_zero, memS_nil, cellsW_none]
    exact ⟨trivial, trivial, trivial, rfl, trivial, trivial, trivial, (by show _ = some (MObj.own 16 [.agg (cellsW fun _ => false)] false); rw [cellsW_none])⟩
  intro k s ⟨hk, h6, h7, h8, h2, h3, hH0, hH1⟩
  by_cases hlt : k < l.length
  · have ea : l[k]? = some l[k] := List.getElem?_eq_getElem hlt
    have et : l.take (k + 1) = l.take k ++ [l[k]] := by rw [List.take_add_one, ea]; rfl
    generalize l[k] = x at ea et
    by_cases hx : 0 ≤ x ∧ x < 1024
    · obtain ⟨n, rfl⟩ : ∃ n : Nat, x = n := ⟨x.toNat, by omega⟩
      have hn : n < 1024 := by omega
      have hd : n / 64 < 16 := by omega
      have hm : n % 64 < 64 := by omega
      have hp : 2 ^ (n % 64) < 18446744073709551616 := (Nat.pow_lt_pow_right (by omega) hm : 2 ^ (n % 64) < 2 ^ 64)
      repeat' with_reducible first
        | refine ewp_reg_seq ?_ | refine ewp_seq ?_ | refine ewp_reg ?_ | refine ewp_skip ?_ | refine ewp_ret ?_ | refine ewp_block ?_ | refine ewp_exit ?_ | refine xt_n ?_ | refine xt_r ?_ | refine xt_e ?_ | refine xb_n ?_ | refine xb_r ?_ | refine xb_e ?_ | refine xb_x (by decide) ?_
        | (refine ewp_if (by simp -implicitDefEqProofs only [ev_t, bump_f, setO_F, entry0, entry1, entry2, entry3, entry4, entry5, put_none, put_f, Nat.reduceEqDiff, ↓reduceIte, reduceCtorEq, h2, h3, h6, h7, h8, st_ia, st_load, ia_sl (getE_map ea), ld_i1, st_fa, fa_ptr, st_iaA, iaA_ptr hd, quo64 n hn, rem64 n, Nat.mul_one, u_shl hm, add1 (show k < 4611686018427387904 by omega), hH1, hH0, st_store] <;> rfl) (fun h => ?_) (fun h => ?_) <;> (try simp only [Bool.not_false, Bool.not_true, Bool.not_eq_true', Bool.not_eq_false', Bool.true_eq_false, Bool.false_eq_true, reduceCtorEq] at h) <;> (try (exfalso; simp only [decide_eq_true_eq, decide_eq_false_iff_not] at h; omega)) <;> (try simp only [h]))
        | (refine L_gd' (by simp -implicitDefEqProofs only [bump_f, setO_F, entry0, entry1, entry2, entry3, entry4, entry5, put_none, put_f, Nat.reduceEqDiff, ↓reduceIte, reduceCtorEq, h2, h3, h6, h7, h8, st_ia, st_load, ia_sl (getE_map ea), ld_i1, st_fa, fa_ptr, st_iaA, iaA_ptr hd, quo64 n hn, rem64 n, Nat.mul_one, u_shl hm, add1 (show k < 4611686018427387904 by omega), hH1, hH0, st_store] <;> rfl) (fun h => ?_) (fun h => ?_) <;> (try simp only [Bool.not_false, Bool.not_true, Bool.not_eq_true', Bool.not_eq_false', Bool.true_eq_false, Bool.false_eq_true, reduceCtorEq] at h) <;> (try (exfalso; simp only [decide_eq_true_eq, decide_eq_false_iff_not] at h; omega)) <;> (try simp only [h]))
        | refine st_call1 (by simp -implicitDefEqProofs only [ev_t, ev_c, bump_f, setO_F, entry0, entry1, entry2, entry3, entry4, entry5, put_none, put_f, Nat.reduceEqDiff, ↓reduceIte, reduceCtorEq, h2, h3, h6, h7, h8, st_ia, st_load, ia_sl (getE_map ea), ld_i1, st_fa, fa_ptr, st_iaA, iaA_ptr hd, quo64 n hn, rem64 n, Nat.mul_one, u_shl hm, add1 (show k < 4611686018427387904 by omega), hH1, hH0, st_store] <;> rfl) (er_int rfl) (bits_fits) ?_
        | refine onS_i (ld_cell (by simp -implicitDefEqProofs only [putH, bump_H, setO_H, entry_H, bump_f, setO_F, entry0, entry1, entry2, entry3, entry4, entry5, put_none, put_f, Nat.reduceEqDiff, ↓reduceIte, reduceCtorEq, h2, h3, h6, h7, h8, st_ia, st_load, ia_sl (getE_map ea), ld_i1, st_fa, fa_ptr, st_iaA, iaA_ptr hd, quo64 n hn, rem64 n, Nat.mul_one, u_shl hm, add1 (show k < 4611686018427387904 by omega), hH1, hH0, st_store] <;> rfl) (Or.inr trivial) (cellsW_get _ hd)) ?_
        | refine onS_i (u_or (word_lt _ _) hp) ?_
        | refine onS_i (sto_cell (by simp -implicitDefEqProofs only [putH, bump_H, setO_H, entry_H, bump_f, setO_F, entry0, entry1, entry2, entry3, entry4, entry5, put_none, put_f, Nat.reduceEqDiff, ↓reduceIte, reduceCtorEq, h2, h3, h6, h7, h8, st_ia, st_load, ia_sl (getE_map ea), ld_i1, st_fa, fa_ptr, st_iaA, iaA_ptr hd, quo64 n hn, rem64 n, Nat.mul_one, u_shl hm, add1 (show k < 4611686018427387904 by omega), hH1, hH0, st_store] <;> rfl) rfl rfl rfl (by rw [cellsW_len]; exact hd)) ?_
        | simp -implicitDefEqProofs only [L_nil, L_none, st_mov, st_bin, st_pick, st_ext, st_len, st_lenS, st_lenc, st_un, st_eqb, st_conv, st_mkfn, st_build, st_fld, ev_t, ev_c, bump_f, setO_F, setO_H, putH, bump_H, putN, bump_N, setO_N, entry_N, entry_H, List.length_cons, List.length_nil, Nat.reduceAdd, Nat.zero_add, Nat.add_zero, b_lss, b_leq, b_gtr, b_geq, b_eql, b_neq, b_add, b_sub, b_mul, b_quo, b_rem, u_not, eqb_b, len_sl, len_asl, len_msl, List.length_map, onS_some, Bool.false_eq_true, Int.reduceEq, bump_f, setO_F, entry0, entry1, entry2, entry3, entry4, entry5, put_none, put_f, Nat.reduceEqDiff, ↓reduceIte, reduceCtorEq, h2, h3, h6, h7, h8, st_ia, st_load, ia_sl (getE_map ea), ld_i1, st_fa, fa_ptr, st_iaA, iaA_ptr hd, quo64 n hn, rem64 n, Nat.mul_one, u_shl hm, add1 (show k < 4611686018427387904 by omega), hH1, hH0, st_store]
      · refine ⟨k + 1, by omega, by omega, trivial, trivial, rfl, trivial, trivial, trivial, ?_⟩
        rw [cellsW_set _ hn, et]
        have hs : (fun y => memS (l.take k) y || decide (y = n)) = memS (l.take k ++ [(n : Int)]) := by
          funext y
          unfold memS
          by_cases hy : y < 1024
          · have e : decide ((y : Int) = (n : Int)) = decide (y = n) := by rw [decide_eq_decide]; omega
            simp only [hy, decide_true, Bool.true_and, List.mem_append, List.mem_singleton, Bool.decide_or, e]
          · have : ¬ y = n := by omega
            simp [hy, this]
        rw [hs]
      · exfalso; simp at h; omega
    · have hs : memS (l.take (k + 1)) = memS (l.take k) := by
        funext y
        rw [et]; unfold memS
        by_cases hy : y < 1024
        · have : ¬ ((y : Int) = x) := by omega
          simp [this]
        · simp [hy]
      repeat' with_reducible first
        | refine ewp_reg_seq ?_ | refine ewp_seq ?_ | refine ewp_reg ?_ | refine ewp_skip ?_ | refine ewp_ret ?_ | refine ewp_block ?_ | refine ewp_exit ?_ | refine xt_n ?_ | refine xt_r ?_ | refine xt_e ?_ | refine xb_n ?_ | refine xb_r ?_ | refine xb_e ?_ | refine xb_x (by decide) ?_
        | (refine ewp_if (by simp -implicitDefEqProofs only [ev_t, bump_f, setO_F, entry0, entry1, entry2, entry3, entry4, entry5, put_none, put_f, Nat.reduceEqDiff, ↓reduceIte, reduceCtorEq, h2, h3, h6, h7, h8, st_ia, st_load, ia_sl (getE_map ea), ld_i1, add1 (show k < 4611686018427387904 by omega)] <;> rfl) (fun h => ?_) (fun h => ?_) <;> (try simp only [Bool.not_false, Bool.not_true, Bool.not_eq_true', Bool.not_eq_false', Bool.true_eq_false, Bool.false_eq_true, reduceCtorEq] at h) <;> (try (exfalso; simp only [decide_eq_true_eq, decide_eq_false_iff_not] at h; omega)) <;> (try simp only [h]))
        | (refine L_gd' (by simp -implicitDefEqProofs only [bump_f, setO_F, entry0, entry1, entry2, entry3, entry4, entry5, put_none, put_f, Nat.reduceEqDiff, ↓reduceIte, reduceCtorEq, h2, h3, h6, h7, h8, st_ia, st_load, ia_sl (getE_map ea), ld_i1, add1 (show k < 4611686018427387904 by omega)] <;> rfl) (fun h => ?_) (fun h => ?_) <;> (try simp only [Bool.not_false, Bool.not_true, Bool.not_eq_true', Bool.not_eq_false', Bool.true_eq_false, Bool.false_eq_true, reduceCtorEq] at h) <;> (try (exfalso; simp only [decide_eq_true_eq, decide_eq_false_iff_not] at h; omega)) <;> (try simp only [h]))
        | refine st_call1 (by simp -implicitDefEqProofs only [ev_t, ev_c, bump_f, setO_F, entry0, entry1, entry2, entry3, entry4, entry5, put_none, put_f, Nat.reduceEqDiff, ↓reduceIte, reduceCtorEq, h2, h3, h6, h7, h8, st_ia, st_load, ia_sl (getE_map ea), ld_i1, add1 (show k < 4611686018427387904 by omega)] <;> rfl) (er_int rfl) (bits_fits) ?_
        | simp -implicitDefEqProofs only [L_nil, L_none, st_mov, st_bin, st_pick, st_ext, st_len, st_lenS, st_lenc, st_un, st_eqb, st_conv, st_mkfn, st_build, st_fld, ev_t, ev_c, bump_f, setO_F, setO_H, putH, bump_H, putN, bump_N, setO_N, entry_N, entry_H, List.length_cons, List.length_nil, Nat.reduceAdd, Nat.zero_add, Nat.add_zero, b_lss, b_leq, b_gtr, b_geq, b_eql, b_neq, b_add, b_sub, b_mul, b_quo, b_rem, u_not, eqb_b, len_sl, len_asl, len_msl, List.length_map, onS_some, Bool.false_eq_true, Int.reduceEq, bump_f, setO_F, entry0, entry1, entry2, entry3, entry4, entry5, put_none, put_f, Nat.reduceEqDiff, ↓reduceIte, reduceCtorEq, h2, h3, h6, h7, h8, st_ia, st_load, ia_sl (getE_map ea), ld_i1, add1 (show k < 4611686018427387904 by omega)]
      · exfalso; simp at h; omega
      · exact ⟨k + 1, by omega, by omega, trivial, trivial, rfl, trivial, trivial, hH0, by rw [hs]; exact hH1⟩
  · repeat' with_reducible first
      | refine ewp_reg_seq ?_ | refine ewp_seq ?_ | refine ewp_reg ?_ | refine ewp_skip ?_ | refine ewp_ret ?_ | refine ewp_block ?_ | refine ewp_exit ?_ | refine xt_n ?_ | refine xt_r ?_ | refine xt_e ?_ | refine xb_n ?_ | refine xb_r ?_ | refine xb_e ?_ | refine xb_x (by decide) ?_
      | (refine ewp_if (by simp -implicitDefEqProofs only [ev_t, bump_f, setO_F, entry0, entry1, entry2, entry3, entry4, entry5, put_none, put_f, Nat.reduceEqDiff, ↓reduceIte, reduceCtorEq, h2, h3, h6, h7, h8, hH0, hH1, st_load, st_store] <;> rfl) (fun h => ?_) (fun h => ?_) <;> (try simp only [Bool.not_false, Bool.not_true, Bool.not_eq_true', Bool.not_eq_false', Bool.true_eq_false, Bool.false_eq_true, reduceCtorEq] at h) <;> (try (exfalso; simp only [decide_eq_true_eq, decide_eq_false_iff_not] at h; omega)) <;> (try simp only [h]))
      | (refine L_gd' (by simp -implicitDefEqProofs only [bump_f, setO_F, entry0, entry1, entry2, entry3, entry4, entry5, put_none, put_f, Nat.reduceEqDiff, ↓reduceIte, reduceCtorEq, h2, h3, h6, h7, h8, hH0, hH1, st_load, st_store] <;> rfl) (fun h => ?_) (fun h => ?_) <;> (try simp only [Bool.not_false, Bool.not_true, Bool.not_eq_true', Bool.not_eq_false', Bool.true_eq_false, Bool.false_eq_true, reduceCtorEq] at h) <;> (try (exfalso; simp only [decide_eq_true_eq, decide_eq_false_iff_not] at h; omega)) <;> (try simp only [h]))
      | refine onS_i (ld_whole (by simp -implicitDefEqProofs only [putH, bump_H, setO_H, entry_H, bump_f, setO_F, entry0, entry1, entry2, entry3, entry4, entry5, put_none, put_f, Nat.reduceEqDiff, ↓reduceIte, reduceCtorEq, h2, h3, h6, h7, h8, hH0, hH1, st_load, st_store] <;> rfl)) ?_
      | refine onS_i (sto_whole (by simp -implicitDefEqProofs only [putH, bump_H, setO_H, entry_H, bump_f, setO_F, entry0, entry1, entry2, entry3, entry4, entry5, put_none, put_f, Nat.reduceEqDiff, ↓reduceIte, reduceCtorEq, h2, h3, h6, h7, h8, hH0, hH1, st_load, st_store] <;> rfl) rfl (cellsW_len _)) ?_
      | simp -implicitDefEqProofs only [L_nil, L_none, st_mov, st_bin, st_pick, st_ext, st_len, st_lenS, st_lenc, st_un, st_eqb, st_conv, st_mkfn, st_build, st_fld, ev_t, ev_c, bump_f, setO_F, setO_H, putH, bump_H, putN, bump_N, setO_N, entry_N, entry_H, List.length_cons, List.length_nil, Nat.reduceAdd, Nat.zero_add, Nat.add_zero, b_lss, b_leq, b_gtr, b_geq, b_eql, b_neq, b_add, b_sub, b_mul, b_quo, b_rem, u_not, eqb_b, len_sl, len_asl, len_msl, List.length_map, onS_some, Bool.false_eq_true, Int.reduceEq, bump_f, setO_F, entry0, entry1, entry2, entry3, entry4, entry5, put_none, put_f, Nat.reduceEqDiff, ↓reduceIte, reduceCtorEq, h2, h3, h6, h7, h8, hH0, hH1, st_load, st_store]
    rw [List.take_of_length_le (by omega)]
    refine postL (t := 2) rfl (Or.inr rfl) (v := setC (memS l)) ?_ (er_agg fun x hx => ?_)
    · simp only [put_none, put_f, bump_f, setO_F, h2, Nat.reduceEqDiff, ↓reduceIte]
      refine ld_whole (ro := false) ?_
      simp only [putH, setO_H, ↓reduceIte]
    · obtain ⟨i, _, rfl⟩ := List.mem_map.1 hx
      exact .int _ _
end Go.Proofs


namespace Go.Proofs
open Go.E

instance (m : Nat → Bool) : Cls' (cellsW m) := inferInstanceAs (Cls' (List.map _ _))
theorem cellsW_upd {m m' : Nat → Bool} {i x : Nat} (hi : i < 16) (hx : x < 18446744073709551616) (h1 : ∀ b, b < 64 → x.testBit b = m' (64 * i + b)) (h2 : ∀ y, y / 64 ≠ i → m' y = m y) :
    (cellsW m).set i (.int .u64 (x : Int)) = cellsW m' := by
  refine List.ext_getElem? fun j => ?_
  rw [List.getElem?_set]
  by_cases hj : j < 16
  · rw [cellsW_get _ hj, cellsW_get _ hj, cellsW_len]
    split
    · rename_i e
      subst e
      rw [word_ext hx h1]
    · rename_i e
      have : word m j = word m' j := word_ext (word_lt m j) fun b hb => by rw [word_bit _ _ _ hb, h2 _ (by omega)]
      rw [this]
  · rw [if_neg (by omega), List.getElem?_eq_none (by rw [cellsW_len]; omega), List.getElem?_eq_none (by rw [cellsW_len]; omega)]

theorem setC_ext {m m' : Nat → Bool} (h : ∀ y, y < 1024 → m y = m' y) : setC m = setC m' := by
  have e : cellsW m = cellsW m' := by
    refine List.ext_getElem? fun j => ?_
    by_cases hj : j < 16
    · have : word m j = word m' j := word_ext (word_lt m j) fun b hb => by rw [word_bit _ _ _ hb, h _ (by omega)]
      rw [cellsW_get _ hj, cellsW_get _ hj, this]
    · rw [List.getElem?_eq_none (by rw [cellsW_len]; omega), List.getElem?_eq_none (by rw [cellsW_len]; omega)]
  show V.agg _ = V.agg _
  rw [e]
theorem er_setC {b : Bool} {H : Nat → Option MObj} {m m' : Nat → Bool} (h : ∀ y, y < 1024 → m y = m' y) : Er b H (setC m) (setC m') := er_eq (setC_ext h)
theorem notN {y : Nat} (hy : y < 18446744073709551616) (b : Nat) (hb : b < 64) : (18446744073709551615 - y).testBit b = !y.testBit b := by
  have := Nat.testBit_two_pow_sub_succ (n := 64) (x := y) hy b
  rw [show (2 : Nat) ^ 64 - (y + 1) = 18446744073709551615 - y by omega] at this
  rw [this]; simp [hb]
theorem u_andnot {x y : Nat} (hx : x < 18446744073709551616) (hy : y < 18446744073709551616) : binV .andNot (.int .u64 (x : Int)) (.int .u64 (y : Int)) = some (.int .u64 ((x &&& (18446744073709551615 - y) : Nat) : Int)) := by
  have h3 : x &&& (18446744073709551615 - y) < 2 ^ 64 := Nat.and_lt_two_pow x (by omega)
  have e : (BitVec.ofInt 64 (x : Int) &&& ~~~BitVec.ofInt 64 (y : Int)).toNat = x &&& (18446744073709551615 - y) := by
    rw [BitVec.toNat_and, BitVec.toNat_not, BitVec.ofInt_natCast, BitVec.ofInt_natCast, BitVec.toNat_ofNat, BitVec.toNat_ofNat, Nat.mod_eq_of_lt hx, Nat.mod_eq_of_lt hy]
  show some (V.int .u64 (IntKind.u64.wrap ((BitVec.ofInt 64 (x : Int) &&& ~~~BitVec.ofInt 64 (y : Int)).toNat : Int))) = _
  rw [e, wrapU (by omega) (by omega)]

theorem bits_Or {a b : Nat → Bool}  : Pure Tryd.prog 22 [setC a, setC b] (setC (fun y => a y || b y)) := by
  refine pure_intro Tryd.func22 e22_nm e22_ok (by show 2 ≤ 22; decide) ?_
  show ewp _ e22n18 _ _
  repeat' with_reducible first
    | refine ewp_reg_seq ?_ | refine ewp_seq ?_ | refine ewp_reg ?_ | refine ewp_skip ?_ | refine ewp_ret ?_ | refine ewp_block ?_ | refine ewp_exit ?_ | refine xt_n ?_ | refine xt_r ?_ | refine xt_e ?_ | refine xb_n ?_ | refine xb_r ?_ | refine xb_e ?_ | refine xb_x (by decide) ?_
    | refine ewp_condQ ?_ | refine condQ_T ?_ | refine condQ_F ?_
    | simp -implicitDefEqProofs only [wS, wT, wU, wV, wW, wX, wY, wL, wM, wN, Nat.reduceEqDiff, ↓reduceIte, reduceCtorEq, Nat.reduceAdd, Int.cast_ofNat_Int, Int.reduceLT, Int.reduceLE, Int.reduceEq, Int.reduceToNat, decide_true, decide_false, Bool.false_eq_true]
    | (refine condQ_i (fun h => ?_) (fun h => ?_) <;> have h_ := h <;> (try simp only [wD, reduceCtorEq] at h_) <;> (try (exfalso; first | omega | (refine absurd ?_ h_; focus assumption) | (refine absurd h_ ?_; focus assumption))) <;> (try simp only [h]))
    | (apply boxQ_i; (focus (with_unfolding_all exact cellsW_len _)); (focus with_unfolding_all rfl))
    | (apply ldQ_whole)
    | (apply ldQ_obj; (focus (first | assumption | exact List.getElem?_eq_getElem (by omega) | rfl)); (focus with_unfolding_all rfl))
    | (apply ldQ_cell; (focus with_unfolding_all rfl))
    | (apply ldQ_one; (focus with_unfolding_all rfl))
    | (apply ld_ipQ; (focus with_unfolding_all rfl))
    | (apply stQ_whole; (focus with_unfolding_all rfl); (focus with_unfolding_all rfl))
    | (apply stQ_obj; (focus (first | assumption | omega | (simp only [wZ]; omega) | trivial)); (focus with_unfolding_all rfl); (focus with_unfolding_all rfl); (focus (intro _; with_unfolding_all rfl)))
    | (apply stQ_one; (focus with_unfolding_all rfl); (focus with_unfolding_all rfl); (focus with_unfolding_all rfl))
    | (apply stQ_cell; (focus with_unfolding_all rfl); (focus with_unfolding_all rfl); (focus with_unfolding_all rfl); (focus (first | assumption | omega | (simp only [wZ]; omega) | trivial)))
    | (apply boxQ_i; (focus with_unfolding_all rfl); (focus with_unfolding_all rfl))
    | simp -implicitDefEqProofs (disch := omega) only [w64, if_neg]
  refine ewp_loopN ?nx1 (fun (k : Nat) s => s.f 2 = ?v1_2 ∧ s.f 3 = ?v1_3 ∧ s.f 4 = ?v1_4 ∧ s.H 1 = some (.own 16 [setC b] false) ∧ s.H 2 = ?o1_1 ∧ s.f 6 = vi k ∧ (k ≤ 16) ∧ (s.H 0 = some (.own 16 [setC (fun y => if y < 64 * k then a y || b y else a y)] false))) (fun k => 16 - k) (0) (by simp -implicitDefEqProofs only [wN, Nat.reduceAdd, Nat.zero_add]; exact Nat.le_refl _) (by refine ⟨?_, ?_, ?_, ?_, ?_, ?_, (by first | omega | (simp; done) | assumption), (by (try simp -implicitDefEqProofs only [wL, wM, wN, Nat.reduceEqDiff, ↓reduceIte, reduceCtorEq]); first | rfl | (simp; done))⟩ <;> first | (simp -implicitDefEqProofs only [wL, wM, wN, wX, Nat.reduceEqDiff, ↓reduceIte, reduceCtorEq, Nat.reduceAdd, Option.some.injEq] <;> first | rfl | exact ⟨_, rfl⟩ | exact ⟨_, rfl, by first | assumption | exact Gr.nil | exact Gr.tok rfl (by omega) | exact Gr.tok (by simp -implicitDefEqProofs only [wM, Nat.reduceEqDiff, ↓reduceIte, reduceCtorEq] <;> rfl) (by omega) | exact Gr.clip⟩) | rfl | exact ⟨_, rfl⟩) ?_
  intro k s hnx ⟨g2, g3, g4, o0, o1, g6, k1_0, o100⟩
  by_cases hk : k < 16
  · repeat' with_reducible first
      | refine ewp_reg_seq ?_ | refine ewp_seq ?_ | refine ewp_reg ?_ | refine ewp_skip ?_ | refine ewp_ret ?_ | refine ewp_block ?_ | refine ewp_exit ?_ | refine xt_n ?_ | refine xt_r ?_ | refine xt_e ?_ | refine xb_n ?_ | refine xb_r ?_ | refine xb_e ?_ | refine xb_x (by decide) ?_
      | refine ewp_condQ ?_ | refine condQ_T ?_ | refine condQ_F ?_
      | simp -implicitDefEqProofs only [wS, wT, wU, wV, wW, wX, wY, wL, wM, wN, Nat.reduceEqDiff, ↓reduceIte, reduceCtorEq, Nat.reduceAdd, Int.cast_ofNat_Int, Int.reduceLT, Int.reduceLE, Int.reduceEq, Int.reduceToNat, decide_true, decide_false, Bool.false_eq_true, g2, g3, g4, g6, o0, o1, o100]
      | (refine condQ_i (fun h => ?_) (fun h => ?_) <;> have h_ := h <;> (try simp only [wD, reduceCtorEq] at h_) <;> (try (exfalso; first | omega | (refine absurd ?_ h_; focus assumption) | (refine absurd h_ ?_; focus assumption))) <;> (try simp only [h]))
      | (apply iaA_ptrQ; (focus omega))
      | (apply ldQ_cell; (focus (exact cellsW_get _ (by omega))))
      | refine onS_i (u_or (word_lt _ _) (word_lt _ _)) ?_
      | (apply stQ_cell; (focus with_unfolding_all rfl); (focus with_unfolding_all rfl); (focus with_unfolding_all rfl); (focus (rw [cellsW_len]; omega)))
      | (apply ldQ_whole)
      | (apply ldQ_obj; (focus (first | assumption | exact List.getElem?_eq_getElem (by omega) | rfl)); (focus with_unfolding_all rfl))
      | (apply ldQ_cell; (focus with_unfolding_all rfl))
      | (apply ldQ_one; (focus with_unfolding_all rfl))
      | (apply ld_ipQ; (focus with_unfolding_all rfl))
      | (apply stQ_whole; (focus with_unfolding_all rfl); (focus with_unfolding_all rfl))
      | (apply stQ_obj; (focus (first | assumption | omega | (simp only [wZ]; omega) | trivial)); (focus with_unfolding_all rfl); (focus with_unfolding_all rfl); (focus (intro _; with_unfolding_all rfl)))
      | (apply stQ_one; (focus with_unfolding_all rfl); (focus with_unfolding_all rfl); (focus with_unfolding_all rfl))
      | (apply stQ_cell; (focus with_unfolding_all rfl); (focus with_unfolding_all rfl); (focus with_unfolding_all rfl); (focus (first | assumption | omega | (simp only [wZ]; omega) | trivial)))
      | (apply boxQ_i; (focus with_unfolding_all rfl); (focus with_unfolding_all rfl))
      | simp -implicitDefEqProofs (disch := omega) only [w64, if_neg]
    refine ⟨(by first | assumption | omega | (simp -implicitDefEqProofs only [wN]; omega)), k + 1, (by omega), ?_⟩
    refine ⟨?_, ?_, ?_, ?_, ?_, ?_, ?_, ?_⟩
    iterate 6 (focus (first | (simp -implicitDefEqProofs only [wL, wM, wN, wX, Nat.reduceEqDiff, ↓reduceIte, reduceCtorEq, Nat.reduceAdd, Option.some.injEq, g2, g3, g4, g6, o0, o1, o100] <;> first | rfl | exact ⟨_, rfl⟩ | exact ⟨_, rfl, by first | assumption | exact Gr.nil | exact Gr.tok rfl (by omega) | exact Gr.tok (by simp -implicitDefEqProofs only [wM, Nat.reduceEqDiff, ↓reduceIte, reduceCtorEq] <;> rfl) (by omega) | exact Gr.clip⟩) | rfl | exact ⟨_, rfl⟩))
    all_goals try omega
    all_goals try simp -implicitDefEqProofs only [wL, wM, wN, wX, Nat.reduceEqDiff, ↓reduceIte, reduceCtorEq, g2, g3, g4, g6, o0, o1, o100]
    rw [cellsW_upd (m' := fun y => if y < 64 * (k + 1) then a y || b y else a y) hk]
    · exact Nat.or_lt_two_pow (n := 64) (word_lt _ _) (word_lt _ _)
    · intro y hy
      rw [Nat.testBit_or, word_bit _ _ _ hy, word_bit _ _ _ hy]
      have e1 : ¬ (64 * k + y < 64 * k) := by omega
      have e2 : 64 * k + y < 64 * (k + 1) := by omega
      simp [e1, e2]
    · intro y hy
      by_cases hl : y < 64 * k
      · have e2 : y < 64 * (k + 1) := by omega
        simp [hl, e2]
      · have e2 : ¬ y < 64 * (k + 1) := by omega
        simp [hl, e2]
  · obtain rfl : k = 16 := by omega
    repeat' with_reducible first
      | refine ewp_reg_seq ?_ | refine ewp_seq ?_ | refine ewp_reg ?_ | refine ewp_skip ?_ | refine ewp_ret ?_ | refine ewp_block ?_ | refine ewp_exit ?_ | refine xt_n ?_ | refine xt_r ?_ | refine xt_e ?_ | refine xb_n ?_ | refine xb_r ?_ | refine xb_e ?_ | refine xb_x (by decide) ?_
      | refine ewp_condQ ?_ | refine condQ_T ?_ | refine condQ_F ?_
      | simp -implicitDefEqProofs only [wS, wT, wU, wV, wW, wX, wY, wL, wM, wN, Nat.reduceEqDiff, ↓reduceIte, reduceCtorEq, Nat.reduceAdd, Int.cast_ofNat_Int, Int.reduceLT, Int.reduceLE, Int.reduceEq, Int.reduceToNat, decide_true, decide_false, Bool.false_eq_true, g2, g3, g4, g6, o0, o1, o100]
      | (refine condQ_i (fun h => ?_) (fun h => ?_) <;> have h_ := h <;> (try simp only [wD, reduceCtorEq] at h_) <;> (try (exfalso; first | omega | (refine absurd ?_ h_; focus assumption) | (refine absurd h_ ?_; focus assumption))) <;> (try simp only [h]))
      | (apply ldQ_whole)
      | (apply stQ_whole; (focus with_unfolding_all rfl); (focus (exact cellsW_len _)))
      | (apply ldQ_whole)
      | (apply ldQ_obj; (focus (first | assumption | exact List.getElem?_eq_getElem (by omega) | rfl)); (focus with_unfolding_all rfl))
      | (apply ldQ_cell; (focus with_unfolding_all rfl))
      | (apply ldQ_one; (focus with_unfolding_all rfl))
      | (apply ld_ipQ; (focus with_unfolding_all rfl))
      | (apply stQ_whole; (focus with_unfolding_all rfl); (focus with_unfolding_all rfl))
      | (apply stQ_obj; (focus (first | assumption | omega | (simp only [wZ]; omega) | trivial)); (focus with_unfolding_all rfl); (focus with_unfolding_all rfl); (focus (intro _; with_unfolding_all rfl)))
      | (apply stQ_one; (focus with_unfolding_all rfl); (focus with_unfolding_all rfl); (focus with_unfolding_all rfl))
      | (apply stQ_cell; (focus with_unfolding_all rfl); (focus with_unfolding_all rfl); (focus with_unfolding_all rfl); (focus (first | assumption | omega | (simp only [wZ]; omega) | trivial)))
      | (apply boxQ_i; (focus with_unfolding_all rfl); (focus with_unfolding_all rfl))
      | simp -implicitDefEqProofs (disch := omega) only [w64, if_neg]
    refine postL (t := 4) rfl (Or.inr rfl) (v := setC (fun y => if y < 64 * 16 then a y || b y else a y)) ?_ (er_setC ?_)
    · simp -implicitDefEqProofs only [wL, Nat.reduceEqDiff, ↓reduceIte, reduceCtorEq, g2, g3, g4, g6]
      refine ld_whole (ro := false) ?_
      simp only [putH, setO_H, ↓reduceIte]
    · intro y hy
      simp [show y < 1024 from hy]

theorem bits_And {a b : Nat → Bool}  : Pure Tryd.prog 23 [setC a, setC b] (setC (fun y => a y && b y)) := by
  refine pure_intro Tryd.func23 e23_nm e23_ok (by show 2 ≤ 22; decide) ?_
  show ewp _ e23n18 _ _
  repeat' with_reducible first
    | refine ewp_reg_seq ?_ | refine ewp_seq ?_ | refine ewp_reg ?_ | refine ewp_skip ?_ | refine ewp_ret ?_ | refine ewp_block ?_ | refine ewp_exit ?_ | refine xt_n ?_ | refine xt_r ?_ | refine xt_e ?_ | refine xb_n ?_ | refine xb_r ?_ | refine xb_e ?_ | refine xb_x (by decide) ?_
    | refine ewp_condQ ?_ | refine condQ_T ?_ | refine condQ_F ?_
    | simp -implicitDefEqProofs only [wS, wT, wU, wV, wW, wX, wY, wL, wM, wN, Nat.reduceEqDiff, ↓reduceIte, reduceCtorEq, Nat.reduceAdd, Int.cast_ofNat_Int, Int.reduceLT, Int.reduceLE, Int.reduceEq, Int.reduceToNat, decide_true, decide_false, Bool.false_eq_true]
    | (refine condQ_i (fun h => ?_) (fun h => ?_) <;> have h_ := h <;> (try simp only [wD, reduceCtorEq] at h_) <;> (try (exfalso; first | omega | (refine absurd ?_ h_; focus assumption) | (refine absurd h_ ?_; focus assumption))) <;> (try simp only [h]))
    | (apply boxQ_i; (focus (with_unfolding_all exact cellsW_len _)); (focus with_unfolding_all rfl))
    | (apply ldQ_whole)
    | (apply ldQ_obj; (focus (first | assumption | exact List.getElem?_eq_getElem (by omega) | rfl)); (focus with_unfolding_all rfl))
    | (apply ldQ_cell; (focus with_unfolding_all rfl))
    | (apply ldQ_one; (focus with_unfolding_all rfl))
    | (apply ld_ipQ; (focus with_unfolding_all rfl))
    | (apply stQ_whole; (focus with_unfolding_all rfl); (focus with_unfolding_all rfl))
    | (apply stQ_obj; (focus (first | assumption | omega | (simp only [wZ]; omega) | trivial)); (focus with_unfolding_all rfl); (focus with_unfolding_all rfl); (focus (intro _; with_unfolding_all rfl)))
    | (apply stQ_one; (focus with_unfolding_all rfl); (focus with_unfolding_all rfl); (focus with_unfolding_all rfl))
    | (apply stQ_cell; (focus with_unfolding_all rfl); (focus with_unfolding_all rfl); (focus with_unfolding_all rfl); (focus (first | assumption | omega | (simp only [wZ]; omega) | trivial)))
    | (apply boxQ_i; (focus with_unfolding_all rfl); (focus with_unfolding_all rfl))
    | simp -implicitDefEqProofs (disch := omega) only [w64, if_neg]
  refine ewp_loopN ?nx1 (fun (k : Nat) s => s.f 2 = ?v1_2 ∧ s.f 3 = ?v1_3 ∧ s.f 4 = ?v1_4 ∧ s.H 1 = some (.own 16 [setC b] false) ∧ s.H 2 = ?o1_1 ∧ s.f 6 = vi k ∧ (k ≤ 16) ∧ (s.H 0 = some (.own 16 [setC (fun y => if y < 64 * k then a y && b y else a y)] false))) (fun k => 16 - k) (0) (by simp -implicitDefEqProofs only [wN, Nat.reduceAdd, Nat.zero_add]; exact Nat.le_refl _) (by refine ⟨?_, ?_, ?_, ?_, ?_, ?_, (by first | omega | (simp; done) | assumption), (by (try simp -implicitDefEqProofs only [wL, wM, wN, Nat.reduceEqDiff, ↓reduceIte, reduceCtorEq]); first | rfl | (simp; done))⟩ <;> first | (simp -implicitDefEqProofs only [wL, wM, wN, wX, Nat.reduceEqDiff, ↓reduceIte, reduceCtorEq, Nat.reduceAdd, Option.some.injEq] <;> first | rfl | exact ⟨_, rfl⟩ | exact ⟨_, rfl, by first | assumption | exact Gr.nil | exact Gr.tok rfl (by omega) | exact Gr.tok (by simp -implicitDefEqProofs only [wM, Nat.reduceEqDiff, ↓reduceIte, reduceCtorEq] <;> rfl) (by omega) | exact Gr.clip⟩) | rfl | exact ⟨_, rfl⟩) ?_
  intro k s hnx ⟨g2, g3, g4, o0, o1, g6, k1_0, o100⟩
  by_cases hk : k < 16
  · repeat' with_reducible first
      | refine ewp_reg_seq ?_ | refine ewp_seq ?_ | refine ewp_reg ?_ | refine ewp_skip ?_ | refine ewp_ret ?_ | refine ewp_block ?_ | refine ewp_exit ?_ | refine xt_n ?_ | refine xt_r ?_ | refine xt_e ?_ | refine xb_n ?_ | refine xb_r ?_ | refine xb_e ?_ | refine xb_x (by decide) ?_
      | refine ewp_condQ ?_ | refine condQ_T ?_ | refine condQ_F ?_
      | simp -implicitDefEqProofs only [wS, wT, wU, wV, wW, wX, wY, wL, wM, wN, Nat.reduceEqDiff, ↓reduceIte, reduceCtorEq, Nat.reduceAdd, Int.cast_ofNat_Int, Int.reduceLT, Int.reduceLE, Int.reduceEq, Int.reduceToNat, decide_true, decide_false, Bool.false_eq_true, g2, g3, g4, g6, o0, o1, o100]
      | (refine condQ_i (fun h => ?_) (fun h => ?_) <;> have h_ := h <;> (try simp only [wD, reduceCtorEq] at h_) <;> (try (exfalso; first | omega | (refine absurd ?_ h_; focus assumption) | (refine absurd h_ ?_; focus assumption))) <;> (try simp only [h]))
      | (apply iaA_ptrQ; (focus omega))
      | (apply ldQ_cell; (focus (exact cellsW_get _ (by omega))))
      | refine onS_i (u_and (word_lt _ _) (word_lt _ _)) ?_
      | (apply stQ_cell; (focus with_unfolding_all rfl); (focus with_unfolding_all rfl); (focus with_unfolding_all rfl); (focus (rw [cellsW_len]; omega)))
      | (apply ldQ_whole)
      | (apply ldQ_obj; (focus (first | assumption | exact List.getElem?_eq_getElem (by omega) | rfl)); (focus with_unfolding_all rfl))
      | (apply ldQ_cell; (focus with_unfolding_all rfl))
      | (apply ldQ_one; (focus with_unfolding_all rfl))
      | (apply ld_ipQ; (focus with_unfolding_all rfl))
      | (apply stQ_whole; (focus with_unfolding_all rfl); (focus with_unfolding_all rfl))
      | (apply stQ_obj; (focus (first | assumption | omega | (simp only [wZ]; omega) | trivial)); (focus with_unfolding_all rfl); (focus with_unfolding_all rfl); (focus (intro _; with_unfolding_all rfl)))
      | (apply stQ_one; (focus with_unfolding_all rfl); (focus with_unfolding_all rfl); (focus with_unfolding_all rfl))
      | (apply stQ_cell; (focus with_unfolding_all rfl); (focus with_unfolding_all rfl); (focus with_unfolding_all rfl); (focus (first | assumption | omega | (simp only [wZ]; omega) | trivial)))
      | (apply boxQ_i; (focus with_unfolding_all rfl); (focus with_unfolding_all rfl))
      | simp -implicitDefEqProofs (disch := omega) only [w64, if_neg]
    refine ⟨(by first | assumption | omega | (simp -implicitDefEqProofs only [wN]; omega)), k + 1, (by omega), ?_⟩
    refine ⟨?_, ?_, ?_, ?_, ?_, ?_, ?_, ?_⟩
    iterate 6 (focus (first | (simp -implicitDefEqProofs only [wL, wM, wN, wX, Nat.reduceEqDiff, ↓reduceIte, reduceCtorEq, Nat.reduceAdd, Option.some.injEq, g2, g3, g4, g6, o0, o1, o100] <;> first | rfl | exact ⟨_, rfl⟩ | exact ⟨_, rfl, by first | assumption | exact Gr.nil | exact Gr.tok rfl (by omega) | exact Gr.tok (by simp -implicitDefEqProofs only [wM, Nat.reduceEqDiff, ↓reduceIte, reduceCtorEq] <;> rfl) (by omega) | exact Gr.clip⟩) | rfl | exact ⟨_, rfl⟩))
    all_goals try omega
    all_goals try simp -implicitDefEqProofs only [wL, wM, wN, wX, Nat.reduceEqDiff, ↓reduceIte, reduceCtorEq, g2, g3, g4, g6, o0, o1, o100]
    rw [cellsW_upd (m' := fun y => if y < 64 * (k + 1) then a y && b y else a y) hk]
    · exact Nat.and_lt_two_pow (n := 64) _ (word_lt _ _)
    · intro y hy
      rw [Nat.testBit_and, word_bit _ _ _ hy, word_bit _ _ _ hy]
      have e1 : ¬ (64 * k + y < 64 * k) := by omega
      have e2 : 64 * k + y < 64 * (k + 1) := by omega
      simp [e1, e2]
    · intro y hy
      by_cases hl : y < 64 * k
      · have e2 : y < 64 * (k + 1) := by omega
        simp [hl, e2]
      · have e2 : ¬ y < 64 * (k + 1) := by omega
        simp [hl, e2]
  · obtain rfl : k = 16 := by omega
    repeat' with_reducible first
      | refine ewp_reg_seq ?_ | refine ewp_seq ?_ | refine ewp_reg ?_ | refine ewp_skip ?_ | refine ewp_ret ?_ | refine ewp_block ?_ | refine ewp_exit ?_ | refine xt_n ?_ | refine xt_r ?_ | refine xt_e ?_ | refine xb_n ?_ | refine xb_r ?_ | refine xb_e ?_ | refine xb_x (by decide) ?_
      | refine ewp_condQ ?_ | refine condQ_T ?_ | refine condQ_F ?_
      | simp -implicitDefEqProofs only [wS, wT, wU, wV, wW, wX, wY, wL, wM, wN, Nat.reduceEqDiff, ↓reduceIte, reduceCtorEq, Nat.reduceAdd, Int.cast_ofNat_Int, Int.reduceLT, Int.reduceLE, Int.reduceEq, Int.reduceToNat, decide_true, decide_false, Bool.false_eq_true, g2, g3, g4, g6, o0, o1, o100]
      | (refine condQ_i (fun h => ?_) (fun h => ?_) <;> have h_ := h <;> (try simp only [wD, reduceCtorEq] at h_) <;> (try (exfalso; first | omega | (refine absurd ?_ h_; focus assumption) | (refine absurd h_ ?_; focus assumption))) <;> (try simp only [h]))
      | (apply ldQ_whole)
      | (apply stQ_whole; (focus with_unfolding_all rfl); (focus (exact cellsW_len _)))
      | (apply ldQ_whole)
      | (apply ldQ_obj; (focus (first | assumption | exact List.getElem?_eq_getElem (by omega) | rfl)); (focus with_unfolding_all rfl))
      | (apply ldQ_cell; (focus with_unfolding_all rfl))
      | (apply ldQ_one; (focus with_unfolding_all rfl))
      | (apply ld_ipQ; (focus with_unfolding_all rfl))
      | (apply stQ_whole; (focus with_unfolding_all rfl); (focus with_unfolding_all rfl))
      | (apply stQ_obj; (focus (first | assumption | omega | (simp only [wZ]; omega) | trivial)); (focus with_unfolding_all rfl); (focus with_unfolding_all rfl); (focus (intro _; with_unfolding_all rfl)))
      | (apply stQ_one; (focus with_unfolding_all rfl); (focus with_unfolding_all rfl); (focus with_unfolding_all rfl))
      | (apply stQ_cell; (focus with_unfolding_all rfl); (focus with_unfolding_all rfl); (focus with_unfolding_all rfl); (focus (first | assumption | omega | (simp only [wZ]; omega) | trivial)))
      | (apply boxQ_i; (focus with_unfolding_all rfl); (focus with_unfolding_all rfl))
      | simp -implicitDefEqProofs (disch := omega) only [w64, if_neg]
    refine postL (t := 4) rfl (Or.inr rfl) (v := setC (fun y => if y < 64 * 16 then a y && b y else a y)) ?_ (er_setC ?_)
    · simp -implicitDefEqProofs only [wL, Nat.reduceEqDiff, ↓reduceIte, reduceCtorEq, g2, g3, g4, g6]
      refine ld_whole (ro := false) ?_
      simp only [putH, setO_H, ↓reduceIte]
    · intro y hy
      simp [show y < 1024 from hy]

theorem bits_Without {a b : Nat → Bool}  : Pure Tryd.prog 24 [setC a, setC b] (setC (fun y => a y && !b y)) := by
  refine pure_intro Tryd.func24 e24_nm e24_ok (by show 2 ≤ 22; decide) ?_
  show ewp _ e24n18 _ _
  repeat' with_reducible first
    | refine ewp_reg_seq ?_ | refine ewp_seq ?_ | refine ewp_reg ?_ | refine ewp_skip ?_ | refine ewp_ret ?_ | refine ewp_block ?_ | refine ewp_exit ?_ | refine xt_n ?_ | refine xt_r ?_ | refine xt_e ?_ | refine xb_n ?_ | refine xb_r ?_ | refine xb_e ?_ | refine xb_x (by decide) ?_
    | refine ewp_condQ ?_ | refine condQ_T ?_ | refine condQ_F ?_
    | simp -implicitDefEqProofs only [wS, wT, wU, wV, wW, wX, wY, wL, wM, wN, Nat.reduceEqDiff, ↓reduceIte, reduceCtorEq, Nat.reduceAdd, Int.cast_ofNat_Int, Int.reduceLT, Int.reduceLE, Int.reduceEq, Int.reduceToNat, decide_true, decide_false, Bool.false_eq_true]
    | (refine condQ_i (fun h => ?_) (fun h => ?_) <;> have h_ := h <;> (try simp only [wD, reduceCtorEq] at h_) <;> (try (exfalso; first | omega | (refine absurd ?_ h_; focus assumption) | (refine absurd h_ ?_; focus assumption))) <;> (try simp only [h]))
    | (apply boxQ_i; (focus (with_unfolding_all exact cellsW_len _)); (focus with_unfolding_all rfl))
    | (apply ldQ_whole)
    | (apply ldQ_obj; (focus (first | assumption | exact List.getElem?_eq_getElem (by omega) | rfl)); (focus with_unfolding_all rfl))
    | (apply ldQ_cell; (focus with_unfolding_all rfl))
    | (apply ldQ_one; (focus with_unfolding_all rfl))
    | (apply ld_ipQ; (focus with_unfolding_all rfl))
    | (apply stQ_whole; (focus with_unfolding_all rfl); (focus with_unfolding_all rfl))
    | (apply stQ_obj; (focus (first | assumption | omega | (simp only [wZ]; omega) | trivial)); (focus with_unfolding_all rfl); (focus with_unfolding_all rfl); (focus (intro _; with_unfolding_all rfl)))
    | (apply stQ_one; (focus with_unfolding_all rfl); (focus with_unfolding_all rfl); (focus with_unfolding_all rfl))
    | (apply stQ_cell; (focus with_unfolding_all rfl); (focus with_unfolding_all rfl); (focus with_unfolding_all rfl); (focus (first | assumption | omega | (simp only [wZ]; omega) | trivial)))
    | (apply boxQ_i; (focus with_unfolding_all rfl); (focus with_unfolding_all rfl))
    | simp -implicitDefEqProofs (disch := omega) only [w64, if_neg]
  refine ewp_loopN ?nx1 (fun (k : Nat) s => s.f 2 = ?v1_2 ∧ s.f 3 = ?v1_3 ∧ s.f 4 = ?v1_4 ∧ s.H 1 = some (.own 16 [setC b] false) ∧ s.H 2 = ?o1_1 ∧ s.f 6 = vi k ∧ (k ≤ 16) ∧ (s.H 0 = some (.own 16 [setC (fun y => if y < 64 * k then a y && !b y else a y)] false))) (fun k => 16 - k) (0) (by simp -implicitDefEqProofs only [wN, Nat.reduceAdd, Nat.zero_add]; exact Nat.le_refl _) (by refine ⟨?_, ?_, ?_, ?_, ?_, ?_, (by first | omega | (simp; done) | assumption), (by (try simp -implicitDefEqProofs only [wL, wM, wN, Nat.reduceEqDiff, ↓reduceIte, reduceCtorEq]); first | rfl | (simp; done))⟩ <;> first | (simp -implicitDefEqProofs only [wL, wM, wN, wX, Nat.reduceEqDiff, ↓reduceIte, reduceCtorEq, Nat.reduceAdd, Option.some.injEq] <;> first | rfl | exact ⟨_, rfl⟩ | exact ⟨_, rfl, by first | assumption | exact Gr.nil | exact Gr.tok rfl (by omega) | exact Gr.tok (by simp -implicitDefEqProofs only [wM, Nat.reduceEqDiff, ↓reduceIte, reduceCtorEq] <;> rfl) (by omega) | exact Gr.clip⟩) | rfl | exact ⟨_, rfl⟩) ?_
  intro k s hnx ⟨g2, g3, g4, o0, o1, g6, k1_0, o100⟩
  by_cases hk : k < 16
  · repeat' with_reducible first
      | refine ewp_reg_seq ?_ | refine ewp_seq ?_ | refine ewp_reg ?_ | refine ewp_skip ?_ | refine ewp_ret ?_ | refine ewp_block ?_ | refine ewp_exit ?_ | refine xt_n ?_ | refine xt_r ?_ | refine xt_e ?_ | refine xb_n ?_ | refine xb_r ?_ | refine xb_e ?_ | refine xb_x (by decide) ?_
      | refine ewp_condQ ?_ | refine condQ_T ?_ | refine condQ_F ?_
      | simp -implicitDefEqProofs only [wS, wT, wU, wV, wW, wX, wY, wL, wM, wN, Nat.reduceEqDiff, ↓reduceIte, reduceCtorEq, Nat.reduceAdd, Int.cast_ofNat_Int, Int.reduceLT, Int.reduceLE, Int.reduceEq, Int.reduceToNat, decide_true, decide_false, Bool.false_eq_true, g2, g3, g4, g6, o0, o1, o100]
      | (refine condQ_i (fun h => ?_) (fun h => ?_) <;> have h_ := h <;> (try simp only [wD, reduceCtorEq] at h_) <;> (try (exfalso; first | omega | (refine absurd ?_ h_; focus assumption) | (refine absurd h_ ?_; focus assumption))) <;> (try simp only [h]))
      | (apply iaA_ptrQ; (focus omega))
      | (apply ldQ_cell; (focus (exact cellsW_get _ (by omega))))
      | refine onS_i (u_andnot (word_lt _ _) (word_lt _ _)) ?_
      | (apply stQ_cell; (focus with_unfolding_all rfl); (focus with_unfolding_all rfl); (focus with_unfolding_all rfl); (focus (rw [cellsW_len]; omega)))
      | (apply ldQ_whole)
      | (apply ldQ_obj; (focus (first | assumption | exact List.getElem?_eq_getElem (by omega) | rfl)); (focus with_unfolding_all rfl))
      | (apply ldQ_cell; (focus with_unfolding_all rfl))
      | (apply ldQ_one; (focus with_unfolding_all rfl))
      | (apply ld_ipQ; (focus with_unfolding_all rfl))
      | (apply stQ_whole; (focus with_unfolding_all rfl); (focus with_unfolding_all rfl))
      | (apply stQ_obj; (focus (first | assumption | omega | (simp only [wZ]; omega) | trivial)); (focus with_unfolding_all rfl); (focus with_unfolding_all rfl); (focus (intro _; with_unfolding_all rfl)))
      | (apply stQ_one; (focus with_unfolding_all rfl); (focus with_unfolding_all rfl); (focus with_unfolding_all rfl))
      | (apply stQ_cell; (focus with_unfolding_all rfl); (focus with_unfolding_all rfl); (focus with_unfolding_all rfl); (focus (first | assumption | omega | (simp only [wZ]; omega) | trivial)))
      | (apply boxQ_i; (focus with_unfolding_all rfl); (focus with_unfolding_all rfl))
      | simp -implicitDefEqProofs (disch := omega) only [w64, if_neg]
    refine ⟨(by first | assumption | omega | (simp -implicitDefEqProofs only [wN]; omega)), k + 1, (by omega), ?_⟩
    refine ⟨?_, ?_, ?_, ?_, ?_, ?_, ?_, ?_⟩
    iterate 6 (focus (first | (simp -implicitDefEqProofs only [wL, wM, wN, wX, Nat.reduceEqDiff, ↓reduceIte, reduceCtorEq, Nat.reduceAdd, Option.some.injEq, g2, g3, g4, g6, o0, o1, o100] <;> first | rfl | exact ⟨_, rfl⟩ | exact ⟨_, rfl, by first | assumption | exact Gr.nil | exact Gr.tok rfl (by omega) | exact Gr.tok (by simp -implicitDefEqProofs only [wM, Nat.reduceEqDiff, ↓reduceIte, reduceCtorEq] <;> rfl) (by omega) | exact Gr.clip⟩) | rfl | exact ⟨_, rfl⟩))
    all_goals try omega
    all_goals try simp -implicitDefEqProofs only [wL, wM, wN, wX, Nat.reduceEqDiff, ↓reduceIte, reduceCtorEq, g2, g3, g4, g6, o0, o1, o100]
    rw [cellsW_upd (m' := fun y => if y < 64 * (k + 1) then a y && !b y else a y) hk]
    · exact Nat.and_lt_two_pow (n := 64) _ (by omega)
    · intro y hy
      rw [Nat.testBit_and, notN (word_lt _ _) _ hy, word_bit _ _ _ hy, word_bit _ _ _ hy]
      have e1 : ¬ (64 * k + y < 64 * k) := by omega
      have e2 : 64 * k + y < 64 * (k + 1) := by omega
      simp [e1, e2]
    · intro y hy
      by_cases hl : y < 64 * k
      · have e2 : y < 64 * (k + 1) := by omega
        simp [hl, e2]
      · have e2 : ¬ y < 64 * (k + 1) := by omega
        simp [hl, e2]
  · obtain rfl : k = 16 := by omega
    repeat' with_reducible first
      | refine ewp_reg_seq ?_ | refine ewp_seq ?_ | refine ewp_reg ?_ | refine ewp_skip ?_ | refine ewp_ret ?_ | refine ewp_block ?_ | refine ewp_exit ?_ | refine xt_n ?_ | refine xt_r ?_ | refine xt_e ?_ | refine xb_n ?_ | refine xb_r ?_ | refine xb_e ?_ | refine xb_x (by decide) ?_
      | refine ewp_condQ ?_ | refine condQ_T ?_ | refine condQ_F ?_
      | simp -implicitDefEqProofs only [wS, wT, wU, wV, wW, wX, wY, wL, wM, wN, Nat.reduceEqDiff, ↓reduceIte, reduceCtorEq, Nat.reduceAdd, Int.cast_ofNat_Int, Int.reduceLT, Int.reduceLE, Int.reduceEq, Int.reduceToNat, decide_true, decide_false, Bool.false_eq_true, g2, g3, g4, g6, o0, o1, o100]
      | (refine condQ_i (fun h => ?_) (fun h => ?_) <;> have h_ := h <;> (try simp only [wD, reduceCtorEq] at h_) <;> (try (exfalso; first | omega | (refine absurd ?_ h_; focus assumption) | (refine absurd h_ ?_; focus assumption))) <;> (try simp only [h]))
      | (apply ldQ_whole)
      | (apply stQ_whole; (focus with_unfolding_all rfl); (focus (exact cellsW_len _)))
      | (apply ldQ_whole)
      | (apply ldQ_obj; (focus (first | assumption | exact List.getElem?_eq_getElem (by omega) | rfl)); (focus with_unfolding_all rfl))
      | (apply ldQ_cell; (focus with_unfolding_all rfl))
      | (apply ldQ_one; (focus with_unfolding_all rfl))
      | (apply ld_ipQ; (focus with_unfolding_all rfl))
      | (apply stQ_whole; (focus with_unfolding_all rfl); (focus with_unfolding_all rfl))
      | (apply stQ_obj; (focus (first | assumption | omega | (simp only [wZ]; omega) | trivial)); (focus with_unfolding_all rfl); (focus with_unfolding_all rfl); (focus (intro _; with_unfolding_all rfl)))
      | (apply stQ_one; (focus with_unfolding_all rfl); (focus with_unfolding_all rfl); (focus with_unfolding_all rfl))
      | (apply stQ_cell; (focus with_unfolding_all rfl); (focus with_unfolding_all rfl); (focus with_unfolding_all rfl); (focus (first | assumption | omega | (simp only [wZ]; omega) | trivial)))
      | (apply boxQ_i; (focus with_unfolding_all rfl); (focus with_unfolding_all rfl))
      | simp -implicitDefEqProofs (disch := omega) only [w64, if_neg]
    refine postL (t := 4) rfl (Or.inr rfl) (v := setC (fun y => if y < 64 * 16 then a y && !b y else a y)) ?_ (er_setC ?_)
    · simp -implicitDefEqProofs only [wL, Nat.reduceEqDiff, ↓reduceIte, reduceCtorEq, g2, g3, g4, g6]
      refine ld_whole (ro := false) ?_
      simp only [putH, setO_H, ↓reduceIte]
    · intro y hy
      simp [show y < 1024 from hy]

end Go.Proofs


namespace Go.Proofs
open Go.E

/-- Have two Sets the same? -/
def eqS (a b : Nat → Bool) : Bool := (List.range 1024).all fun y => a y == b y
theorem eqS_iff (a b : Nat → Bool) : eqS a b = true ↔ ∀ y, y < 1024 → a y = b y := by simp [eqS, List.all_eq_true]
theorem eqCells_u64 : ∀ (l m : List Nat), l.length = m.length → eqCellsT (List.replicate l.length 1) (l.map fun (x : Nat) => V.int .u64 (x : Int)) (m.map fun (x : Nat) => V.int .u64 (x : Int)) = some (decide (l = m))
  | [], [], _ => by simp [eqCellsT]
  | x :: l, y :: m, h => by
    have ih := eqCells_u64 l m (by simpa using h)
    simp only [List.length_cons, List.replicate_succ, List.map_cons, eqCellsT, ih]
    simp [tagOk, eq1]
    rw [Bool.eq_iff_iff]; simp; omega
  | [], _ :: _, h => by simp at h
  | _ :: _, [], h => by simp at h
theorem eqCells_set (a b : Nat → Bool) : eqCellsT [1,1,1,1,1,1,1,1,1,1,1,1,1,1,1,1] (cellsW a) (cellsW b) = some (eqS a b) := by
  have h := eqCells_u64 ((List.range 16).map (word a)) ((List.range 16).map (word b)) (by simp)
  have e : ∀ c, ((List.range 16).map (word c)).map (fun (x : Nat) => V.int .u64 (x : Int)) = cellsW c := fun c => by simp [cellsW]
  rw [e, e] at h
  refine h.trans (congrArg some ?_)
  rw [Bool.eq_iff_iff, decide_eq_true_eq, eqS_iff]
  constructor
  · intro h y hy
    have h1 : ∀ i, i < 16 → word a i = word b i := by
      intro i hi
      have := congrArg (fun l => l[i]?) h
      simpa [hi] using this
    have h2 := h1 (y / 64) (by omega)
    have h3 := word_bit a (y / 64) (y % 64) (by omega)
    have h4 := word_bit b (y / 64) (y % 64) (by omega)
    rw [h2, h4, show 64 * (y / 64) + y % 64 = y by omega] at h3
    exact h3.symm
  · intro h
    refine List.map_congr_left fun i hi => ?_
    rw [List.mem_range] at hi
    exact word_ext (word_lt a i) fun c hc => by rw [word_bit _ _ _ hc, h _ (by omega)]

theorem bits_Eq {a b : Nat → Bool}  : Pure Tryd.prog 25 [setC a, setC b] (.bool (eqS a b)) := by
  refine pure_intro Tryd.func25 e25_nm e25_ok (by show 2 ≤ 8; decide) ?_
  show ewp _ e25n3 _ _
  repeat' with_reducible first
    | refine ewp_reg_seq ?_ | refine ewp_seq ?_ | refine ewp_reg ?_ | refine ewp_skip ?_ | refine ewp_ret ?_ | refine ewp_block ?_ | refine ewp_exit ?_ | refine xt_n ?_ | refine xt_r ?_ | refine xt_e ?_ | refine xb_n ?_ | refine xb_r ?_ | refine xb_e ?_ | refine xb_x (by decide) ?_
    | simp -implicitDefEqProofs only [wS, wT, wU, wV, wW, wX, wY, wL, wM, wN, Nat.reduceEqDiff, ↓reduceIte, reduceCtorEq, Nat.reduceAdd, Int.cast_ofNat_Int, Int.reduceLT, Int.reduceLE, Int.reduceEq, Int.reduceToNat, decide_true, decide_false, Bool.false_eq_true]
    | (apply boxQ_i; (focus (with_unfolding_all exact cellsW_len _)); (focus with_unfolding_all rfl))
    | (apply ldQ_whole)
    | (apply eqaggQ_i (h := eqCells_set _ _))
    | (apply ldQ_whole)
    | (apply ldQ_obj; (focus (first | assumption | exact List.getElem?_eq_getElem (by omega) | rfl)); (focus with_unfolding_all rfl))
    | (apply ldQ_cell; (focus with_unfolding_all rfl))
    | (apply ldQ_one; (focus with_unfolding_all rfl))
    | (apply ld_ipQ; (focus with_unfolding_all rfl))
    | (apply boxQ_i; (focus with_unfolding_all rfl); (focus with_unfolding_all rfl))
    | simp -implicitDefEqProofs (disch := omega) only [w64, if_neg]
  refine post1 rfl (Or.inr rfl) ?_
  simp -implicitDefEqProofs only [wL, Nat.reduceEqDiff, ↓reduceIte, reduceCtorEq]
  first | refine er_bool ?_ | refine er_int ?_ | refine er_str ?_ | refine er_sl_eq ?_ | refine er_asl_eq ?_
  try (with_reducible rfl)

/- The lowest bit. -/
theorem ctz_bits {u : Nat} (h0 : u ≠ 0) (h : u < 18446744073709551616) : Lib.ctz 64 u < 64 ∧ u.testBit (Lib.ctz 64 u) = true ∧ (∀ b, b < Lib.ctz 64 u → u.testBit b = false) ∧ 1 ≤ u ∧
    ∀ b, (u &&& (u - 1)).testBit b = (decide (b ≠ Lib.ctz 64 u) && u.testBit b) := by
  obtain ⟨m, hm, hk⟩ := Lib.ctzFrom_spec 64 u (by omega) h
  have e : Lib.ctz 64 u = Lib.ctzFrom 64 u := by simp [Lib.ctz, h0]
  rw [e]
  generalize Lib.ctzFrom 64 u = t at hm hk
  have hb : ∀ b, u.testBit b = if b < t then false else (2 * m + 1).testBit (b - t) := by
    intro b
    have := Nat.testBit_two_pow_mul_add (2 * m + 1) (Nat.two_pow_pos t) b
    rw [Nat.add_zero, ← hm] at this
    rw [this]; simp
  have hp : 1 ≤ 2 ^ t := Nat.one_le_two_pow
  have hb' : ∀ b, (u - 1).testBit b = if b < t then true else (2 * m).testBit (b - t) := by
    intro b
    have hu : u - 1 = 2 ^ t * (2 * m) + (2 ^ t - 1) := by rw [hm, Nat.mul_add, Nat.mul_one]; omega
    have := Nat.testBit_two_pow_mul_add (2 * m) (show 2 ^ t - 1 < 2 ^ t by omega) b
    rw [← hu] at this
    rw [this]
    split
    · rw [Nat.testBit_two_pow_sub_one]; simpa
    · rfl
  refine ⟨hk, by rw [hb]; simp, fun b hbt => by rw [hb]; simp [hbt], by omega, fun b => ?_⟩
  rw [Nat.testBit_and, hb, hb']
  by_cases h1 : b < t
  · simp [h1]
  · by_cases h2 : b = t
    · subst h2; simp
    · obtain ⟨c, hc⟩ : ∃ c, b - t = c + 1 := ⟨b - t - 1, by omega⟩
      simp only [h1, ↓reduceIte, hc, Nat.testBit_succ]
      have e1 : (2 * m + 1) / 2 = m := by omega
      have e2 : 2 * m / 2 = m := by omega
      simp [h2, e1, e2]

theorem tz_core {x y p q i k : Nat} {T : List V} (h0 : ¬ (x : Int) = 0) (hn : unV .neg (.int .u64 (x : Int)) = some (.int .u64 (y : Int))) (hand : binV .and (.int .u64 (x : Int)) (.int .u64 (y : Int)) = some (.int .u64 (p : Int))) (hmul : IntKind.u64.wrap ((p : Int) * 285870213051353865) = (q : Int)) (hshr : binV .shr (.int .u64 (q : Int)) (.int .u64 58) = some (.int .u64 (i : Int))) (hi : i < 64) (hT : Glob.G Tryd.prog 0 = .iptr 64 (.agg T) 0) (hc : T[i]? = some (.int .u8 (k : Int))) (hk : k < 64) : Pure Tryd.prog 28 [.int .u64 (x : Int)] (vi (k : Int)) := by
  refine pure_intro Tryd.func28 e28_nm e28_ok (by show 1 ≤ 14; decide) ?_
  show ewp _ e28n9 _ _
  repeat' with_reducible first
    | refine ewp_reg_seq ?_ | refine ewp_seq ?_ | refine ewp_reg ?_ | refine ewp_skip ?_ | refine ewp_ret ?_ | refine ewp_block ?_ | refine ewp_exit ?_ | refine xt_n ?_ | refine xt_r ?_ | refine xt_e ?_ | refine xb_n ?_ | refine xb_r ?_ | refine xb_e ?_ | refine xb_x (by decide) ?_
    | refine ewp_condQ ?_ | refine condQ_T ?_ | refine condQ_F ?_
    | simp -implicitDefEqProofs only [wS, wT, wU, wV, wW, wX, wY, wL, wM, wN, Nat.reduceEqDiff, ↓reduceIte, reduceCtorEq, Nat.reduceAdd, Int.cast_ofNat_Int, Int.reduceLT, Int.reduceLE, Int.reduceEq, Int.reduceToNat, decide_true, decide_false, Bool.false_eq_true, hn, hand, hmul, hshr, hT]
    | (refine condQ_i (fun h => ?_) (fun h => ?_) <;> have h_ := h <;> (try simp only [wD, reduceCtorEq] at h_) <;> (try (exfalso; first | omega | (refine absurd ?_ h_; focus assumption) | (refine absurd h_ ?_; focus assumption))) <;> (try simp only [h]))
    | refine onS_i (iaA_iptr hi) ?_
    | refine onS_i (ld_ip (by simpa using hc)) ?_
    | (apply ldQ_whole)
    | (apply ldQ_obj; (focus (first | assumption | exact List.getElem?_eq_getElem (by omega) | rfl)); (focus with_unfolding_all rfl))
    | (apply ldQ_cell; (focus with_unfolding_all rfl))
    | (apply ldQ_one; (focus with_unfolding_all rfl))
    | (apply ld_ipQ; (focus with_unfolding_all rfl))
    | simp -implicitDefEqProofs (disch := omega) only [w64, if_neg]
  refine post1 rfl (Or.inr rfl) ?_
  simp -implicitDefEqProofs only [wL, Nat.reduceEqDiff, ↓reduceIte, reduceCtorEq]
  first | refine er_bool ?_ | refine er_int ?_ | refine er_str ?_ | refine er_sl_eq ?_ | refine er_asl_eq ?_
  try (with_reducible rfl)

theorem p64 : (2 : Nat) ^ 64 = 18446744073709551616 := by decide
theorem p58 : (2 : Nat) ^ 58 = 288230376151711744 := by decide
theorem tz_fin (C : Nat) {x y p q i k M D c : Nat} (hM : M = 18446744073709551616) (hD : D = 288230376151711744) (hc : c = 285870213051353865) (h0 : x ≠ 0) (hx : x < M) (hy : M - x = y) (hlow : x &&& y = p) (hq : p * c % M = q) (hi : q / D = i) (hi64 : i < 64) (hk : k < 64)
    (htab : Lib.deBruijn64tab.getD i 0 = k) : Pure Tryd.prog 28 [.int .u64 (x : Int)] (vi (k : Int)) := by
  have hn : unV .neg (.int .u64 (x : Int)) = some (.int .u64 (y : Int)) := by
    show some (V.int .u64 (IntKind.u64.wrap (0 - (x : Int)))) = _
    rw [wrapUm]; congr 2; omega
  have hand := u_and (x := x) (y := y) (by omega) (by omega)
  rw [hlow] at hand
  have hmul : IntKind.u64.wrap ((p : Int) * 285870213051353865) = (q : Int) := by
    rw [hc, hM] at hq
    rw [wrapUm]; omega
  have hshr := u_shr (x := q) (y := 58) (by omega)
  rw [p58, ← hD, hi] at hshr
  refine tz_core (T := Lib.deBruijn64tab.map fun (n : Nat) => V.int .u8 (n : Int)) (by omega) hn hand hmul hshr hi64 rfl ?_ hk
  have hl : Lib.deBruijn64tab.length = 64 := by decide
  rw [List.getD_eq_getElem?_getD, List.getElem?_eq_getElem (by rw [hl]; exact hi64)] at htab
  rw [List.getElem?_map, List.getElem?_eq_getElem (by rw [hl]; exact hi64)]
  simp only [Option.getD_some] at htab
  rw [htab]; rfl

theorem math_bits_TrailingZeros64 {x : Nat} (h0 : x ≠ 0) (hx : x < 18446744073709551616) : Pure Tryd.prog 28 [.int .u64 (x : Int)] (vi (Lib.ctz 64 x)) := by
  have hx' : x < 2 ^ 64 := by rw [p64]; exact hx
  have h := Lib.lowest_bit 64 x h0 hx'
  rw [p64] at h
  have ht := Lib.deBruijn64_at _ h.2
  exact tz_fin 0 (M := 18446744073709551616) (D := 288230376151711744) (c := 285870213051353865) rfl rfl rfl h0 hx rfl rfl rfl rfl (by rw [h.1]; exact ht.1) h.2 (by rw [h.1]; exact ht.2)
end Go.Proofs


namespace Go.Proofs
open Go.E

/-- What a Set has below a number, rising. -/
def lst (m : Nat → Bool) (n : Nat) : List Int := ((List.range n).filter m).map Int.ofNat
theorem lst_len (m : Nat → Bool) (n : Nat) : (lst m n).length ≤ n := by
  simp only [lst, List.length_map]
  exact Nat.le_trans (List.length_filter_le _ _) (by simp)
theorem lst_mem {m : Nat → Bool} {n : Nat} {x : Int} : x ∈ lst m n ↔ ∃ y : Nat, y < n ∧ m y = true ∧ x = y := by
  simp only [lst, List.mem_map, List.mem_filter, List.mem_range]
  constructor
  · rintro ⟨y, ⟨h1, h2⟩, rfl⟩; exact ⟨y, h1, h2, rfl⟩
  · rintro ⟨y, h1, h2, rfl⟩; exact ⟨y, ⟨h1, h2⟩, rfl⟩
theorem lst_none {m : Nat → Bool} (a d : Nat) (h : ∀ y, a ≤ y → y < a + d → m y = false) : lst m (a + d) = lst m a := by
  induction d with
  | zero => rfl
  | succ d ih =>
    have e : lst m (a + (d + 1)) = lst m (a + d) := by
      unfold lst
      rw [← Nat.add_assoc, List.range_succ, List.filter_append]
      simp [h (a + d) (by omega) (by omega)]
    rw [e, ih fun y h1 h2 => h y h1 (by omega)]
theorem lst_one {m : Nat → Bool} {n : Nat} (h : m n = true) : lst m (n + 1) = lst m n ++ [(n : Int)] := by
  unfold lst
  rw [List.range_succ, List.filter_append]
  simp [h]
theorem wrapU1 {u : Nat} (h1 : 1 ≤ u) (h2 : u < 18446744073709551616) : IntKind.u64.wrap ((u : Int) - 1) = ((u - 1 : Nat) : Int) := by
  rw [wrapU (by omega) (by omega)]; omega

theorem bits_Set_List {m : Nat → Bool}  : Pure Tryd.prog 12 [setC m] (ints (lst m 1024)) := by
  refine pure_intro Tryd.func12 e12_nm e12_ok (by show 1 ≤ 28; decide) ?_
  show ewp _ e12n29 _ _
  repeat' with_reducible first
    | refine ewp_reg_seq ?_ | refine ewp_seq ?_ | refine ewp_reg ?_ | refine ewp_skip ?_ | refine ewp_ret ?_ | refine ewp_block ?_ | refine ewp_exit ?_ | refine xt_n ?_ | refine xt_r ?_ | refine xt_e ?_ | refine xb_n ?_ | refine xb_r ?_ | refine xb_e ?_ | refine xb_x (by decide) ?_
    | refine ewp_condQ ?_ | refine condQ_T ?_ | refine condQ_F ?_
    | simp -implicitDefEqProofs only [wS, wT, wU, wV, wW, wX, wY, wL, wM, wN, Nat.reduceEqDiff, ↓reduceIte, reduceCtorEq, Nat.reduceAdd, Int.cast_ofNat_Int, Int.reduceLT, Int.reduceLE, Int.reduceEq, Int.reduceToNat, decide_true, decide_false, Bool.false_eq_true]
    | (refine condQ_i (fun h => ?_) (fun h => ?_) <;> have h_ := h <;> (try simp only [wD, reduceCtorEq] at h_) <;> (try (exfalso; first | omega | (refine absurd ?_ h_; focus assumption) | (refine absurd h_ ?_; focus assumption))) <;> (try simp only [h]))
    | (apply boxQ_i; (focus (with_unfolding_all exact cellsW_len _)); (focus with_unfolding_all rfl))
    | (apply ldQ_whole)
    | (apply appQ_C; (focus (first | exact SrcN.sl | exact SrcN.asl | exact SrcN.str)); (focus (first | assumption | omega | (simp only [wZ]; omega) | trivial)); (focus (unfold maxLen; first | omega | (simp only [wZ]; omega))))
    | (refine app_asl ?_; simp -implicitDefEqProofs only [wM, wN, Nat.reduceEqDiff, ↓reduceIte, reduceCtorEq]; apply appT_i; (focus (first | exact SrcN.sl | exact SrcN.asl | exact SrcN.str)); (focus (first | assumption | omega | (simp only [wZ]; omega) | trivial)); (focus (unfold maxLen; first | omega | (simp only [wZ]; omega))))
    | (apply ldQ_whole)
    | (apply ldQ_obj; (focus (first | assumption | exact List.getElem?_eq_getElem (by omega) | rfl)); (focus with_unfolding_all rfl))
    | (apply ldQ_cell; (focus with_unfolding_all rfl))
    | (apply ldQ_one; (focus with_unfolding_all rfl))
    | (apply ld_ipQ; (focus with_unfolding_all rfl))
    | (apply boxQ_i; (focus with_unfolding_all rfl); (focus with_unfolding_all rfl))
    | (apply callQ1 (hp := math_bits_TrailingZeros64 ?_ ?_); (focus (first | exact er_intsL | exact er_cl | exact er_sl | exact er_asl)); rotate_left; (focus (first | assumption | omega | (simp only [wZ]; omega) | trivial)); (focus (first | assumption | omega | (simp only [wZ]; omega) | trivial)))
    | simp -implicitDefEqProofs (disch := omega) only [w64, if_neg]
  refine ewp_loopN ?nx1 (fun (k : Nat) s => s.f 7 = ?v1_7 ∧ (∃ v, s.f 3 = v ∧ Gr s.H s.next 1 ((lst m (64 * k)).map (V.int .i64)) v) ∧ s.f 8 = vi k ∧ (k ≤ 16)) (fun k => 16 - k) (0) (by simp -implicitDefEqProofs only [wN, Nat.reduceAdd, Nat.zero_add]; exact Nat.le_refl _) (by refine ⟨?_, ?_, ?_, (by first | omega | (simp; done) | assumption)⟩ <;> first | (simp -implicitDefEqProofs only [wL, wM, wN, wX, Nat.reduceEqDiff, ↓reduceIte, reduceCtorEq, Nat.reduceAdd, Option.some.injEq] <;> first | rfl | exact ⟨_, rfl⟩ | exact ⟨_, rfl, by first | assumption | exact Gr.nil | exact Gr.tok rfl (by omega) | exact Gr.tok (by simp -implicitDefEqProofs only [wM, Nat.reduceEqDiff, ↓reduceIte, reduceCtorEq] <;> rfl) (by omega) | exact Gr.clip⟩) | rfl | exact ⟨_, rfl⟩) ?_
  intro k s hnx ⟨g7, ⟨v3, g3, G3⟩, g8, k1_0⟩
  by_cases hk : k < 16
  · have hw := word_lt m k
    have hlk := lst_len m (64 * k)
    repeat' with_reducible first
      | refine ewp_reg_seq ?_ | refine ewp_seq ?_ | refine ewp_reg ?_ | refine ewp_skip ?_ | refine ewp_ret ?_ | refine ewp_block ?_ | refine ewp_exit ?_ | refine xt_n ?_ | refine xt_r ?_ | refine xt_e ?_ | refine xb_n ?_ | refine xb_r ?_ | refine xb_e ?_ | refine xb_x (by decide) ?_
      | refine ewp_condQ ?_ | refine condQ_T ?_ | refine condQ_F ?_
      | simp -implicitDefEqProofs only [wS, wT, wU, wV, wW, wX, wY, wL, wM, wN, Nat.reduceEqDiff, ↓reduceIte, reduceCtorEq, Nat.reduceAdd, Int.cast_ofNat_Int, Int.reduceLT, Int.reduceLE, Int.reduceEq, Int.reduceToNat, decide_true, decide_false, Bool.false_eq_true, g7, g3, g8, G3.len]
      | (refine condQ_i (fun h => ?_) (fun h => ?_) <;> have h_ := h <;> (try simp only [wD, reduceCtorEq] at h_) <;> (try (exfalso; first | omega | (refine absurd ?_ h_; focus assumption) | (refine absurd h_ ?_; focus assumption))) <;> (try simp only [h]))
      | refine onS_i (ixA_1 (by omega) (cellsW_get _ (by omega))) ?_
      | (apply appQ_G (hg := G3); (focus (first | rfl | (simp -implicitDefEqProofs only [wM]; done))); (focus (first | exact SrcN.sl | exact SrcN.asl | exact SrcN.gr G3 | exact SrcN.str)); (focus (first | assumption | omega | (simp only [wZ]; omega) | trivial)); (focus (unfold maxLen; first | omega | (simp only [wZ]; omega))))
      | (apply appQ_C; (focus (first | exact SrcN.sl | exact SrcN.asl | exact SrcN.gr G3 | exact SrcN.str)); (focus (first | assumption | omega | (simp only [wZ]; omega) | trivial)); (focus (unfold maxLen; first | omega | (simp only [wZ]; omega))))
      | (refine app_asl ?_; simp -implicitDefEqProofs only [wM, wN, Nat.reduceEqDiff, ↓reduceIte, reduceCtorEq, g7, g3, g8]; apply appT_i; (focus (first | exact SrcN.sl | exact SrcN.asl | exact SrcN.gr G3 | exact SrcN.str)); (focus (first | assumption | omega | (simp only [wZ]; omega) | trivial)); (focus (unfold maxLen; first | omega | (simp only [wZ]; omega))))
      | (apply ldQ_whole)
      | (apply ldQ_obj; (focus (first | assumption | exact List.getElem?_eq_getElem (by omega) | rfl)); (focus with_unfolding_all rfl))
      | (apply ldQ_cell; (focus with_unfolding_all rfl))
      | (apply ldQ_one; (focus with_unfolding_all rfl))
      | (apply ld_ipQ; (focus with_unfolding_all rfl))
      | (apply boxQ_i; (focus with_unfolding_all rfl); (focus with_unfolding_all rfl))
      | (apply callQ1 (hp := math_bits_TrailingZeros64 ?_ ?_); (focus (first | exact er_intsL | exact er_cl | exact er_sl | exact er_asl | exact G3.er rfl)); rotate_left; (focus (first | assumption | omega | (simp only [wZ]; omega) | trivial)); (focus (first | assumption | omega | (simp only [wZ]; omega) | trivial)))
      | simp -implicitDefEqProofs (disch := omega) only [w64, if_neg]
    refine ewp_loopN ?nx2 (fun (p : Nat × Nat) s => s.f 4 = ?v2_4 ∧ s.f 7 = ?v2_7 ∧ s.f 8 = ?v2_8 ∧ (∃ v, s.f 3 = v ∧ Gr s.H s.next 1 ((lst m (64 * k + p.1)).map (V.int .i64)) v) ∧ s.f 5 = .int .u64 (p.2 : Int) ∧ (p.1 ≤ 64) ∧ (p.2 < 18446744073709551616) ∧ ((∀ b, b < 64 → p.2.testBit b = (decide (p.1 ≤ b) && m (64 * k + b))))) (fun p => 64 - p.1) ((0, word m k)) (by simp -implicitDefEqProofs only [wN, Nat.reduceAdd, Nat.zero_add]; exact Nat.le_refl _) (by refine ⟨?_, ?_, ?_, ?_, ?_, (by first | omega | (simp; done) | assumption), (by first | omega | (simp; done) | assumption), (by intro b hb; rw [word_bit _ _ _ hb]; simp)⟩ <;> first | (simp -implicitDefEqProofs only [wL, wM, wN, wX, Nat.reduceEqDiff, ↓reduceIte, reduceCtorEq, Nat.reduceAdd, Option.some.injEq, g7, g3, g8] <;> first | rfl | exact ⟨_, rfl⟩ | exact ⟨_, rfl, by first | assumption | exact Gr.nil | exact Gr.tok rfl (by omega) | exact Gr.tok (by simp -implicitDefEqProofs only [wM, Nat.reduceEqDiff, ↓reduceIte, reduceCtorEq] <;> rfl) (by omega) | exact Gr.clip | exact G3.to (by first | rfl | (simp [*]; done)) (by omega) rfl⟩) | rfl | exact ⟨_, rfl⟩) ?_
    intro p s hnx ⟨g4, g7, g8, ⟨v3, g3, G3⟩, g5, k2_0, k2_1, k2_2⟩
    obtain ⟨c, u⟩ := p
    dsimp only at g5 G3 k2_0 k2_1 k2_2
    have hlc := lst_len m (64 * k + c)
    by_cases hu : u = 0
    · have hn : lst m (64 * (k + 1)) = lst m (64 * k + c) := by
        have := lst_none (m := m) (64 * k + c) (64 - c) (fun y h1 h2 => by
          have := k2_2 (y - 64 * k) (by omega)
          simp only [hu, Nat.zero_testBit] at this
          have e : 64 * k + (y - 64 * k) = y := by omega
          rw [e] at this
          have h3 : c ≤ y - 64 * k := by omega
          simpa [h3] using this.symm)
        rw [show 64 * k + c + (64 - c) = 64 * (k + 1) by omega] at this
        exact this
      subst hu
      repeat' with_reducible first
        | refine ewp_reg_seq ?_ | refine ewp_seq ?_ | refine ewp_reg ?_ | refine ewp_skip ?_ | refine ewp_ret ?_ | refine ewp_block ?_ | refine ewp_exit ?_ | refine xt_n ?_ | refine xt_r ?_ | refine xt_e ?_ | refine xb_n ?_ | refine xb_r ?_ | refine xb_e ?_ | refine xb_x (by decide) ?_
        | refine ewp_condQ ?_ | refine condQ_T ?_ | refine condQ_F ?_
        | simp -implicitDefEqProofs only [wS, wT, wU, wV, wW, wX, wY, wL, wM, wN, Nat.reduceEqDiff, ↓reduceIte, reduceCtorEq, Nat.reduceAdd, Int.cast_ofNat_Int, Int.reduceLT, Int.reduceLE, Int.reduceEq, Int.reduceToNat, decide_true, decide_false, Bool.false_eq_true, g4, g7, g8, g3, g5, G3.len]
        | (refine condQ_i (fun h => ?_) (fun h => ?_) <;> have h_ := h <;> (try simp only [wD, reduceCtorEq] at h_) <;> (try (exfalso; first | omega | (refine absurd ?_ h_; focus assumption) | (refine absurd h_ ?_; focus assumption))) <;> (try simp only [h]))
        | (apply appQ_G (hg := G3); (focus (first | rfl | (simp -implicitDefEqProofs only [wM]; done))); (focus (first | exact SrcN.sl | exact SrcN.asl | exact SrcN.gr G3 | exact SrcN.str)); (focus (first | assumption | omega | (simp only [wZ]; omega) | trivial)); (focus (unfold maxLen; first | omega | (simp only [wZ]; omega))))
        | (apply appQ_C; (focus (first | exact SrcN.sl | exact SrcN.asl | exact SrcN.gr G3 | exact SrcN.str)); (focus (first | assumption | omega | (simp only [wZ]; omega) | trivial)); (focus (unfold maxLen; first | omega | (simp only [wZ]; omega))))
        | (refine app_asl ?_; simp -implicitDefEqProofs only [wM, wN, Nat.reduceEqDiff, ↓reduceIte, reduceCtorEq, g4, g7, g8, g3, g5]; apply appT_i; (focus (first | exact SrcN.sl | exact SrcN.asl | exact SrcN.gr G3 | exact SrcN.str)); (focus (first | assumption | omega | (simp only [wZ]; omega) | trivial)); (focus (unfold maxLen; first | omega | (simp only [wZ]; omega))))
        | (apply ldQ_whole)
        | (apply ldQ_obj; (focus (first | assumption | exact List.getElem?_eq_getElem (by omega) | rfl)); (focus with_unfolding_all rfl))
        | (apply ldQ_cell; (focus with_unfolding_all rfl))
        | (apply ldQ_one; (focus with_unfolding_all rfl))
        | (apply ld_ipQ; (focus with_unfolding_all rfl))
        | (apply boxQ_i; (focus with_unfolding_all rfl); (focus with_unfolding_all rfl))
        | (apply callQ1 (hp := math_bits_TrailingZeros64 ?_ ?_); (focus (first | exact er_intsL | exact er_cl | exact er_sl | exact er_asl | exact G3.er rfl)); rotate_left; (focus (first | assumption | omega | (simp only [wZ]; omega) | trivial)); (focus (first | assumption | omega | (simp only [wZ]; omega) | trivial)))
        | simp -implicitDefEqProofs (disch := omega) only [w64, if_neg]
      refine ⟨(by first | assumption | omega | (simp -implicitDefEqProofs only [wN]; omega)), k + 1, (by omega), ?_⟩
      refine ⟨?_, ?_, ?_, ?_⟩
      iterate 3 (focus (first | (simp -implicitDefEqProofs only [wL, wM, wN, wX, Nat.reduceEqDiff, ↓reduceIte, reduceCtorEq, Nat.reduceAdd, Option.some.injEq, g4, g7, g8, g3, g5, hn] <;> first | rfl | exact ⟨_, rfl⟩ | exact ⟨_, rfl, by first | assumption | exact Gr.nil | exact Gr.tok rfl (by omega) | exact Gr.tok (by simp -implicitDefEqProofs only [wM, Nat.reduceEqDiff, ↓reduceIte, reduceCtorEq] <;> rfl) (by omega) | exact Gr.clip | exact G3.to (by first | rfl | (simp [*]; done)) (by omega) rfl⟩) | rfl | exact ⟨_, rfl⟩))
      all_goals try omega
    · have ht := ctz_bits hu k2_1
      generalize hT : Lib.ctz 64 u = t at ht
      obtain ⟨t1, t2, t3, t4, t5⟩ := ht
      have hc : c ≤ t := by
        rcases Nat.lt_or_ge t c with h | h
        · have := k2_2 t t1
          rw [t2] at this
          simp [Nat.not_le.2 h] at this
        · exact h
      have hmt : m (64 * k + t) = true := by
        have := k2_2 t t1
        rw [t2] at this
        simpa [hc] using this.symm
      have hn : lst m (64 * k + (t + 1)) = lst m (64 * k + c) ++ [((64 * k + t : Nat) : Int)] := by
        rw [← Nat.add_assoc, lst_one hmt]
        congr 1
        have := lst_none (m := m) (64 * k + c) (t - c) (fun y h1 h2 => by
          have := k2_2 (y - 64 * k) (by omega)
          rw [t3 _ (by omega)] at this
          have e : 64 * k + (y - 64 * k) = y := by omega
          rw [e] at this
          have h3 : c ≤ y - 64 * k := by omega
          simpa [h3] using this.symm)
        rw [show 64 * k + c + (t - c) = 64 * k + t by omega] at this
        exact this
      have hlt : (u &&& (u - 1)) < 18446744073709551616 := Nat.and_lt_two_pow (n := 64) _ (by omega)
      have hz : ((k : Int) * 64 + (t : Int)) = ((64 * k + t : Nat) : Int) := by omega
      have hsub := wrapU1 t4 k2_1
      repeat' with_reducible first
        | refine ewp_reg_seq ?_ | refine ewp_seq ?_ | refine ewp_reg ?_ | refine ewp_skip ?_ | refine ewp_ret ?_ | refine ewp_block ?_ | refine ewp_exit ?_ | refine xt_n ?_ | refine xt_r ?_ | refine xt_e ?_ | refine xb_n ?_ | refine xb_r ?_ | refine xb_e ?_ | refine xb_x (by decide) ?_
        | refine ewp_condQ ?_ | refine condQ_T ?_ | refine condQ_F ?_
        | simp -implicitDefEqProofs only [wS, wT, wU, wV, wW, wX, wY, wL, wM, wN, Nat.reduceEqDiff, ↓reduceIte, reduceCtorEq, Nat.reduceAdd, Int.cast_ofNat_Int, Int.reduceLT, Int.reduceLE, Int.reduceEq, Int.reduceToNat, decide_true, decide_false, Bool.false_eq_true, g4, g7, g8, g3, g5, hT, hz, hsub, G3.len]
        | (refine condQ_i (fun h => ?_) (fun h => ?_) <;> have h_ := h <;> (try simp only [wD, reduceCtorEq] at h_) <;> (try (exfalso; first | omega | (refine absurd ?_ h_; focus assumption) | (refine absurd h_ ?_; focus assumption))) <;> (try simp only [h]))
        | refine onS_i (u_and (by omega) (by omega)) ?_
        | (rw [hz])
        | (apply appQ_G (hg := G3); (focus (first | rfl | (simp -implicitDefEqProofs only [wM]; done))); (focus (first | exact SrcN.sl | exact SrcN.asl | exact SrcN.gr G3 | exact SrcN.str)); (focus (first | assumption | omega | (simp only [wZ]; omega) | trivial)); (focus (unfold maxLen; first | omega | (simp only [wZ]; omega))))
        | (apply appQ_C; (focus (first | exact SrcN.sl | exact SrcN.asl | exact SrcN.gr G3 | exact SrcN.str)); (focus (first | assumption | omega | (simp only [wZ]; omega) | trivial)); (focus (unfold maxLen; first | omega | (simp only [wZ]; omega))))
        | (refine app_asl ?_; simp -implicitDefEqProofs only [wM, wN, Nat.reduceEqDiff, ↓reduceIte, reduceCtorEq, g4, g7, g8, g3, g5, hT, hz, hsub]; apply appT_i; (focus (first | exact SrcN.sl | exact SrcN.asl | exact SrcN.gr G3 | exact SrcN.str)); (focus (first | assumption | omega | (simp only [wZ]; omega) | trivial)); (focus (unfold maxLen; first | omega | (simp only [wZ]; omega))))
        | (apply ldQ_whole)
        | (apply ldQ_obj; (focus (first | assumption | exact List.getElem?_eq_getElem (by omega) | rfl)); (focus with_unfolding_all rfl))
        | (apply ldQ_cell; (focus with_unfolding_all rfl))
        | (apply ldQ_one; (focus with_unfolding_all rfl))
        | (apply ld_ipQ; (focus with_unfolding_all rfl))
        | (apply boxQ_i; (focus with_unfolding_all rfl); (focus with_unfolding_all rfl))
        | (apply callQ1 (hp := math_bits_TrailingZeros64 ?_ ?_); (focus (first | exact er_intsL | exact er_cl | exact er_sl | exact er_asl | exact G3.er rfl)); rotate_left; (focus (first | assumption | omega | (simp only [wZ]; omega) | trivial)); (focus (first | assumption | omega | (simp only [wZ]; omega) | trivial)))
        | simp -implicitDefEqProofs (disch := omega) only [w64, if_neg]
      refine ⟨(by first | assumption | omega | (simp -implicitDefEqProofs only [wN]; omega)), (t + 1, u &&& (u - 1)), (by omega), ?_⟩
      refine ⟨?_, ?_, ?_, ?_, ?_, ?_, ?_, ?_⟩
      iterate 5 (focus (first | (simp -implicitDefEqProofs only [wL, wM, wN, wX, Nat.reduceEqDiff, ↓reduceIte, reduceCtorEq, Nat.reduceAdd, Option.some.injEq, g4, g7, g8, g3, g5, hn] <;> first | rfl | exact ⟨_, rfl⟩ | exact ⟨_, rfl, by first | assumption | exact Gr.nil | exact Gr.tok rfl (by omega) | exact Gr.tok (by simp -implicitDefEqProofs only [wM, Nat.reduceEqDiff, ↓reduceIte, reduceCtorEq] <;> rfl) (by omega) | exact Gr.clip | exact G3.to (by first | rfl | (simp [*]; done)) (by omega) rfl⟩) | rfl | exact ⟨_, rfl⟩))
      all_goals try omega
      · intro b hb
        rw [t5, k2_2 b hb]
        by_cases h1 : b = t
        · subst h1; simp; omega
        · by_cases h2 : t + 1 ≤ b
          · simp [h1, h2, show c ≤ b by omega]
          · have h3 := t3 b (by omega)
            rw [k2_2 b hb] at h3
            simp [h1, h2, h3]
  · skip
    obtain rfl : k = 16 := by omega
    repeat' with_reducible first
      | refine ewp_reg_seq ?_ | refine ewp_seq ?_ | refine ewp_reg ?_ | refine ewp_skip ?_ | refine ewp_ret ?_ | refine ewp_block ?_ | refine ewp_exit ?_ | refine xt_n ?_ | refine xt_r ?_ | refine xt_e ?_ | refine xb_n ?_ | refine xb_r ?_ | refine xb_e ?_ | refine xb_x (by decide) ?_
      | refine ewp_condQ ?_ | refine condQ_T ?_ | refine condQ_F ?_
      | simp -implicitDefEqProofs only [wS, wT, wU, wV, wW, wX, wY, wL, wM, wN, Nat.reduceEqDiff, ↓reduceIte, reduceCtorEq, Nat.reduceAdd, Int.cast_ofNat_Int, Int.reduceLT, Int.reduceLE, Int.reduceEq, Int.reduceToNat, decide_true, decide_false, Bool.false_eq_true, g7, g3, g8, G3.len]
      | (refine condQ_i (fun h => ?_) (fun h => ?_) <;> have h_ := h <;> (try simp only [wD, reduceCtorEq] at h_) <;> (try (exfalso; first | omega | (refine absurd ?_ h_; focus assumption) | (refine absurd h_ ?_; focus assumption))) <;> (try simp only [h]))
      | (apply appQ_G (hg := G3); (focus (first | rfl | (simp -implicitDefEqProofs only [wM]; done))); (focus (first | exact SrcN.sl | exact SrcN.asl | exact SrcN.gr G3 | exact SrcN.str)); (focus (first | assumption | omega | (simp only [wZ]; omega) | trivial)); (focus (unfold maxLen; first | omega | (simp only [wZ]; omega))))
      | (apply appQ_C; (focus (first | exact SrcN.sl | exact SrcN.asl | exact SrcN.gr G3 | exact SrcN.str)); (focus (first | assumption | omega | (simp only [wZ]; omega) | trivial)); (focus (unfold maxLen; first | omega | (simp only [wZ]; omega))))
      | (refine app_asl ?_; simp -implicitDefEqProofs only [wM, wN, Nat.reduceEqDiff, ↓reduceIte, reduceCtorEq, g7, g3, g8]; apply appT_i; (focus (first | exact SrcN.sl | exact SrcN.asl | exact SrcN.gr G3 | exact SrcN.str)); (focus (first | assumption | omega | (simp only [wZ]; omega) | trivial)); (focus (unfold maxLen; first | omega | (simp only [wZ]; omega))))
      | (apply ldQ_whole)
      | (apply ldQ_obj; (focus (first | assumption | exact List.getElem?_eq_getElem (by omega) | rfl)); (focus with_unfolding_all rfl))
      | (apply ldQ_cell; (focus with_unfolding_all rfl))
      | (apply ldQ_one; (focus with_unfolding_all rfl))
      | (apply ld_ipQ; (focus with_unfolding_all rfl))
      | (apply boxQ_i; (focus with_unfolding_all rfl); (focus with_unfolding_all rfl))
      | (apply callQ1 (hp := math_bits_TrailingZeros64 ?_ ?_); (focus (first | exact er_intsL | exact er_cl | exact er_sl | exact er_asl | exact G3.er rfl)); rotate_left; (focus (first | assumption | omega | (simp only [wZ]; omega) | trivial)); (focus (first | assumption | omega | (simp only [wZ]; omega) | trivial)))
      | simp -implicitDefEqProofs (disch := omega) only [w64, if_neg]
    refine post1 rfl (Or.inr rfl) ?_
    simp -implicitDefEqProofs only [wL, Nat.reduceEqDiff, ↓reduceIte, reduceCtorEq, g7, g3, g8]
    first | refine er_bool ?_ | refine er_int ?_ | refine er_str ?_ | refine er_sl_eq ?_ | refine er_asl_eq ?_ | refine G3.er ?_
    try (with_reducible rfl)
end Go.Proofs


/- How many bits a number has: the sums of math/bits.OnesCount64, step by step. -/
namespace Go.Proofs

/-- A number by its digits, of k bits each. -/
def D (k : Nat) : Nat → (Nat → Nat) → Nat
  | 0, _ => 0
  | n + 1, d => d 0 + 2 ^ k * D k n (fun i => d (i + 1))
theorem D_add (k : Nat) : ∀ (n : Nat) (d e : Nat → Nat), D k n d + D k n e = D k n (fun i => d i + e i)
  | 0, _, _ => rfl
  | n + 1, d, e => by
    simp only [D]
    rw [← D_add k n (fun i => d (i + 1)) (fun i => e (i + 1)), Nat.mul_add]; omega
theorem D_congr (k : Nat) : ∀ (n : Nat) {d e : Nat → Nat}, (∀ i, i < n → d i = e i) → D k n d = D k n e
  | 0, _, _, _ => rfl
  | n + 1, d, e, h => by
    simp only [D]
    rw [h 0 (by omega), D_congr k n fun i hi => h (i + 1) (by omega)]
theorem D_shr (k n : Nat) (d : Nat → Nat) (h : d 0 < 2 ^ k) : D k (n + 1) d / 2 ^ k = D k n (fun i => d (i + 1)) := by
  simp only [D]
  rw [Nat.add_mul_div_left _ _ (Nat.two_pow_pos k), Nat.div_eq_of_lt h]; omega
theorem and_split {m a A c C : Nat} (ha : a < 2 ^ m) (hc : c < 2 ^ m) : (a + 2 ^ m * A) &&& (c + 2 ^ m * C) = (a &&& c) + 2 ^ m * (A &&& C) := by
  refine Nat.eq_of_testBit_eq fun i => ?_
  have hac : a &&& c < 2 ^ m := Nat.and_lt_two_pow a hc
  rw [Nat.testBit_and, Nat.add_comm a, Nat.add_comm c, Nat.add_comm (a &&& c), Nat.testBit_two_pow_mul_add A ha, Nat.testBit_two_pow_mul_add C hc, Nat.testBit_two_pow_mul_add _ hac]
  split
  · rw [Nat.testBit_and]
  · rw [Nat.testBit_and]
/-- The even digits alone. -/
theorem D_mask (k : Nat) : ∀ (n : Nat) (d : Nat → Nat), (∀ i, i < 2 * n → d i < 2 ^ k) → D k (2 * n) d &&& D (2 * k) n (fun _ => 2 ^ k - 1) = D (2 * k) n (fun i => d (2 * i))
  | 0, _, _ => by simp [D]
  | n + 1, d, h => by
    have ih := D_mask k n (fun i => d (i + 2)) fun i hi => h (i + 2) (by omega)
    have e : D k (2 * (n + 1)) d = (d 0 + 2 ^ k * d 1) + 2 ^ (2 * k) * D k (2 * n) (fun i => d (i + 2)) := by
      rw [show 2 * (n + 1) = (2 * n + 1) + 1 by omega]
      simp only [D]
      rw [Nat.mul_add, ← Nat.mul_assoc, ← Nat.pow_add, show k + k = 2 * k by omega]
      show d 0 + (2 ^ k * d 1 + 2 ^ (2 * k) * D k (2 * n) (fun i => d (i + 2))) = _
      omega
    have h0 := h 0 (by omega)
    have h1 := h 1 (by omega)
    have hp := Nat.two_pow_pos k
    have hlt : d 0 + 2 ^ k * d 1 < 2 ^ (2 * k) := by
      have : 2 ^ k * d 1 ≤ 2 ^ k * (2 ^ k - 1) := Nat.mul_le_mul_left _ (by omega)
      have e2 : 2 ^ (2 * k) = 2 ^ k * 2 ^ k := by rw [← Nat.pow_add]; congr 1; omega
      have e3 : 2 ^ k * (2 ^ k - 1) + 2 ^ k = 2 ^ k * 2 ^ k := by
        rw [← Nat.mul_succ]; congr 1; omega
      omega
    have hm : 2 ^ k - 1 < 2 ^ (2 * k) := by
      have : 2 ^ k ≤ 2 ^ (2 * k) := Nat.pow_le_pow_right (by omega) (by omega)
      omega
    rw [e]
    show _ &&& ((2 ^ k - 1) + 2 ^ (2 * k) * D (2 * k) n (fun _ => 2 ^ k - 1)) = d 0 + 2 ^ (2 * k) * D (2 * k) n (fun i => d (2 * (i + 1)))
    rw [and_split hlt hm, ih, Nat.and_two_pow_sub_one_eq_mod, Nat.add_mul_mod_self_left, Nat.mod_eq_of_lt h0]
    rfl
/-- A number by its bits. -/
theorem D_bits : ∀ (n x : Nat), x < 2 ^ n → x = D 1 n (fun i => (x.testBit i).toNat)
  | 0, x, h => by simp at h; subst h; rfl
  | n + 1, x, h => by
    have ih := D_bits n (x / 2) (by rw [Nat.pow_succ] at h; omega)
    simp only [D]
    have e : (fun i => (x.testBit (i + 1)).toNat) = fun i => ((x / 2).testBit i).toNat := by funext i; rw [Nat.testBit_succ]
    rw [e, ← ih]
    have h0 : (x.testBit 0).toNat = x % 2 := by rw [Nat.testBit_zero]; have := Nat.mod_two_eq_zero_or_one x; rcases this with h | h <;> simp [h]
    rw [h0]; omega
theorem D_lt (k : Nat) : ∀ (n : Nat) (d : Nat → Nat), (∀ i, i < n → d i < 2 ^ k) → D k n d < 2 ^ (k * n)
  | 0, _, _ => by simp [D]
  | n + 1, d, h => by
    have ih := D_lt k n (fun i => d (i + 1)) fun i hi => h (i + 1) (by omega)
    have h0 := h 0 (by omega)
    simp only [D]
    rw [Nat.mul_succ, Nat.pow_add, Nat.mul_comm (2 ^ (k * n))]
    have : 2 ^ k * (D k n (fun i => d (i + 1)) + 1) ≤ 2 ^ k * 2 ^ (k * n) := Nat.mul_le_mul_left _ ih
    rw [Nat.mul_add] at this
    omega

/-- How many of the first so many. -/
def cnt (p : Nat → Bool) (n : Nat) : Nat := ((List.range n).filter p).length
theorem cnt_succ (p : Nat → Bool) (n : Nat) : cnt p (n + 1) = cnt p n + (p n).toNat := by
  unfold cnt
  rw [List.range_succ, List.filter_append, List.length_append]
  cases h : p n <;> simp [h]

/-- A sum. -/
def S : Nat → (Nat → Nat) → Nat
  | 0, _ => 0
  | n + 1, d => S n d + d n
theorem S_cnt (p : Nat → Bool) (n : Nat) : cnt p n = S n (fun i => (p i).toNat) := by
  induction n with
  | zero => rfl
  | succ n ih => rw [cnt_succ, ih]; rfl
theorem S_half (d : Nat → Nat) (n : Nat) : S (2 * n) d = S n (fun i => d (2 * i + 1) + d (2 * i)) := by
  induction n with
  | zero => rfl
  | succ n ih =>
    show S (2 * n) d + d (2 * n) + d (2 * n + 1) = S n _ + (d (2 * n + 1) + d (2 * n))
    rw [ih]; omega

theorem D8_8 (g : Nat → Nat) : D 8 8 g = g 0 + 256 * (g 1 + 256 * (g 2 + 256 * (g 3 + 256 * (g 4 + 256 * (g 5 + 256 * (g 6 + 256 * g 7)))))) := by
  show g 0 + 2 ^ 8 * (g 1 + 2 ^ 8 * (g 2 + 2 ^ 8 * (g 3 + 2 ^ 8 * (g 4 + 2 ^ 8 * (g 5 + 2 ^ 8 * (g 6 + 2 ^ 8 * (g 7 + 2 ^ 8 * 0))))))) = _
  omega
theorem D8_4 (g : Nat → Nat) : D 8 4 (fun i => g (i + 4)) = g 4 + 256 * (g 5 + 256 * (g 6 + 256 * g 7)) := by
  show g 4 + 2 ^ 8 * (g 5 + 2 ^ 8 * (g 6 + 2 ^ 8 * (g 7 + 2 ^ 8 * 0))) = _
  omega
theorem S_congr : ∀ (n : Nat) {d e : Nat → Nat}, (∀ i, i < n → d i = e i) → S n d = S n e
  | 0, _, _, _ => rfl
  | n + 1, d, e, h => by
    show S n d + d n = S n e + e n
    rw [S_congr n fun i hi => h i (by omega), h n (by omega)]
theorem S8 (g g2 g4 : Nat → Nat) (h2 : ∀ i, g2 i = g i + (if i < 7 then g (i + 1) else 0)) (h4 : ∀ i, g4 i = g2 i + (if i < 6 then g2 (i + 2) else 0)) : S 8 g = g4 0 + g4 4 := by
  have e : S 8 g = 0 + g 0 + g 1 + g 2 + g 3 + g 4 + g 5 + g 6 + g 7 := rfl
  rw [e, h4, h4, h2, h2, h2, h2]
  simp
  omega
theorem fin1 (a b c d e f g h : Nat) (h0 : a ≤ 32) (h1 : b ≤ 32) (h2 : c ≤ 32) (h3 : d ≤ 32) (h4 : e ≤ 32) (h5 : f ≤ 32) (h6 : g ≤ 32) (h7 : h ≤ 32) :
    a + 256 * (b + 256 * (c + 256 * (d + 256 * (e + 256 * (f + 256 * (g + 256 * h)))))) + (e + 256 * (f + 256 * (g + 256 * h))) < 9223372036854775808 := by omega
theorem fin2 (a b c d e f g h : Nat) (h0 : a ≤ 32) (h1 : b ≤ 32) (h2 : c ≤ 32) (h3 : d ≤ 32) (h4 : e ≤ 32) (h5 : f ≤ 32) (h6 : g ≤ 32) (h7 : h ≤ 32) :
    (a + 256 * (b + 256 * (c + 256 * (d + 256 * (e + 256 * (f + 256 * (g + 256 * h)))))) + (e + 256 * (f + 256 * (g + 256 * h)))) % 128 = a + e := by omega

/-- The steps, of any number of 64 bits. -/
theorem pop_steps (x : Nat) (hx : x < 2 ^ 64) :
    let a := (x / 2 ^ 1 &&& 6148914691236517205) + (x &&& 6148914691236517205)
    let b := (a / 2 ^ 2 &&& 3689348814741910323) + (a &&& 3689348814741910323)
    let c := (b / 2 ^ 4 + b) &&& 1085102592571150095
    let d := c + c / 2 ^ 8
    let e := d + d / 2 ^ 16
    let f := e + e / 2 ^ 32
    a < 2 ^ 64 ∧ b < 2 ^ 64 ∧ b / 2 ^ 4 + b < 2 ^ 64 ∧ c < 2 ^ 64 ∧ d < 2 ^ 64 ∧ e < 2 ^ 64 ∧ f < 2 ^ 63 ∧ f % 128 = cnt x.testBit 64 := by
  intro a b c d e f
  have b1 : ∀ v : Bool, v.toNat ≤ 1 := fun v => by cases v <;> decide
  let B : Nat → Nat := fun i => (x.testBit i).toNat
  have hB : ∀ i, B i ≤ 1 := fun i => b1 _
  have hxD : x = D 1 (2 * 32) B := D_bits 64 x hx
  have m0 : (6148914691236517205 : Nat) = D (2 * 1) 32 (fun _ => 2 ^ 1 - 1) := by decide +kernel
  have m1 : (3689348814741910323 : Nat) = D (2 * 2) 16 (fun _ => 2 ^ 2 - 1) := by decide +kernel
  have m2 : (1085102592571150095 : Nat) = D (2 * 4) 8 (fun _ => 2 ^ 4 - 1) := by decide +kernel
  have pad : ∀ (k n : Nat) (d : Nat → Nat), D k n d = D k (n + 1) (fun i => if i < n then d i else 0) := by
    intro k n
    induction n with
    | zero => intro d; simp [D]
    | succ n ih =>
      intro d
      rw [D, D, ih]
      simp
  let A : Nat → Nat := fun i => B (2 * i + 1) + B (2 * i)
  have hA : a = D 2 (2 * 16) A := by
    have s1 : x / 2 ^ 1 &&& 6148914691236517205 = D 2 32 (fun i => B (2 * i + 1)) := by
      have e1 : x / 2 ^ 1 = D 1 (2 * 32) (fun i => if i < 63 then B (i + 1) else 0) := by
        rw [← pad 1 63 (fun i => B (i + 1)), ← D_shr 1 63 B (by have := hB 0; omega), ← hxD]
      rw [e1, m0, D_mask 1 32 _ (fun i hi => by have := hB (i + 1); split <;> omega)]
      exact D_congr _ _ fun i hi => by simp; omega
    have s2 : x &&& 6148914691236517205 = D 2 32 (fun i => B (2 * i)) := by
      rw [hxD, m0, D_mask 1 32 _ (fun i hi => by have := hB i; omega)]
    show (x / 2 ^ 1 &&& 6148914691236517205) + (x &&& 6148914691236517205) = _
    rw [s1, s2, D_add]
  have hAl : ∀ i, A i ≤ 2 := fun i => by have := hB (2 * i + 1); have := hB (2 * i); show B (2 * i + 1) + B (2 * i) ≤ 2; omega
  let E : Nat → Nat := fun i => A (2 * i + 1) + A (2 * i)
  have hE : b = D 4 (2 * 8) E := by
    have s1 : a / 2 ^ 2 &&& 3689348814741910323 = D 4 16 (fun i => A (2 * i + 1)) := by
      have e1 : a / 2 ^ 2 = D 2 (2 * 16) (fun i => if i < 31 then A (i + 1) else 0) := by
        rw [← pad 2 31 (fun i => A (i + 1)), ← D_shr 2 31 A (by have := hAl 0; omega), ← hA]
      rw [e1, m1, D_mask 2 16 _ (fun i hi => by have := hAl (i + 1); split <;> omega)]
      exact D_congr _ _ fun i hi => by simp; omega
    have s2 : a &&& 3689348814741910323 = D 4 16 (fun i => A (2 * i)) := by
      rw [hA, m1, D_mask 2 16 _ (fun i hi => by have := hAl i; omega)]
    show (a / 2 ^ 2 &&& 3689348814741910323) + (a &&& 3689348814741910323) = _
    rw [s1, s2, D_add]
  have hEl : ∀ i, E i ≤ 4 := fun i => by have := hAl (2 * i + 1); have := hAl (2 * i); show A (2 * i + 1) + A (2 * i) ≤ 4; omega
  let F : Nat → Nat := fun i => (if i < 15 then E (i + 1) else 0) + E i
  have hF : b / 2 ^ 4 + b = D 4 (2 * 8) F := by
    have e1 : b / 2 ^ 4 = D 4 (2 * 8) (fun i => if i < 15 then E (i + 1) else 0) := by
      rw [← pad 4 15 (fun i => E (i + 1)), ← D_shr 4 15 E (by have := hEl 0; omega), ← hE]
    rw [e1]
    conv => lhs; rw [hE]
    rw [D_add]
  have hFl : ∀ i, F i ≤ 8 := fun i => by
    have := hEl (i + 1); have := hEl i
    show (if i < 15 then E (i + 1) else 0) + E i ≤ 8
    split <;> omega
  let G : Nat → Nat := fun i => F (2 * i)
  have hG : c = D 8 8 G := by
    show (b / 2 ^ 4 + b) &&& 1085102592571150095 = _
    rw [hF, m2, D_mask 4 8 _ (fun i hi => by have := hFl i; omega)]
  have hGl : ∀ i, G i ≤ 8 := fun i => hFl (2 * i)
  let G2 : Nat → Nat := fun i => G i + (if i < 7 then G (i + 1) else 0)
  have hd : d = D 8 8 G2 := by
    have e1 : c / 2 ^ 8 = D 8 8 (fun i => if i < 7 then G (i + 1) else 0) := by
      rw [← pad 8 7 (fun i => G (i + 1)), ← D_shr 8 7 G (by have := hGl 0; omega), ← hG]
    show c + c / 2 ^ 8 = _
    rw [e1]
    conv => lhs; rw [hG]
    rw [D_add]
  have hG2l : ∀ i, G2 i ≤ 16 := fun i => by
    have := hGl (i + 1); have := hGl i
    show G i + (if i < 7 then G (i + 1) else 0) ≤ 16
    split <;> omega
  have shr2 : ∀ (y : Nat) (k n : Nat) (d : Nat → Nat), y = D k (n + 2) d → d 0 < 2 ^ k → d 1 < 2 ^ k → y / 2 ^ (2 * k) = D k n (fun i => d (i + 2)) := by
    intro y k n d hy h0 h1
    rw [hy, show 2 * k = k + k by omega, Nat.pow_add, ← Nat.div_div_eq_div_mul, D_shr k (n + 1) d h0, D_shr k n _ h1]
  let G4 : Nat → Nat := fun i => G2 i + (if i < 6 then G2 (i + 2) else 0)
  have he : e = D 8 8 G4 := by
    have e1 : d / 2 ^ 16 = D 8 8 (fun i => if i < 6 then G2 (i + 2) else 0) := by
      have := shr2 d 8 6 G2 hd (by have := hG2l 0; omega) (by have := hG2l 1; omega)
      rw [show (16 : Nat) = 2 * 8 by rfl, this, pad 8 6, pad 8 7]
      exact D_congr _ _ fun i hi => by
        by_cases h1 : i < 6
        · simp [h1, show i < 7 by omega]
        · by_cases h2 : i < 7 <;> simp [h1, h2]
    show d + d / 2 ^ 16 = _
    rw [e1]
    conv => lhs; rw [hd]
    rw [D_add]
  have hG4l : ∀ i, G4 i ≤ 32 := fun i => by
    have := hG2l (i + 2); have := hG2l i
    show G2 i + (if i < 6 then G2 (i + 2) else 0) ≤ 32
    split <;> omega
  have e32 : e / 2 ^ 32 = G4 4 + 256 * (G4 5 + 256 * (G4 6 + 256 * G4 7)) := by
    have h0 := hG4l 0; have h1 := hG4l 1; have h2 := hG4l 2; have h3 := hG4l 3
    have e1 : e / 2 ^ 16 = D 8 6 (fun i => G4 (i + 2)) := shr2 e 8 6 G4 he (by omega) (by omega)
    have e2 : e / 2 ^ 32 = D 8 4 (fun i => G4 (i + 4)) := by
      have := shr2 (e / 2 ^ 16) 8 4 _ e1 (show G4 2 < 2 ^ 8 by omega) (show G4 3 < 2 ^ 8 by omega)
      rw [Nat.div_div_eq_div_mul, ← Nat.pow_add] at this
      exact this
    rw [e2]
    exact D8_4 G4
  have eX : e = G4 0 + 256 * (G4 1 + 256 * (G4 2 + 256 * (G4 3 + 256 * (G4 4 + 256 * (G4 5 + 256 * (G4 6 + 256 * G4 7)))))) := by
    rw [he]
    exact D8_8 G4
  have g0 := hG4l 0; have g1 := hG4l 1; have g2 := hG4l 2; have g3 := hG4l 3; have g4 := hG4l 4; have g5 := hG4l 5; have g6 := hG4l 6; have g7 := hG4l 7
  have hf : f = e + e / 2 ^ 32 := rfl
  have p63 : (2 : Nat) ^ 63 = 9223372036854775808 := by decide
  have hcnt : cnt x.testBit 64 = G4 0 + G4 4 := by
    rw [S_cnt]
    show S (2 * 32) B = _
    rw [S_half B 32]
    show S (2 * 16) A = _
    rw [S_half A 16]
    show S (2 * 8) E = _
    rw [S_half E 8]
    rw [S_congr 8 (e := G) (fun i hi => by show E (2 * i + 1) + E (2 * i) = (if 2 * i < 15 then E (2 * i + 1) else 0) + E (2 * i); rw [if_pos (by omega)])]
    exact S8 G G2 G4 (fun _ => rfl) (fun _ => rfl)
  refine ⟨?_, ?_, ?_, ?_, ?_, ?_, ?_, ?_⟩
  · rw [hA]; exact D_lt 2 32 A fun i _ => by have := hAl i; omega
  · rw [hE]; exact D_lt 4 16 E fun i _ => by have := hEl i; omega
  · rw [hF]; exact D_lt 4 16 F fun i _ => by have := hFl i; omega
  · rw [hG]; exact D_lt 8 8 G fun i _ => by have := hGl i; omega
  · rw [hd]; exact D_lt 8 8 G2 fun i _ => by have := hG2l i; omega
  · rw [he]; exact D_lt 8 8 G4 fun i _ => by have := hG4l i; omega
  · rw [hf, e32, eX, p63]
    exact fin1 _ _ _ _ _ _ _ _ g0 g1 g2 g3 g4 g5 g6 g7
  · rw [hf, e32, eX, hcnt]
    exact fin2 _ _ _ _ _ _ _ _ g0 g1 g2 g3 g4 g5 g6 g7
end Go.Proofs

namespace Go.Proofs
open Go.E

theorem u_andL {x y : Nat} {z : Int} (hz : z = (y : Int)) (hx : x < 18446744073709551616) (hy : y < 18446744073709551616) : binV .and (.int .u64 (x : Int)) (.int .u64 z) = some (.int .u64 ((x &&& y : Nat) : Int)) := by
  subst hz; exact u_and hx hy
theorem u_shrL {x y : Nat} {z : Int} (hz : z = (y : Int)) (hy : y < 64) : binV .shr (.int .u64 (x : Int)) (.int .u64 z) = some (.int .u64 ((x / 2 ^ y : Nat) : Int)) := by
  subst hz; exact u_shr hy
theorem u_addN {x y : Nat} (h : x + y < 18446744073709551616) : IntKind.u64.wrap ((x : Int) + (y : Int)) = ((x + y : Nat) : Int) := by
  rw [wrapU (by omega) (by omega)]; omega
theorem i_and127 {x : Nat} (hx : x < 9223372036854775808) : binV .and (.int .i64 (x : Int)) (.int .i64 127) = some (.int .i64 ((x % 128 : Nat) : Int)) := by
  have e : (BitVec.ofInt 64 (x : Int) &&& BitVec.ofInt 64 127).toNat = x % 128 := by
    have h127 : (BitVec.ofInt 64 127).toNat = 127 := by decide
    rw [BitVec.toNat_and, h127, BitVec.ofInt_natCast, BitVec.toNat_ofNat, Nat.mod_eq_of_lt (by omega)]
    exact Nat.and_two_pow_sub_one_eq_mod x 7
  show some (V.int .i64 (IntKind.i64.wrap ((BitVec.ofInt 64 (x : Int) &&& BitVec.ofInt 64 127).toNat : Int))) = _
  rw [e, wrap64 (by omega) (by omega)]

theorem pop_core {x a1 a2 a a3 b1 b2 b b3 c1 c0 c d1 d e1 e f1 f r : Nat} (h1 : binV .shr (.int .u64 (x : Int)) (.int .u64 1) = some (.int .u64 (a3 : Int))) (h2 : binV .and (.int .u64 (a3 : Int)) (.int .u64 6148914691236517205) = some (.int .u64 (a1 : Int))) (h3 : binV .and (.int .u64 (x : Int)) (.int .u64 6148914691236517205) = some (.int .u64 (a2 : Int))) (h4 : IntKind.u64.wrap ((a1 : Int) + (a2 : Int)) = (a : Int)) (h5 : binV .shr (.int .u64 (a : Int)) (.int .u64 2) = some (.int .u64 (b3 : Int))) (h6 : binV .and (.int .u64 (b3 : Int)) (.int .u64 3689348814741910323) = some (.int .u64 (b1 : Int))) (h7 : binV .and (.int .u64 (a : Int)) (.int .u64 3689348814741910323) = some (.int .u64 (b2 : Int))) (h8 : IntKind.u64.wrap ((b1 : Int) + (b2 : Int)) = (b : Int)) (h9 : binV .shr (.int .u64 (b : Int)) (.int .u64 4) = some (.int .u64 (c1 : Int))) (h10 : IntKind.u64.wrap ((c1 : Int) + (b : Int)) = (c0 : Int)) (h11 : binV .and (.int .u64 (c0 : Int)) (.int .u64 1085102592571150095) = some (.int .u64 (c : Int))) (h12 : binV .shr (.int .u64 (c : Int)) (.int .u64 8) = some (.int .u64 (d1 : Int))) (h13 : IntKind.u64.wrap ((c : Int) + (d1 : Int)) = (d : Int)) (h14 : binV .shr (.int .u64 (d : Int)) (.int .u64 16) = some (.int .u64 (e1 : Int))) (h15 : IntKind.u64.wrap ((d : Int) + (e1 : Int)) = (e : Int)) (h16 : binV .shr (.int .u64 (e : Int)) (.int .u64 32) = some (.int .u64 (f1 : Int))) (h17 : IntKind.u64.wrap ((e : Int) + (f1 : Int)) = (f : Int)) (hf : f < 9223372036854775808) (h18 : binV .and (.int .i64 (f : Int)) (.int .i64 127) = some (.int .i64 (r : Int))) : Pure Tryd.prog 29 [.int .u64 (x : Int)] (vi (r : Int)) := by
  refine pure_intro Tryd.func29 e29_nm e29_ok (by show 1 ≤ 35; decide) ?_
  show ewp _ e29n15 _ _
  have hc : IntKind.i64.wrap (f : Int) = (f : Int) := wrap64 (by omega) (by omega)
  repeat' with_reducible first
    | refine ewp_reg_seq ?_ | refine ewp_seq ?_ | refine ewp_reg ?_ | refine ewp_skip ?_ | refine ewp_ret ?_ | refine ewp_block ?_ | refine ewp_exit ?_ | refine xt_n ?_ | refine xt_r ?_ | refine xt_e ?_ | refine xb_n ?_ | refine xb_r ?_ | refine xb_e ?_ | refine xb_x (by decide) ?_
    | simp -implicitDefEqProofs only [wS, wT, wU, wV, wW, wX, wY, wL, wM, wN, Nat.reduceEqDiff, ↓reduceIte, reduceCtorEq, Nat.reduceAdd, Int.cast_ofNat_Int, Int.reduceLT, Int.reduceLE, Int.reduceEq, Int.reduceToNat, decide_true, decide_false, Bool.false_eq_true, h1, h2, h3, h4, h5, h6, h7, h8, h9, h10, h11, h12, h13, h14, h15, h16, h17, h18, hc]
    | simp -implicitDefEqProofs (disch := omega) only [w64, if_neg]
  refine post1 rfl (Or.inr rfl) ?_
  simp -implicitDefEqProofs only [wL, Nat.reduceEqDiff, ↓reduceIte, reduceCtorEq]
  first | refine er_bool ?_ | refine er_int ?_ | refine er_str ?_ | refine er_sl_eq ?_ | refine er_asl_eq ?_
  try (with_reducible rfl)

theorem pop_fin {x a b c0 c d e f M : Nat} (hM : M = 18446744073709551616) (hx : x < M) (ha : (x / 2 ^ 1 &&& 6148914691236517205) + (x &&& 6148914691236517205) = a) (hb : (a / 2 ^ 2 &&& 3689348814741910323) + (a &&& 3689348814741910323) = b)
    (hc0 : b / 2 ^ 4 + b = c0) (hc : c0 &&& 1085102592571150095 = c) (hd : c + c / 2 ^ 8 = d) (he : d + d / 2 ^ 16 = e) (hf : e + e / 2 ^ 32 = f)
    (la : a < M) (lb : b < M) (lc0 : c0 < M) (lc : c < M) (ld : d < M) (le : e < M) (lf : f < 9223372036854775808) : Pure Tryd.prog 29 [.int .u64 (x : Int)] (vi ((f % 128 : Nat) : Int)) := by
  have g : ∀ {u v w : Nat}, u + v = w → w < M → IntKind.u64.wrap ((u : Int) + (v : Int)) = (w : Int) := fun h1 h2 => by rw [u_addN (by omega)]; omega
  subst hM
  refine pop_core (u_shrL (y := 1) rfl (by omega)) (u_andL (y := 6148914691236517205) rfl (by omega) (by omega)) (u_andL (y := 6148914691236517205) rfl (by omega) (by omega)) (g ha la) (u_shrL (y := 2) rfl (by omega)) (u_andL (y := 3689348814741910323) rfl (by omega) (by omega)) (u_andL (y := 3689348814741910323) rfl (by omega) (by omega)) (g hb lb) (u_shrL (y := 4) rfl (by omega)) (g hc0 lc0) ?_ (u_shrL (y := 8) rfl (by omega)) (g hd ld) (u_shrL (y := 16) rfl (by omega)) (g he le) (u_shrL (y := 32) rfl (by omega)) (g hf (by omega)) lf (i_and127 lf)
  rw [← hc]; exact u_andL rfl (by omega) (by omega)
theorem math_bits_OnesCount64 {x : Nat} (hx : x < 18446744073709551616) : Pure Tryd.prog 29 [.int .u64 (x : Int)] (vi (cnt x.testBit 64 : Nat)) := by
  have h := pop_steps x (by rw [p64]; exact hx)
  simp only at h
  obtain ⟨l1, l2, l3, l4, l5, l6, l7, l8⟩ := h
  rw [← l8]
  rw [p64] at l1 l2 l3 l4 l5 l6
  exact pop_fin rfl hx rfl rfl rfl rfl rfl rfl rfl l1 l2 l3 l4 l5 l6 l7
end Go.Proofs


namespace Go.Proofs
open Go.E

theorem cnt_add (p : Nat → Bool) (a d : Nat) : cnt p (a + d) = cnt p a + cnt (fun b => p (a + b)) d := by
  induction d with
  | zero => rfl
  | succ d ih => rw [← Nat.add_assoc, cnt_succ, ih, cnt_succ, Nat.add_assoc]
theorem cnt_congr {p q : Nat → Bool} : ∀ (n : Nat), (∀ i, i < n → p i = q i) → cnt p n = cnt q n
  | 0, _ => rfl
  | n + 1, h => by rw [cnt_succ, cnt_succ, cnt_congr n fun i hi => h i (by omega), h n (by omega)]
theorem cnt_le (p : Nat → Bool) (n : Nat) : cnt p n ≤ n := by
  unfold cnt; exact Nat.le_trans (List.length_filter_le _ _) (by simp)
theorem lst_length (m : Nat → Bool) (n : Nat) : (lst m n).length = cnt m n := by simp [lst, cnt]

theorem bits_Set_Len {m : Nat → Bool}  : Pure Tryd.prog 14 [setC m] (vi (cnt m 1024 : Nat)) := by
  refine pure_intro Tryd.func14 e14_nm e14_ok (by show 1 ≤ 17; decide) ?_
  show ewp _ e14n20 _ _
  repeat' with_reducible first
    | refine ewp_reg_seq ?_ | refine ewp_seq ?_ | refine ewp_reg ?_ | refine ewp_skip ?_ | refine ewp_ret ?_ | refine ewp_block ?_ | refine ewp_exit ?_ | refine xt_n ?_ | refine xt_r ?_ | refine xt_e ?_ | refine xb_n ?_ | refine xb_r ?_ | refine xb_e ?_ | refine xb_x (by decide) ?_
    | refine ewp_condQ ?_ | refine condQ_T ?_ | refine condQ_F ?_
    | simp -implicitDefEqProofs only [wS, wT, wU, wV, wW, wX, wY, wL, wM, wN, Nat.reduceEqDiff, ↓reduceIte, reduceCtorEq, Nat.reduceAdd, Int.cast_ofNat_Int, Int.reduceLT, Int.reduceLE, Int.reduceEq, Int.reduceToNat, decide_true, decide_false, Bool.false_eq_true]
    | (refine condQ_i (fun h => ?_) (fun h => ?_) <;> have h_ := h <;> (try simp only [wD, reduceCtorEq] at h_) <;> (try (exfalso; first | omega | (refine absurd ?_ h_; focus assumption) | (refine absurd h_ ?_; focus assumption))) <;> (try simp only [h]))
    | (apply boxQ_i; (focus (with_unfolding_all exact cellsW_len _)); (focus with_unfolding_all rfl))
    | (apply ldQ_whole)
    | (apply ldQ_whole)
    | (apply ldQ_obj; (focus (first | assumption | exact List.getElem?_eq_getElem (by omega) | rfl)); (focus with_unfolding_all rfl))
    | (apply ldQ_cell; (focus with_unfolding_all rfl))
    | (apply ldQ_one; (focus with_unfolding_all rfl))
    | (apply ld_ipQ; (focus with_unfolding_all rfl))
    | (apply boxQ_i; (focus with_unfolding_all rfl); (focus with_unfolding_all rfl))
    | (apply callQ1 (hp := math_bits_OnesCount64 ?_); (focus (first | exact er_intsL | exact er_cl | exact er_sl | exact er_asl)); rotate_left; (focus (first | assumption | omega | (simp only [wZ]; omega) | trivial)))
    | simp -implicitDefEqProofs (disch := omega) only [w64, if_neg]
  refine ewp_loopN ?nx1 (fun (k : Nat) s => s.f 7 = ?v1_7 ∧ s.f 3 = vi (cnt m (64 * k) : Nat) ∧ s.f 8 = vi k ∧ (k ≤ 16)) (fun k => 16 - k) (0) (by simp -implicitDefEqProofs only [wN, Nat.reduceAdd, Nat.zero_add]; exact Nat.le_refl _) (by refine ⟨?_, ?_, ?_, (by first | omega | (simp; done) | assumption)⟩ <;> first | (simp -implicitDefEqProofs only [wL, wM, wN, wX, Nat.reduceEqDiff, ↓reduceIte, reduceCtorEq, Nat.reduceAdd, Option.some.injEq] <;> first | rfl | exact ⟨_, rfl⟩ | exact ⟨_, rfl, by first | assumption | exact Gr.nil | exact Gr.tok rfl (by omega) | exact Gr.tok (by simp -implicitDefEqProofs only [wM, Nat.reduceEqDiff, ↓reduceIte, reduceCtorEq] <;> rfl) (by omega) | exact Gr.clip⟩) | rfl | exact ⟨_, rfl⟩) ?_
  intro k s hnx ⟨g7, g3, g8, k1_0⟩
  by_cases hk : k < 16
  · have hw := word_lt m k
    have h1 := cnt_le (word m k).testBit 64
    have h2 := cnt_le m (64 * k)
    have e : cnt m (64 * (k + 1)) = cnt m (64 * k) + cnt (word m k).testBit 64 := by
      rw [show 64 * (k + 1) = 64 * k + 64 by omega, cnt_add]
      congr 1
      exact cnt_congr 64 fun i hi => (word_bit m k i hi).symm
    have e2 : ((cnt m (64 * k) : Int) + (cnt (word m k).testBit 64 : Int)) = ((cnt m (64 * (k + 1)) : Nat) : Int) := by omega
    repeat' with_reducible first
      | refine ewp_reg_seq ?_ | refine ewp_seq ?_ | refine ewp_reg ?_ | refine ewp_skip ?_ | refine ewp_ret ?_ | refine ewp_block ?_ | refine ewp_exit ?_ | refine xt_n ?_ | refine xt_r ?_ | refine xt_e ?_ | refine xb_n ?_ | refine xb_r ?_ | refine xb_e ?_ | refine xb_x (by decide) ?_
      | refine ewp_condQ ?_ | refine condQ_T ?_ | refine condQ_F ?_
      | simp -implicitDefEqProofs only [wS, wT, wU, wV, wW, wX, wY, wL, wM, wN, Nat.reduceEqDiff, ↓reduceIte, reduceCtorEq, Nat.reduceAdd, Int.cast_ofNat_Int, Int.reduceLT, Int.reduceLE, Int.reduceEq, Int.reduceToNat, decide_true, decide_false, Bool.false_eq_true, g7, g3, g8, e2]
      | (refine condQ_i (fun h => ?_) (fun h => ?_) <;> have h_ := h <;> (try simp only [wD, reduceCtorEq] at h_) <;> (try (exfalso; first | omega | (refine absurd ?_ h_; focus assumption) | (refine absurd h_ ?_; focus assumption))) <;> (try simp only [h]))
      | refine onS_i (ixA_1 (by omega) (cellsW_get _ (by omega))) ?_
      | (apply ldQ_whole)
      | (apply ldQ_obj; (focus (first | assumption | exact List.getElem?_eq_getElem (by omega) | rfl)); (focus with_unfolding_all rfl))
      | (apply ldQ_cell; (focus with_unfolding_all rfl))
      | (apply ldQ_one; (focus with_unfolding_all rfl))
      | (apply ld_ipQ; (focus with_unfolding_all rfl))
      | (apply boxQ_i; (focus with_unfolding_all rfl); (focus with_unfolding_all rfl))
      | (apply callQ1 (hp := math_bits_OnesCount64 ?_); (focus (first | exact er_intsL | exact er_cl | exact er_sl | exact er_asl)); rotate_left; (focus (first | assumption | omega | (simp only [wZ]; omega) | trivial)))
      | simp -implicitDefEqProofs (disch := omega) only [w64, if_neg]
    refine ⟨(by first | assumption | omega | (simp -implicitDefEqProofs only [wN]; omega)), k + 1, (by omega), ?_⟩
    refine ⟨?_, ?_, ?_, ?_⟩
    iterate 3 (focus (first | (simp -implicitDefEqProofs only [wL, wM, wN, wX, Nat.reduceEqDiff, ↓reduceIte, reduceCtorEq, Nat.reduceAdd, Option.some.injEq, g7, g3, g8] <;> first | rfl | exact ⟨_, rfl⟩ | exact ⟨_, rfl, by first | assumption | exact Gr.nil | exact Gr.tok rfl (by omega) | exact Gr.tok (by simp -implicitDefEqProofs only [wM, Nat.reduceEqDiff, ↓reduceIte, reduceCtorEq] <;> rfl) (by omega) | exact Gr.clip⟩) | rfl | exact ⟨_, rfl⟩))
    all_goals try omega
  · obtain rfl : k = 16 := by omega
    repeat' with_reducible first
      | refine ewp_reg_seq ?_ | refine ewp_seq ?_ | refine ewp_reg ?_ | refine ewp_skip ?_ | refine ewp_ret ?_ | refine ewp_block ?_ | refine ewp_exit ?_ | refine xt_n ?_ | refine xt_r ?_ | refine xt_e ?_ | refine xb_n ?_ | refine xb_r ?_ | refine xb_e ?_ | refine xb_x (by decide) ?_
      | refine ewp_condQ ?_ | refine condQ_T ?_ | refine condQ_F ?_
      | simp -implicitDefEqProofs only [wS, wT, wU, wV, wW, wX, wY, wL, wM, wN, Nat.reduceEqDiff, ↓reduceIte, reduceCtorEq, Nat.reduceAdd, Int.cast_ofNat_Int, Int.reduceLT, Int.reduceLE, Int.reduceEq, Int.reduceToNat, decide_true, decide_false, Bool.false_eq_true, g7, g3, g8]
      | (refine condQ_i (fun h => ?_) (fun h => ?_) <;> have h_ := h <;> (try simp only [wD, reduceCtorEq] at h_) <;> (try (exfalso; first | omega | (refine absurd ?_ h_; focus assumption) | (refine absurd h_ ?_; focus assumption))) <;> (try simp only [h]))
      | (apply ldQ_whole)
      | (apply ldQ_obj; (focus (first | assumption | exact List.getElem?_eq_getElem (by omega) | rfl)); (focus with_unfolding_all rfl))
      | (apply ldQ_cell; (focus with_unfolding_all rfl))
      | (apply ldQ_one; (focus with_unfolding_all rfl))
      | (apply ld_ipQ; (focus with_unfolding_all rfl))
      | (apply boxQ_i; (focus with_unfolding_all rfl); (focus with_unfolding_all rfl))
      | (apply callQ1 (hp := math_bits_OnesCount64 ?_); (focus (first | exact er_intsL | exact er_cl | exact er_sl | exact er_asl)); rotate_left; (focus (first | assumption | omega | (simp only [wZ]; omega) | trivial)))
      | simp -implicitDefEqProofs (disch := omega) only [w64, if_neg]
    refine post1 rfl (Or.inr rfl) ?_
    simp -implicitDefEqProofs only [wL, Nat.reduceEqDiff, ↓reduceIte, reduceCtorEq, g7, g3, g8]
    first | refine er_bool ?_ | refine er_int ?_ | refine er_str ?_ | refine er_sl_eq ?_ | refine er_asl_eq ?_
    try (with_reducible rfl)

theorem unS_eq {k s : Nat} (h1 : tri s ≤ k) (h2 : k < tri (s + 1)) : unS k = s := tri_uniq (unS_spec k).1 (unS_spec k).2 h1 h2
theorem unpairF_pairF {i j : Int} (h1 : 0 ≤ i) (h2 : i ≤ 999) (h3 : 0 ≤ j) (h4 : j ≤ 999) : unpairF (pairF i j) = (i, j) := by
  obtain ⟨a, rfl⟩ : ∃ a : Nat, i = a := ⟨i.toNat, by omega⟩
  obtain ⟨b, rfl⟩ : ∃ b : Nat, j = b := ⟨j.toNat, by omega⟩
  have hp : pairF a b = ((tri (a + b) + a : Nat) : Int) := by
    unfold pairF tri
    rw [if_neg (by omega)]
    have : ((a : Int) + b) * ((a : Int) + b + 1) = (((a + b) * (a + b + 1) : Nat) : Int) := by push_cast; rfl
    rw [this]
    omega
  have hs := tri_succ (a + b)
  have hu : unS (tri (a + b) + a) = a + b := unS_eq (by omega) (by omega)
  have hm := tri_mono (show a + b ≤ 1998 by omega)
  have ht : tri 1998 = 1997001 := by decide
  rw [hp]
  unfold unpairF
  rw [if_neg (by omega)]
  simp only [Int.toNat_natCast, hu]
  rw [if_neg (by omega)]
  refine Prod.ext ?_ ?_ <;> simp <;> omega
theorem pairF_next {i j : Int} (h1 : 0 ≤ i) (h2 : i < 999) (h3 : 0 < j) (h4 : j ≤ 999) : pairF (i + 1) (j - 1) = pairF i j + 1 := by
  unfold pairF
  rw [if_neg (by omega), if_neg (by omega), show i + 1 + (j - 1) = i + j by omega]
  omega
theorem pairF_le {i j : Int} : -1 ≤ pairF i j ∧ pairF i j ≤ 1998000 := by
  unfold pairF
  split
  · omega
  · obtain ⟨a, rfl⟩ : ∃ a : Nat, i = a := ⟨i.toNat, by omega⟩
    obtain ⟨b, rfl⟩ : ∃ b : Nat, j = b := ⟨j.toNat, by omega⟩
    have : ((a : Int) + b) * ((a : Int) + b + 1) = (((a + b) * (a + b + 1) : Nat) : Int) := by push_cast; rfl
    rw [this]
    have h2 : (a + b) * (a + b + 1) ≤ 1998 * 1999 := Nat.mul_le_mul (by omega) (by omega)
    omega

theorem yuccalaw1_wakes   : Pure Tryd.prog 8 [] (.bool true) := by
  refine pure_intro Tryd.func8 e8_nm e8_ok (by show 0 ≤ 44; decide) ?_
  show ewp _ e8n7 _ _
  have w1 : unpairF 4 = (1, 1) := by
    have : pairF 1 1 = 4 := by decide
    rw [← this]; exact unpairF_pairF (by omega) (by omega) (by omega) (by omega)
  have w2 : cnt (memS [5, 1, 2000, 1]) 1024 = 2 := by decide +kernel
  have w3 : lst (memS [5, 1, 2000, 1]) 1024 = [1, 5] := by decide +kernel
  have w4 : memS [5, 1, 2000, 1] 5 = true := by decide
  have w5 : pairF 1 1 = 4 := by decide
  have w6 : pairF (-1) 3 = -1 := by decide
  repeat' with_reducible first
    | refine ewp_reg_seq ?_ | refine ewp_seq ?_ | refine ewp_reg ?_ | refine ewp_skip ?_ | refine ewp_ret ?_ | refine ewp_block ?_ | refine ewp_exit ?_ | refine xt_n ?_ | refine xt_r ?_ | refine xt_e ?_ | refine xb_n ?_ | refine xb_r ?_ | refine xb_e ?_ | refine xb_x (by decide) ?_
    | refine L_gdQ ?_ | refine gdQ_TT ?_ | refine gdQ_FF ?_ | refine gdQ_TF ?_ | refine gdQ_FT ?_ | refine gdQ_u ?_
    | simp -implicitDefEqProofs only [wS, wT, wU, wV, wW, wX, wY, wL, wM, wN, Nat.reduceEqDiff, ↓reduceIte, reduceCtorEq, Nat.reduceAdd, Int.cast_ofNat_Int, Int.reduceLT, Int.reduceLE, Int.reduceEq, Int.reduceToNat, decide_true, decide_false, Bool.false_eq_true, w1, w2, w3, w4, w5, w6]
    | ((first | refine gdQ_iT (fun h => ?_) (fun h => ?_) | refine gdQ_iF (fun h => ?_) (fun h => ?_)) <;> have h_ := h <;> (try simp only [wD, reduceCtorEq] at h_) <;> (try (exfalso; first | omega | (refine absurd ?_ h_; focus assumption) | (refine absurd h_ ?_; focus assumption))) <;> (try simp only [h]))
    | (apply stQ_whole; (focus with_unfolding_all rfl); (focus (exact cellsW_len _)))
    | (apply ldQ_whole)
    | (apply ldQ_obj; (focus (first | assumption | exact List.getElem?_eq_getElem (by omega) | rfl)); (focus with_unfolding_all rfl))
    | (apply ldQ_cell; (focus with_unfolding_all rfl))
    | (apply ldQ_one; (focus with_unfolding_all rfl))
    | (apply ld_ipQ; (focus with_unfolding_all rfl))
    | (apply stQ_whole; (focus with_unfolding_all rfl); (focus with_unfolding_all rfl))
    | (apply stQ_obj; (focus (first | assumption | omega | (simp only [wZ]; omega) | trivial)); (focus with_unfolding_all rfl); (focus with_unfolding_all rfl); (focus (intro _; with_unfolding_all rfl)))
    | (apply stQ_one; (focus with_unfolding_all rfl); (focus with_unfolding_all rfl); (focus with_unfolding_all rfl))
    | (apply stQ_cell; (focus with_unfolding_all rfl); (focus with_unfolding_all rfl); (focus with_unfolding_all rfl); (focus (first | assumption | omega | (simp only [wZ]; omega) | trivial)))
    | (apply callQ1 (hp := bits_Of ?_); (focus (first | exact er_intsL | exact er_cl | exact er_sl | exact er_asl)); rotate_left; (focus (first | assumption | omega | (simp only [wZ]; omega) | trivial)))
    | (apply callQ1 (hp := bits_Unpair); (focus (first | exact er_intsL | exact er_cl | exact er_sl | exact er_asl)))
    | (apply callQ2 (hp := bits_Set_Has); (focus (first | exact er_intsL | exact er_cl | exact er_sl | exact er_asl)); (focus (first | exact er_intsL | exact er_cl | exact er_sl | exact er_asl)))
    | (apply callQ1 (hp := bits_Set_Len); (focus (first | exact er_intsL | exact er_cl | exact er_sl | exact er_asl)))
    | (apply callQ1 (hp := bits_Set_List); (focus (first | exact er_intsL | exact er_cl | exact er_sl | exact er_asl)))
    | (apply callQ2 (hp := yuccaref0_EqInts ?_ ?_); (focus (first | exact er_intsL | exact er_cl | exact er_sl | exact er_asl)); (focus (first | exact er_intsL | exact er_cl | exact er_sl | exact er_asl)); rotate_left; (focus (first | assumption | omega | (simp only [wZ]; omega) | trivial)); (focus (first | assumption | omega | (simp only [wZ]; omega) | trivial)))
    | (apply callQ2 (hp := bits_Pair); (focus (first | exact er_intsL | exact er_cl | exact er_sl | exact er_asl)); (focus (first | exact er_intsL | exact er_cl | exact er_sl | exact er_asl)))
    | simp -implicitDefEqProofs (disch := omega) only [w64, if_neg]
  refine post1 rfl (Or.inr rfl) ?_
  simp -implicitDefEqProofs only [wL, Nat.reduceEqDiff, ↓reduceIte, reduceCtorEq]
  first | refine er_bool ?_ | refine er_int ?_ | refine er_str ?_ | refine er_sl_eq ?_ | refine er_asl_eq ?_
  try (with_reducible rfl)

theorem yuccalaw1_BitsPairs {i j k : Int}  : Pure Tryd.prog 4 [vi i, vi j, vi k] (.bool true) := by
  refine pure_intro Tryd.func4 e4_nm e4_ok (by show 3 ≤ 40; decide) ?_
  show ewp _ e4n13 _ _
  repeat' with_reducible first
    | refine ewp_reg_seq ?_ | refine ewp_seq ?_ | refine ewp_reg ?_ | refine ewp_skip ?_ | refine ewp_ret ?_ | refine ewp_block ?_ | refine ewp_exit ?_ | refine xt_n ?_ | refine xt_r ?_ | refine xt_e ?_ | refine xb_n ?_ | refine xb_r ?_ | refine xb_e ?_ | refine xb_x (by decide) ?_
    | refine ewp_condQ ?_ | refine condQ_T ?_ | refine condQ_F ?_
    | refine L_gdQ ?_ | refine gdQ_TT ?_ | refine gdQ_FF ?_ | refine gdQ_TF ?_ | refine gdQ_FT ?_ | refine gdQ_u ?_
    | simp -implicitDefEqProofs only [wS, wT, wU, wV, wW, wX, wY, wL, wM, wN, Nat.reduceEqDiff, ↓reduceIte, reduceCtorEq, Nat.reduceAdd, Int.cast_ofNat_Int, Int.reduceLT, Int.reduceLE, Int.reduceEq, Int.reduceToNat, decide_true, decide_false, Bool.false_eq_true]
    | (refine condQ_i (fun h => ?_) (fun h => ?_) <;> have h_ := h <;> (try simp only [wD, reduceCtorEq] at h_) <;> (try (exfalso; first | omega | (refine absurd ?_ h_; focus assumption) | (refine absurd h_ ?_; focus assumption))) <;> (try simp only [h]))
    | ((first | refine gdQ_iT (fun h => ?_) (fun h => ?_) | refine gdQ_iF (fun h => ?_) (fun h => ?_)) <;> have h_ := h <;> (try simp only [wD, reduceCtorEq] at h_) <;> (try (exfalso; first | omega | (refine absurd ?_ h_; focus assumption) | (refine absurd h_ ?_; focus assumption))) <;> (try simp only [h]))
    | (apply callQ0 (hp := yuccalaw1_wakes))
    | (apply callQ1 (hp := bits_Unpair); (focus (first | exact er_intsL | exact er_cl | exact er_sl | exact er_asl)))
    | (apply callQ1 (hp := yuccaref1_Unpair); (focus (first | exact er_intsL | exact er_cl | exact er_sl | exact er_asl)))
    | (apply callQ2 (hp := bits_Pair); (focus (first | exact er_intsL | exact er_cl | exact er_sl | exact er_asl)); (focus (first | exact er_intsL | exact er_cl | exact er_sl | exact er_asl)))
    | (apply callQ2 (hp := yuccaref1_Pair); (focus (first | exact er_intsL | exact er_cl | exact er_sl | exact er_asl)); (focus (first | exact er_intsL | exact er_cl | exact er_sl | exact er_asl)))
    | simp -implicitDefEqProofs (disch := omega) only [w64, if_neg]
  refine post1 rfl (Or.inr rfl) ?_
  simp -implicitDefEqProofs only [wL, Nat.reduceEqDiff, ↓reduceIte, reduceCtorEq]
  first | refine er_bool ?_ | refine er_int ?_ | refine er_str ?_ | refine er_sl_eq ?_ | refine er_asl_eq ?_
  try (with_reducible rfl)

theorem yuccalaw1_BitsTurns {i j : Int}  : Pure Tryd.prog 5 [vi i, vi j] (.bool true) := by
  refine pure_intro Tryd.func5 e5_nm e5_ok (by show 2 ≤ 62; decide) ?_
  show ewp _ e5n17 _ _
  by_cases h : i < 0 ∨ 999 < i ∨ j < 0 ∨ 999 < j
  · have e : pairF i j = -1 := by unfold pairF; rw [if_pos h]
    repeat' with_reducible first
      | refine ewp_reg_seq ?_ | refine ewp_seq ?_ | refine ewp_reg ?_ | refine ewp_skip ?_ | refine ewp_ret ?_ | refine ewp_block ?_ | refine ewp_exit ?_ | refine xt_n ?_ | refine xt_r ?_ | refine xt_e ?_ | refine xb_n ?_ | refine xb_r ?_ | refine xb_e ?_ | refine xb_x (by decide) ?_
      | refine ewp_condQ ?_ | refine condQ_T ?_ | refine condQ_F ?_
      | refine L_gdQ ?_ | refine gdQ_TT ?_ | refine gdQ_FF ?_ | refine gdQ_TF ?_ | refine gdQ_FT ?_ | refine gdQ_u ?_
      | simp -implicitDefEqProofs only [wS, wT, wU, wV, wW, wX, wY, wL, wM, wN, Nat.reduceEqDiff, ↓reduceIte, reduceCtorEq, Nat.reduceAdd, Int.cast_ofNat_Int, Int.reduceLT, Int.reduceLE, Int.reduceEq, Int.reduceToNat, decide_true, decide_false, Bool.false_eq_true, e]
      | (refine condQ_i (fun h => ?_) (fun h => ?_) <;> have h_ := h <;> (try simp only [wD, reduceCtorEq] at h_) <;> (try (exfalso; first | omega | (refine absurd ?_ h_; focus assumption) | (refine absurd h_ ?_; focus assumption))) <;> (try simp only [h]))
      | ((first | refine gdQ_iT (fun h => ?_) (fun h => ?_) | refine gdQ_iF (fun h => ?_) (fun h => ?_)) <;> have h_ := h <;> (try simp only [wD, reduceCtorEq] at h_) <;> (try (exfalso; first | omega | (refine absurd ?_ h_; focus assumption) | (refine absurd h_ ?_; focus assumption))) <;> (try simp only [h]))
      | (apply callQ0 (hp := yuccalaw1_wakes))
      | (apply callQ2 (hp := bits_Pair); (focus (first | exact er_intsL | exact er_cl | exact er_sl | exact er_asl)); (focus (first | exact er_intsL | exact er_cl | exact er_sl | exact er_asl)))
      | (apply callQ1 (hp := bits_Unpair); (focus (first | exact er_intsL | exact er_cl | exact er_sl | exact er_asl)))
      | simp -implicitDefEqProofs (disch := omega) only [w64, if_neg]
    all_goals refine post1 rfl (Or.inr rfl) ?_
    all_goals (try simp -implicitDefEqProofs only [wL, Nat.reduceEqDiff, ↓reduceIte, reduceCtorEq])
    all_goals (first | refine er_bool ?_ | refine er_int ?_ | refine er_str ?_ | refine er_sl_eq ?_ | refine er_asl_eq ?_)
    all_goals (try (with_reducible rfl))
  · have e := unpairF_pairF (i := i) (j := j) (by omega) (by omega) (by omega) (by omega)
    have hp := pairF_le (i := i) (j := j)
    by_cases h2 : i = 999 ∨ j = 0
    · repeat' with_reducible first
        | refine ewp_reg_seq ?_ | refine ewp_seq ?_ | refine ewp_reg ?_ | refine ewp_skip ?_ | refine ewp_ret ?_ | refine ewp_block ?_ | refine ewp_exit ?_ | refine xt_n ?_ | refine xt_r ?_ | refine xt_e ?_ | refine xb_n ?_ | refine xb_r ?_ | refine xb_e ?_ | refine xb_x (by decide) ?_
        | refine ewp_condQ ?_ | refine condQ_T ?_ | refine condQ_F ?_
        | refine L_gdQ ?_ | refine gdQ_TT ?_ | refine gdQ_FF ?_ | refine gdQ_TF ?_ | refine gdQ_FT ?_ | refine gdQ_u ?_
        | simp -implicitDefEqProofs only [wS, wT, wU, wV, wW, wX, wY, wL, wM, wN, Nat.reduceEqDiff, ↓reduceIte, reduceCtorEq, Nat.reduceAdd, Int.cast_ofNat_Int, Int.reduceLT, Int.reduceLE, Int.reduceEq, Int.reduceToNat, decide_true, decide_false, Bool.false_eq_true, e]
        | (refine condQ_i (fun h => ?_) (fun h => ?_) <;> have h_ := h <;> (try simp only [wD, reduceCtorEq] at h_) <;> (try (exfalso; first | omega | (refine absurd ?_ h_; focus assumption) | (refine absurd h_ ?_; focus assumption))) <;> (try simp only [h]))
        | ((first | refine gdQ_iT (fun h => ?_) (fun h => ?_) | refine gdQ_iF (fun h => ?_) (fun h => ?_)) <;> have h_ := h <;> (try simp only [wD, reduceCtorEq] at h_) <;> (try (exfalso; first | omega | (refine absurd ?_ h_; focus assumption) | (refine absurd h_ ?_; focus assumption))) <;> (try simp only [h]))
        | (apply callQ0 (hp := yuccalaw1_wakes))
        | (apply callQ2 (hp := bits_Pair); (focus (first | exact er_intsL | exact er_cl | exact er_sl | exact er_asl)); (focus (first | exact er_intsL | exact er_cl | exact er_sl | exact er_asl)))
        | (apply callQ1 (hp := bits_Unpair); (focus (first | exact er_intsL | exact er_cl | exact er_sl | exact er_asl)))
        | simp -implicitDefEqProofs (disch := omega) only [w64, if_neg]
      all_goals refine post1 rfl (Or.inr rfl) ?_
      all_goals (try simp -implicitDefEqProofs only [wL, Nat.reduceEqDiff, ↓reduceIte, reduceCtorEq])
      all_goals (first | refine er_bool ?_ | refine er_int ?_ | refine er_str ?_ | refine er_sl_eq ?_ | refine er_asl_eq ?_)
      all_goals (try (with_reducible rfl))
    · have e3 := pairF_next (i := i) (j := j) (by omega) (by omega) (by omega) (by omega)
      repeat' with_reducible first
        | refine ewp_reg_seq ?_ | refine ewp_seq ?_ | refine ewp_reg ?_ | refine ewp_skip ?_ | refine ewp_ret ?_ | refine ewp_block ?_ | refine ewp_exit ?_ | refine xt_n ?_ | refine xt_r ?_ | refine xt_e ?_ | refine xb_n ?_ | refine xb_r ?_ | refine xb_e ?_ | refine xb_x (by decide) ?_
        | refine ewp_condQ ?_ | refine condQ_T ?_ | refine condQ_F ?_
        | refine L_gdQ ?_ | refine gdQ_TT ?_ | refine gdQ_FF ?_ | refine gdQ_TF ?_ | refine gdQ_FT ?_ | refine gdQ_u ?_
        | simp -implicitDefEqProofs only [wS, wT, wU, wV, wW, wX, wY, wL, wM, wN, Nat.reduceEqDiff, ↓reduceIte, reduceCtorEq, Nat.reduceAdd, Int.cast_ofNat_Int, Int.reduceLT, Int.reduceLE, Int.reduceEq, Int.reduceToNat, decide_true, decide_false, Bool.false_eq_true, e, e3]
        | (refine condQ_i (fun h => ?_) (fun h => ?_) <;> have h_ := h <;> (try simp only [wD, reduceCtorEq] at h_) <;> (try (exfalso; first | omega | (refine absurd ?_ h_; focus assumption) | (refine absurd h_ ?_; focus assumption))) <;> (try simp only [h]))
        | ((first | refine gdQ_iT (fun h => ?_) (fun h => ?_) | refine gdQ_iF (fun h => ?_) (fun h => ?_)) <;> have h_ := h <;> (try simp only [wD, reduceCtorEq] at h_) <;> (try (exfalso; first | omega | (refine absurd ?_ h_; focus assumption) | (refine absurd h_ ?_; focus assumption))) <;> (try simp only [h]))
        | (apply callQ0 (hp := yuccalaw1_wakes))
        | (apply callQ2 (hp := bits_Pair); (focus (first | exact er_intsL | exact er_cl | exact er_sl | exact er_asl)); (focus (first | exact er_intsL | exact er_cl | exact er_sl | exact er_asl)))
        | (apply callQ1 (hp := bits_Unpair); (focus (first | exact er_intsL | exact er_cl | exact er_sl | exact er_asl)))
        | simp -implicitDefEqProofs (disch := omega) only [w64, if_neg]
      all_goals refine post1 rfl (Or.inr rfl) ?_
      all_goals (try simp -implicitDefEqProofs only [wL, Nat.reduceEqDiff, ↓reduceIte, reduceCtorEq])
      all_goals (first | refine er_bool ?_ | refine er_int ?_ | refine er_str ?_ | refine er_sl_eq ?_ | refine er_asl_eq ?_)
      all_goals (try (with_reducible rfl))
end Go.Proofs
