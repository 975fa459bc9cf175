/- Part of a proof that a law of the given program answers true. -/
import Derived.Test.YtpnfbnlhjdnnpaaWKA
set_option linter.unusedSimpArgs false
set_option linter.unusedVariables false
set_option maxHeartbeats 4000000
namespace Go.Proofs
open Go.E
theorem eq_of_get {α : Type} {a b : List α} {k : Nat} (hk : ∀ i, i < k → a[i]? = b[i]?) (h1 : a.length ≤ k) (h2 : b.length ≤ k) : a = b := by
 refine List.ext_getElem? fun i => ?_
 by_cases hi : i < k
 · exact hk i hi
 · rw [List.getElem?_eq_none (by omega), List.getElem?_eq_none (by omega)]
theorem get_ext {α : Type} {a b : List α} {k : Nat} (hk : ∀ i, i < k → a[i]? = b[i]?) (h1 : k < a.length) (h2 : k < b.length) (e : a[k] = b[k]) : ∀ i, i < k + 1 → a[i]? = b[i]? := by
 intro i hi
 by_cases he : i = k
 · subst he; rw [List.getElem?_eq_getElem h1, List.getElem?_eq_getElem h2, e]
 · exact hk i (by omega)
theorem yuccaref0_EqInts {a b : List Int} (ha : a.length ≤ 4611686018427387903) (hb : b.length ≤ 4611686018427387903) : Pure Try.prog 20 [.sl 1 false (a.map (V.int .i64)), .sl 1 false (b.map (V.int .i64))] (.bool (decide (a = b))) := by
 refine pure_intro Try.func20 e20_nm e20_ok (by show 2 ≤ 26; decide) ?_
 show ewp _ e20n26 _ _
 repeat' with_reducible first
  | refine s_ ?_
  | simp -implicitDefEqProofs only [wZZ, seval]
  | (refine condQ_j (fun h h_ => ?_) (fun h h_ => ?_) <;> (try simp only [wD, reduceCtorEq] at h_) <;> (try exact wb_) <;> (try simp only [h]))
 · refine post1 rfl (Or.inr rfl) ?_
   simp -implicitDefEqProofs only [wL, seval]
   first | refine er_bool ?_ | refine er_int ?_ | refine er_str ?_ | refine er_sl_eq ?_ | refine er_asl_eq ?_
   try (with_reducible rfl)
   rw [eq_comm, decide_eq_false_iff_not]
   intro e; subst e; exact h_ rfl
 refine ewp_loopN ?nx1 (fun (k : Nat) s => s.f 0 = ?v1_0 ∧ s.f 1 = ?v1_1 ∧ s.f 5 = vi k ∧ (k ≤ a.length) ∧ (∀ i, i < k → a[i]? = b[i]?)) (fun k => a.length - k) (0) wj_ (by refine ⟨?_, ?_, ?_, (by first | omega | (simp; done) | assumption), (by first | omega | (simp; done) | assumption)⟩ <;> first | (simp -implicitDefEqProofs only [wL, wM, wN, wX, seval, Option.some.injEq] <;> exact wt_) | rfl | exact ⟨_, rfl⟩) ?_
 intro k s hnx ⟨g0, g1, g5, k1_0, k1_1⟩
 repeat' with_reducible first
  | refine s_ ?_
  | simp -implicitDefEqProofs only [wZZ, seval, g0, g1, g5]
  | (refine condQ_j (fun h h_ => ?_) (fun h h_ => ?_) <;> (try simp only [wD, reduceCtorEq] at h_) <;> (try exact wb_) <;> (try simp only [h]))
  | (apply ia_slQ; (focus omega); (exact wd_))
  | simp -implicitDefEqProofs (disch := omega) only [w64, if_neg]
 · refine post1 rfl (Or.inr rfl) ?_
   simp -implicitDefEqProofs only [wL, seval, g0, g1, g5]
   first | refine er_bool ?_ | refine er_int ?_ | refine er_str ?_ | refine er_sl_eq ?_ | refine er_asl_eq ?_
   try (with_reducible rfl)
   rw [eq_comm, decide_eq_false_iff_not]
   intro e; subst e; exact h_ rfl
 · refine ⟨wk_, k + 1, (by omega), ?_⟩
   refine ⟨?_, ?_, ?_, ?_, ?_⟩
   iterate 3 (focus (first | (simp -implicitDefEqProofs only [wL, wM, wN, wX, seval, Option.some.injEq, g0, g1, g5] <;> exact wt_) | rfl | exact ⟨_, rfl⟩))
   all_goals try omega
   exact get_ext k1_1 (by omega) (by omega) (by simpa using h_)
 · refine post1 rfl (Or.inr rfl) ?_
   simp -implicitDefEqProofs only [wL, seval, g0, g1, g5]
   first | refine er_bool ?_ | refine er_int ?_ | refine er_str ?_ | refine er_sl_eq ?_ | refine er_asl_eq ?_
   try (with_reducible rfl)
   rw [eq_comm, decide_eq_true_eq]
   exact eq_of_get k1_1 (by omega) (by omega)
def intsN (l : List Int) (n : Nat) : List Int := if n < l.length then l.take n else l
theorem yuccalaw0_Ints {l : List Int} {n : Nat} (hl : l.length ≤ 1099511627776) (hn : n ≤ 1000000) : Pure Try.prog 12 [.sl 1 false (l.map (V.int .i64)), vi n] (.sl 1 false ((intsN l n).map (V.int .i64))) := by
 refine pure_intro Try.func12 e12_nm e12_ok (by show 2 ≤ 13; decide) ?_
 show ewp _ e12n9 _ _
 by_cases h : n < l.length
 · have e : intsN l n = l.take n := by unfold intsN; rw [if_pos h]
   rw [e]
   repeat' with_reducible first
    | refine s_ ?_
    | simp -implicitDefEqProofs only [wZZ, seval]
    | (refine condQ_j (fun h h_ => ?_) (fun h h_ => ?_) <;> (try simp only [wD, reduceCtorEq] at h_) <;> (try exact wb_) <;> (try simp only [h]))
    | (apply slm_hiQ; (focus omega); (exact wf_))
   all_goals refine post1 rfl (Or.inr rfl) ?_
   all_goals (try simp -implicitDefEqProofs only [wL, seval])
   all_goals (first | refine er_bool ?_ | refine er_int ?_ | refine er_str ?_ | refine er_sl_eq ?_ | refine er_asl_eq ?_)
   all_goals (try (with_reducible rfl))
 · have e : intsN l n = l := by unfold intsN; rw [if_neg h]
   rw [e]
   repeat' with_reducible first
    | refine s_ ?_
    | simp -implicitDefEqProofs only [wZZ, seval]
    | (refine condQ_j (fun h h_ => ?_) (fun h h_ => ?_) <;> (try simp only [wD, reduceCtorEq] at h_) <;> (try exact wb_) <;> (try simp only [h]))
   all_goals refine post1 rfl (Or.inr rfl) ?_
   all_goals (try simp -implicitDefEqProofs only [wL, seval])
   all_goals (first | refine er_bool ?_ | refine er_int ?_ | refine er_str ?_ | refine er_sl_eq ?_ | refine er_asl_eq ?_)
   all_goals (try (with_reducible rfl))
end Go.Proofs
