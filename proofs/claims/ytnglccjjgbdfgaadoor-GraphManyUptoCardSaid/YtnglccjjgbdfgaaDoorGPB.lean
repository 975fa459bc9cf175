/- Part of a proof that a law of the given program answers true. -/
import Derived.Test.YtnglccjjgbdfgaaDoorGPA
set_option linter.unusedSimpArgs false
set_option linter.unusedVariables false
set_option maxHeartbeats 4000000
namespace Go.Proofs
open Go.E
abbrev intsV (l : List Int) : V := ints l
theorem yuccaref0_EqLists {a b : List (List Int)} (ha : a.length ≤ 1000000) (hb : b.length ≤ 1000000) (ha2 : ∀ l ∈ a, l.length ≤ 1000000) (hb2 : ∀ l ∈ b, l.length ≤ 1000000) : Pure Tryd.prog 12 [.sl 1 false (a.map intsV), .sl 1 false (b.map intsV)] (.bool (decide (a = b))) := by
 refine pure_intro Tryd.func12 e12_nm e12_ok (by show 2 ≤ 27; decide) ?_
 show ewp _ e12n26 _ _
 by_cases hl : a.length = b.length
 · repeat' with_reducible first
    | refine s_ ?_
    | simp -implicitDefEqProofs only [wZZ, seval]
    | (refine condQ_j (fun h h_ => ?_) (fun h h_ => ?_) <;> (try simp only [wD, reduceCtorEq] at h_) <;> (try exact wb_) <;> (try simp only [h]))
   refine ewp_loopN ?nx1 (fun (k : Nat) s => s.f 0 = ?v1_0 ∧ s.f 1 = ?v1_1 ∧ s.f 5 = vi k ∧ (k ≤ a.length) ∧ (∀ i, i < k → a[i]? = b[i]?)) (fun k => a.length - k) (0) wj_ (by refine ⟨?_, ?_, ?_, (by first | omega | (simp; done) | assumption), (by first | omega | (simp; done) | assumption)⟩ <;> first | (simp -implicitDefEqProofs only [wL, wM, wN, wX, seval, Option.some.injEq] <;> exact wt_) | rfl | exact ⟨_, rfl⟩) ?_
   intro k s hnx ⟨g0, g1, g5, k1_0, k1_1⟩
   have hz : IntKind.i64.wrap ((k + 1 : Nat) : Int) = ((k + 1 : Nat) : Int) := wrap64 (by omega) (by omega)
   by_cases hk : k < a.length
   · have hk2 : k < b.length := by omega
     have h1 : a[k]? = some a[k] := List.getElem?_eq_getElem hk
     have h2 : b[k]? = some b[k] := List.getElem?_eq_getElem hk2
     have heq := yuccaref0_EqInts (a := a[k]) (b := b[k]) (by have := ha2 _ (List.getElem_mem hk); omega) (by have := hb2 _ (List.getElem_mem hk2); omega)
     by_cases he : a[k] = b[k]
     · rw [decide_eq_true he] at heq
       repeat' with_reducible first
        | refine s_ ?_
        | simp -implicitDefEqProofs only [wZZ, seval, g0, g1, g5, hz]
        | (refine condQ_j (fun h h_ => ?_) (fun h h_ => ?_) <;> (try simp only [wD, reduceCtorEq] at h_) <;> (try exact wb_) <;> (try simp only [h]))
        | (apply ia_slQ; (focus omega); (focus with_unfolding_all exact h1))
        | (apply ia_slQ; (focus omega); (focus with_unfolding_all exact h2))
        | (apply callQ2 (hp := heq); (focus exact er_cl); (focus exact er_cl))
       refine ⟨wk_, k + 1, (by omega), ?_⟩
       refine ⟨?_, ?_, ?_, ?_, ?_⟩
       iterate 3 (focus (first | (simp -implicitDefEqProofs only [wL, wM, wN, wX, seval, Option.some.injEq, g0, g1, g5] <;> exact wt_) | rfl | exact ⟨_, rfl⟩))
       all_goals try omega
       exact get_ext k1_1 hk hk2 he
     · rw [decide_eq_false he] at heq
       have hne : ¬ a = b := fun e => by subst e; exact he rfl
       rw [decide_eq_false hne]
       repeat' with_reducible first
        | refine s_ ?_
        | simp -implicitDefEqProofs only [wZZ, seval, g0, g1, g5, hz]
        | (refine condQ_j (fun h h_ => ?_) (fun h h_ => ?_) <;> (try simp only [wD, reduceCtorEq] at h_) <;> (try exact wb_) <;> (try simp only [h]))
        | (apply ia_slQ; (focus omega); (focus with_unfolding_all exact h1))
        | (apply ia_slQ; (focus omega); (focus with_unfolding_all exact h2))
        | (apply callQ2 (hp := heq); (focus exact er_cl); (focus exact er_cl))
       refine post1 rfl (Or.inr rfl) ?_
       simp -implicitDefEqProofs only [wL, seval, g0, g1, g5]
       first | refine er_bool ?_ | refine er_int ?_ | refine er_str ?_ | refine er_sl_eq ?_ | refine er_asl_eq ?_
       try (with_reducible rfl)
   · have e : a = b := eq_of_get (k := k) k1_1 (by omega) (by omega)
     rw [decide_eq_true e]
     repeat' with_reducible first
      | refine s_ ?_
      | simp -implicitDefEqProofs only [wZZ, seval, g0, g1, g5]
      | (refine condQ_j (fun h h_ => ?_) (fun h h_ => ?_) <;> (try simp only [wD, reduceCtorEq] at h_) <;> (try exact wb_) <;> (try simp only [h]))
     refine post1 rfl (Or.inr rfl) ?_
     simp -implicitDefEqProofs only [wL, seval, g0, g1, g5]
     first | refine er_bool ?_ | refine er_int ?_ | refine er_str ?_ | refine er_sl_eq ?_ | refine er_asl_eq ?_
     try (with_reducible rfl)
 · have hne : ¬ a = b := fun e => hl (by rw [e])
   rw [decide_eq_false hne]
   skip
   repeat' with_reducible first
    | refine s_ ?_
    | simp -implicitDefEqProofs only [wZZ, seval]
    | (refine condQ_j (fun h h_ => ?_) (fun h h_ => ?_) <;> (try simp only [wD, reduceCtorEq] at h_) <;> (try exact wb_) <;> (try simp only [h]))
   refine post1 rfl (Or.inr rfl) ?_
   simp -implicitDefEqProofs only [wL, seval]
   first | refine er_bool ?_ | refine er_int ?_ | refine er_str ?_ | refine er_sl_eq ?_ | refine er_asl_eq ?_
   try (with_reducible rfl)
theorem within_arith {i n : Int} (hn : 0 < n) (h : n ≤ 4611686018427387904) : (if i.tmod n < 0 then IntKind.i64.wrap (i.tmod n + n) else i.tmod n) = i % n := by
 have h1 := Int.tmod_lt_of_pos i hn
 have h2 : - n < i.tmod n := by
  have := Int.tmod_lt_of_pos (-i) hn
  rw [Int.neg_tmod] at this; omega
 have e : i.tmod n = i % n ∨ i.tmod n + n = i % n := by
  rw [Int.tmod_eq_emod]
  have := Int.emod_lt_of_pos i hn
  have := Int.emod_nonneg i (show n ≠ 0 by omega)
  split
  · left; omega
  · right; omega
 have h3 := Int.emod_nonneg i (show n ≠ 0 by omega)
 have h4 := Int.emod_lt_of_pos i hn
 split
 · rw [wrap64 (by omega) (by omega)]; omega
 · omega
theorem yuccaref0_Within {i n : Int} (hn : 0 < n) (hm : n ≤ 4611686018427387904) : Pure Tryd.prog 15 [vi i, vi n] (vi (i % n)) := by
 refine pure_intro Tryd.func15 e15_nm e15_ok (by show 2 ≤ 15; decide) ?_
 show ewp _ e15n10 _ _
 have e := within_arith (i := i) hn hm
 by_cases h : i.tmod n < 0
 · rw [if_pos h] at e
   have hne : ¬ (n = 0) := by omega
   repeat' with_reducible first
    | refine s_ ?_
    | simp -implicitDefEqProofs only [wZZ, seval, hne, e]
    | (refine condQ_j (fun h h_ => ?_) (fun h h_ => ?_) <;> (try simp only [wD, reduceCtorEq] at h_) <;> (try exact wb_) <;> (try simp only [h]))
   refine post1 rfl (Or.inr rfl) ?_
   simp -implicitDefEqProofs only [wL, seval]
   first | refine er_bool ?_ | refine er_int ?_ | refine er_str ?_ | refine er_sl_eq ?_ | refine er_asl_eq ?_
   try (with_reducible rfl)
 · rw [if_neg h] at e
   have hne : ¬ (n = 0) := by omega
   repeat' with_reducible first
    | refine s_ ?_
    | simp -implicitDefEqProofs only [wZZ, seval, hne, e]
    | (refine condQ_j (fun h h_ => ?_) (fun h h_ => ?_) <;> (try simp only [wD, reduceCtorEq] at h_) <;> (try exact wb_) <;> (try simp only [h]))
   refine post1 rfl (Or.inr rfl) ?_
   simp -implicitDefEqProofs only [wL, seval]
   first | refine er_bool ?_ | refine er_int ?_ | refine er_str ?_ | refine er_sl_eq ?_ | refine er_asl_eq ?_
   try (with_reducible rfl)

theorem yuccaref1_Set {l : List Int} (hl : l.length ≤ 1099511627776) : Pure Tryd.prog 23 [ints l] (ints (setF l)) := by
 refine pure_intro Tryd.func23 e23_nm e23_ok (by show 1 ≤ 30; decide) ?_
 show ewp _ e23n21 _ _
 repeat' with_reducible first
  | refine s_ ?_
  | refine s_ ?_
  | refine s_ ?_
  | simp -implicitDefEqProofs only [wS, wT, wU, wV, wW, wX, wY, wC, wF, wG, wL, wM, wN, seval, Int.cast_ofNat_Int, Int.reduceLT, Int.reduceLE, Int.reduceEq, Int.reduceToNat, decide_true, decide_false, Bool.false_eq_true]
  | (refine condQ_j (fun h h_ => ?_) (fun h h_ => ?_) <;> (try simp only [wD, reduceCtorEq] at h_) <;> (try (exfalso; first | omega | exact absurd (Eq.trans (Eq.symm h_) (by assumption) : false = true) (by decide) | exact absurd (Eq.trans (Eq.symm h_) (by assumption) : true = false) (by decide) | (refine absurd ?_ h_; focus assumption) | (refine absurd h_ ?_; focus assumption))) <;> (try simp only [h]))
  | ((first | refine gdQ_iT (fun h => ?_) (fun h => ?_) | refine gdQ_iF (fun h => ?_) (fun h => ?_)) <;> have h_ := h <;> (try simp only [wD, reduceCtorEq] at h_) <;> (try (exfalso; first | omega | exact absurd (Eq.trans (Eq.symm h_) (by assumption) : false = true) (by decide) | exact absurd (Eq.trans (Eq.symm h_) (by assumption) : true = false) (by decide) | (refine absurd ?_ h_; focus assumption) | (refine absurd h_ ?_; focus assumption))) <;> (try simp only [h]))
  | (apply ia_slQ; (focus omega); (exact wd_))
  | (apply ia_aslQ; (focus omega); (exact wd_))
  | (apply strAdd; (focus (first | omega | (simp only [wZ] <;> omega))))
  | (apply ldQ_whole)
  | (apply ldQ_sub; (exact wu_); (exact wu_); (focus ((try simp -implicitDefEqProofs only [wE, Nat.reduceAdd]); rfl)))
  | (apply ldQ_obj; (exact wd_); (exact wu_))
  | (apply ldQ_cell; (exact wu_))
  | (apply ldQ_one; (exact wu_))
  | (apply ld_ipQ; (exact wu_))
  | (apply callQ2 (hp := yuccaref0_Put ?_); (exact we_); (exact we_); rotate_left; (exact wf_))
  | simp -implicitDefEqProofs (disch := omega) only [w64, if_neg]
 refine ewp_loopN ?nx1 (fun (k : Nat) s => s.f 0 = ?v1_0 ∧ (∃ c, s.f 3 = .sl 1 c ((setF (l.take k)).map (V.int .i64))) ∧ s.f 4 = vi k ∧ (k ≤ l.length)) (fun k => l.length - k) (0) wj_ (by refine ⟨?_, ?_, ?_, (by first | omega | (simp; done) | assumption)⟩ <;> first | (simp -implicitDefEqProofs only [wL, wM, wN, wX, seval, Option.some.injEq] <;> exact wt_) | rfl | exact ⟨_, rfl⟩) ?_
 intro k s hnx ⟨g0, ⟨c3, g3⟩, g4, k1_0⟩
 by_cases hk : k < l.length
 · have hs := setF_len (l.take k)
   have hs2 : (setF (l.take k)).length ≤ 1099511627776 := by simp at hs; omega
   have ht := take_snoc hk
   have hsn := setF_snoc (l.take k) l[k]
   rw [← ht] at hsn
   by_cases hr : 0 ≤ l[k] ∧ l[k] < 1024
   · rw [if_pos hr] at hsn
     have hr1 := hr.1
     have hr2 := hr.2
     clear hs
     repeat' with_reducible first
      | refine s_ ?_
      | refine s_ ?_
      | refine s_ ?_
      | simp -implicitDefEqProofs only [wS, wT, wU, wV, wW, wX, wY, wC, wF, wG, wL, wM, wN, seval, Int.cast_ofNat_Int, Int.reduceLT, Int.reduceLE, Int.reduceEq, Int.reduceToNat, decide_true, decide_false, Bool.false_eq_true, g0, g3, g4]
      | (refine condQ_j (fun h h_ => ?_) (fun h h_ => ?_) <;> (try simp only [wD, reduceCtorEq] at h_) <;> (try (exfalso; first | omega | exact absurd (Eq.trans (Eq.symm h_) (by assumption) : false = true) (by decide) | exact absurd (Eq.trans (Eq.symm h_) (by assumption) : true = false) (by decide) | (refine absurd ?_ h_; focus assumption) | (refine absurd h_ ?_; focus assumption))) <;> (try simp only [h]))
      | ((first | refine gdQ_iT (fun h => ?_) (fun h => ?_) | refine gdQ_iF (fun h => ?_) (fun h => ?_)) <;> have h_ := h <;> (try simp only [wD, reduceCtorEq] at h_) <;> (try (exfalso; first | omega | exact absurd (Eq.trans (Eq.symm h_) (by assumption) : false = true) (by decide) | exact absurd (Eq.trans (Eq.symm h_) (by assumption) : true = false) (by decide) | (refine absurd ?_ h_; focus assumption) | (refine absurd h_ ?_; focus assumption))) <;> (try simp only [h]))
      | (apply ia_slQ; (focus omega); (exact wd_))
      | (apply ia_aslQ; (focus omega); (exact wd_))
      | (apply strAdd; (focus (first | omega | (simp only [wZ] <;> omega))))
      | (apply ldQ_whole)
      | (apply ldQ_sub; (exact wu_); (exact wu_); (focus ((try simp -implicitDefEqProofs only [wE, Nat.reduceAdd]); rfl)))
      | (apply ldQ_obj; (exact wd_); (exact wu_))
      | (apply ldQ_cell; (exact wu_))
      | (apply ldQ_one; (exact wu_))
      | (apply ld_ipQ; (exact wu_))
      | (apply callQ2 (hp := yuccaref0_Put ?_); (exact we_); (exact we_); rotate_left; (exact wf_))
      | simp -implicitDefEqProofs (disch := omega) only [w64, if_neg]
     refine ⟨wk_, k + 1, (by omega), ?_⟩
     refine ⟨?_, ?_, ?_, ?_⟩
     iterate 3 (focus (first | (simp -implicitDefEqProofs only [wL, wM, wN, wX, seval, Option.some.injEq, g0, g3, g4, hsn] <;> exact wt_) | rfl | exact ⟨_, rfl⟩))
     all_goals try omega
   · rw [if_neg hr] at hsn
     repeat' with_reducible first
      | refine s_ ?_
      | refine s_ ?_
      | refine s_ ?_
      | simp -implicitDefEqProofs only [wS, wT, wU, wV, wW, wX, wY, wC, wF, wG, wL, wM, wN, seval, Int.cast_ofNat_Int, Int.reduceLT, Int.reduceLE, Int.reduceEq, Int.reduceToNat, decide_true, decide_false, Bool.false_eq_true, g0, g3, g4]
      | (refine condQ_j (fun h h_ => ?_) (fun h h_ => ?_) <;> (try simp only [wD, reduceCtorEq] at h_) <;> (try (exfalso; first | omega | exact absurd (Eq.trans (Eq.symm h_) (by assumption) : false = true) (by decide) | exact absurd (Eq.trans (Eq.symm h_) (by assumption) : true = false) (by decide) | (refine absurd ?_ h_; focus assumption) | (refine absurd h_ ?_; focus assumption))) <;> (try simp only [h]))
      | ((first | refine gdQ_iT (fun h => ?_) (fun h => ?_) | refine gdQ_iF (fun h => ?_) (fun h => ?_)) <;> have h_ := h <;> (try simp only [wD, reduceCtorEq] at h_) <;> (try (exfalso; first | omega | exact absurd (Eq.trans (Eq.symm h_) (by assumption) : false = true) (by decide) | exact absurd (Eq.trans (Eq.symm h_) (by assumption) : true = false) (by decide) | (refine absurd ?_ h_; focus assumption) | (refine absurd h_ ?_; focus assumption))) <;> (try simp only [h]))
      | (apply ia_slQ; (focus omega); (exact wd_))
      | (apply ia_aslQ; (focus omega); (exact wd_))
      | (apply strAdd; (focus (first | omega | (simp only [wZ] <;> omega))))
      | (apply ldQ_whole)
      | (apply ldQ_sub; (exact wu_); (exact wu_); (focus ((try simp -implicitDefEqProofs only [wE, Nat.reduceAdd]); rfl)))
      | (apply ldQ_obj; (exact wd_); (exact wu_))
      | (apply ldQ_cell; (exact wu_))
      | (apply ldQ_one; (exact wu_))
      | (apply ld_ipQ; (exact wu_))
      | (apply callQ2 (hp := yuccaref0_Put ?_); (exact we_); (exact we_); rotate_left; (exact wf_))
      | simp -implicitDefEqProofs (disch := omega) only [w64, if_neg]
     refine ⟨wk_, k + 1, (by omega), ?_⟩
     refine ⟨?_, ?_, ?_, ?_⟩
     iterate 3 (focus (first | (simp -implicitDefEqProofs only [wL, wM, wN, wX, seval, Option.some.injEq, g0, g3, g4, hsn] <;> exact wt_) | rfl | exact ⟨_, rfl⟩))
     all_goals try omega
     refine ⟨wk_, k + 1, (by omega), ?_⟩
     refine ⟨?_, ?_, ?_, ?_⟩
     iterate 3 (focus (first | (simp -implicitDefEqProofs only [wL, wM, wN, wX, seval, Option.some.injEq, g0, g3, g4, hsn] <;> exact wt_) | rfl | exact ⟨_, rfl⟩))
     all_goals try omega
 · repeat' with_reducible first
    | refine s_ ?_
    | refine s_ ?_
    | refine s_ ?_
    | simp -implicitDefEqProofs only [wS, wT, wU, wV, wW, wX, wY, wC, wF, wG, wL, wM, wN, seval, Int.cast_ofNat_Int, Int.reduceLT, Int.reduceLE, Int.reduceEq, Int.reduceToNat, decide_true, decide_false, Bool.false_eq_true, g0, g3, g4]
    | (refine condQ_j (fun h h_ => ?_) (fun h h_ => ?_) <;> (try simp only [wD, reduceCtorEq] at h_) <;> (try (exfalso; first | omega | exact absurd (Eq.trans (Eq.symm h_) (by assumption) : false = true) (by decide) | exact absurd (Eq.trans (Eq.symm h_) (by assumption) : true = false) (by decide) | (refine absurd ?_ h_; focus assumption) | (refine absurd h_ ?_; focus assumption))) <;> (try simp only [h]))
    | ((first | refine gdQ_iT (fun h => ?_) (fun h => ?_) | refine gdQ_iF (fun h => ?_) (fun h => ?_)) <;> have h_ := h <;> (try simp only [wD, reduceCtorEq] at h_) <;> (try (exfalso; first | omega | exact absurd (Eq.trans (Eq.symm h_) (by assumption) : false = true) (by decide) | exact absurd (Eq.trans (Eq.symm h_) (by assumption) : true = false) (by decide) | (refine absurd ?_ h_; focus assumption) | (refine absurd h_ ?_; focus assumption))) <;> (try simp only [h]))
    | (apply ia_slQ; (focus omega); (exact wd_))
    | (apply ia_aslQ; (focus omega); (exact wd_))
    | (apply strAdd; (focus (first | omega | (simp only [wZ] <;> omega))))
    | (apply ldQ_whole)
    | (apply ldQ_sub; (exact wu_); (exact wu_); (focus ((try simp -implicitDefEqProofs only [wE, Nat.reduceAdd]); rfl)))
    | (apply ldQ_obj; (exact wd_); (exact wu_))
    | (apply ldQ_cell; (exact wu_))
    | (apply ldQ_one; (exact wu_))
    | (apply ld_ipQ; (exact wu_))
    | (apply callQ2 (hp := yuccaref0_Put ?_); (exact we_); (exact we_); rotate_left; (exact wf_))
    | simp -implicitDefEqProofs (disch := omega) only [w64, if_neg]
   refine post1 rfl (Or.inr rfl) ?_
   simp -implicitDefEqProofs only [wL, seval, g0, g3, g4]
   first | refine er_bool ?_ | refine er_int ?_ | refine er_str ?_ | refine er_sl_eq ?_ | refine er_asl_eq ?_
   try (with_reducible rfl)
   rw [List.take_of_length_le (by omega)]
def listsN (l : List (List Int)) (n m : Nat) : List (List Int) := (l.take n).map fun x => intsN x m
theorem listsN_len (l : List (List Int)) (n m : Nat) : (listsN l n m).length ≤ n := by simp [listsN]; omega
theorem listsN_each {l : List (List Int)} {n m : Nat} : ∀ x ∈ listsN l n m, x.length ≤ m := by
 intro x hx
 obtain ⟨y, _, rfl⟩ := List.mem_map.1 hx
 exact (intsN_len y m).1
theorem listsN_succ {l : List (List Int)} {k : Nat} (m : Nat) (h : k < l.length) : listsN l (k + 1) m = listsN l k m ++ [intsN l[k] m] := by
 unfold listsN; rw [List.take_add_one, List.getElem?_eq_getElem h, List.map_append]; rfl
theorem yuccalaw0_Lists {l : List (List Int)} {n m : Nat} (hl : l.length ≤ 1099511627776) (hrk : ∀ x ∈ l, x.length ≤ 1099511627776) (hn : n ≤ 1000000) (hm : m ≤ 1000000) : Pure Tryd.prog 9 [.sl 1 false (l.map intsV), vi n, vi m] (.sl 1 false ((listsN l n m).map intsV)) := by
 refine pure_intro Tryd.func9 e9_nm e9_ok (by show 3 ≤ 30; decide) ?_
 show ewp _ e9n18 _ _
 repeat' with_reducible first
  | refine s_ ?_
  | refine s_ ?_
  | refine s_ ?_
  | simp -implicitDefEqProofs only [wS, wT, wU, wV, wW, wX, wY, wC, wF, wG, wL, wM, wN, seval, Int.cast_ofNat_Int, Int.reduceLT, Int.reduceLE, Int.reduceEq, Int.reduceToNat, decide_true, decide_false, Bool.false_eq_true]
  | (refine condQ_j (fun h h_ => ?_) (fun h h_ => ?_) <;> (try simp only [wD, reduceCtorEq] at h_) <;> (try (exfalso; first | omega | exact absurd (Eq.trans (Eq.symm h_) (by assumption) : false = true) (by decide) | exact absurd (Eq.trans (Eq.symm h_) (by assumption) : true = false) (by decide) | (refine absurd ?_ h_; focus assumption) | (refine absurd h_ ?_; focus assumption))) <;> (try simp only [h]))
  | ((first | refine gdQ_iT (fun h => ?_) (fun h => ?_) | refine gdQ_iF (fun h => ?_) (fun h => ?_)) <;> have h_ := h <;> (try simp only [wD, reduceCtorEq] at h_) <;> (try (exfalso; first | omega | exact absurd (Eq.trans (Eq.symm h_) (by assumption) : false = true) (by decide) | exact absurd (Eq.trans (Eq.symm h_) (by assumption) : true = false) (by decide) | (refine absurd ?_ h_; focus assumption) | (refine absurd h_ ?_; focus assumption))) <;> (try simp only [h]))
  | (apply ia_slQ; (focus omega); (exact wd_))
  | (apply ia_aslQ; (focus omega); (exact wd_))
  | (apply appQ_C; (focus (first | exact SrcN.sl | exact SrcN.asl | exact SrcN.str)); (exact wf_); (focus (unfold maxLen; first | omega | (simp only [wZ] <;> omega))))
  | (refine app_asl ?_; simp -implicitDefEqProofs only [wM, wN, seval]; apply appT_i; (focus (first | exact SrcN.sl | exact SrcN.asl | exact SrcN.str)); (exact wf_); (focus (unfold maxLen; first | omega | (simp only [wZ] <;> omega))))
  | (apply fil_part; (exact wu_); (exact wu_); (exact wu_); (focus ((try simp -implicitDefEqProofs only [wY]); rfl)))
  | (apply strAdd; (focus (first | omega | (simp only [wZ] <;> omega))))
  | (apply ldQ_whole)
  | (apply ldQ_sub; (exact wu_); (exact wu_); (focus ((try simp -implicitDefEqProofs only [wE, Nat.reduceAdd]); rfl)))
  | (apply ldQ_obj; (exact wd_); (exact wu_))
  | (apply ldQ_cell; (exact wu_))
  | (apply ldQ_one; (exact wu_))
  | (apply ld_ipQ; (exact wu_))
  | simp -implicitDefEqProofs (disch := omega) only [w64, if_neg]
 refine ewp_loopN ?nx1 (fun (k : Nat) s => s.f 0 = ?v1_0 ∧ s.f 1 = ?v1_1 ∧ s.f 2 = ?v1_2 ∧ (∃ v, s.f 7 = v ∧ Gr s.H s.next 1 ((listsN l k m).map intsV) v) ∧ s.f 8 = vi k ∧ (k ≤ l.length) ∧ (k ≤ n)) (fun k => l.length - k) (0) wj_ (by refine ⟨?_, ?_, ?_, ?_, ?_, (by first | omega | (simp; done) | assumption), (by first | omega | (simp; done) | assumption)⟩ <;> first | (simp -implicitDefEqProofs only [wL, wM, wN, wX, seval, Option.some.injEq] <;> exact wt_) | rfl | exact ⟨_, rfl⟩) ?_
 intro k s hnx ⟨g0, g1, g2, ⟨v7, g7, G7⟩, g8, k1_0, k1_1⟩
 have hz : IntKind.i64.wrap ((k + 1 : Nat) : Int) = ((k + 1 : Nat) : Int) := wrap64 (by omega) (by omega)
 have hll := listsN_len l k m
 by_cases hk : k < l.length ∧ k < n
 · obtain ⟨hk1, hk2⟩ := hk
   have hg : l[k]? = some l[k] := List.getElem?_eq_getElem hk1
   have hs := listsN_succ m hk1
   have hx := hrk _ (List.getElem_mem hk1)
   generalize l[k] = x at *
   have hi := yuccalaw0_Ints (l := x) (n := m) hx (by omega)
   repeat' with_reducible first
    | refine s_ ?_
    | refine s_ ?_
    | refine s_ ?_
    | simp -implicitDefEqProofs only [wS, wT, wU, wV, wW, wX, wY, wC, wF, wG, wL, wM, wN, seval, Int.cast_ofNat_Int, Int.reduceLT, Int.reduceLE, Int.reduceEq, Int.reduceToNat, decide_true, decide_false, Bool.false_eq_true, g0, g1, g2, g7, g8, hz, G7.len]
    | (refine condQ_j (fun h h_ => ?_) (fun h h_ => ?_) <;> (try simp only [wD, reduceCtorEq] at h_) <;> (try (exfalso; first | omega | exact absurd (Eq.trans (Eq.symm h_) (by assumption) : false = true) (by decide) | exact absurd (Eq.trans (Eq.symm h_) (by assumption) : true = false) (by decide) | (refine absurd ?_ h_; focus assumption) | (refine absurd h_ ?_; focus assumption))) <;> (try simp only [h]))
    | ((first | refine gdQ_iT (fun h => ?_) (fun h => ?_) | refine gdQ_iF (fun h => ?_) (fun h => ?_)) <;> have h_ := h <;> (try simp only [wD, reduceCtorEq] at h_) <;> (try (exfalso; first | omega | exact absurd (Eq.trans (Eq.symm h_) (by assumption) : false = true) (by decide) | exact absurd (Eq.trans (Eq.symm h_) (by assumption) : true = false) (by decide) | (refine absurd ?_ h_; focus assumption) | (refine absurd h_ ?_; focus assumption))) <;> (try simp only [h]))
    | (apply ia_slQ; (focus omega); (focus with_unfolding_all exact hg))
    | (apply callQ2 (hp := hi); (focus exact er_cl); (focus exact er_cl))
    | (apply appQ_G rfl (G7.mono (Nat.le_refl _) (fun id h1 h2 => by (try simp only [wM]); (repeat rw [if_neg (by omega)]))); (focus (first | exact SrcN.sl | exact SrcN.asl)); (focus (simp only [wZ] <;> omega)); (focus (unfold maxLen; simp only [wZ] <;> omega)))
    | (apply ia_slQ; (focus omega); (exact wd_))
    | (apply Gr.iaQ G7; (focus omega); (exact wd_))
    | (apply ia_aslQ; (focus omega); (exact wd_))
    | (apply appQ_G (hg := G7); (focus (first | rfl | (simp -implicitDefEqProofs only [wM]; done))); (focus (first | exact SrcN.sl | exact SrcN.asl | exact SrcN.gr G7 | exact SrcN.str)); (exact wf_); (focus (unfold maxLen; first | omega | (simp only [wZ] <;> omega))))
    | (apply appQ_C; (focus (first | exact SrcN.sl | exact SrcN.asl | exact SrcN.gr G7 | exact SrcN.str)); (exact wf_); (focus (unfold maxLen; first | omega | (simp only [wZ] <;> omega))))
    | (refine app_asl ?_; simp -implicitDefEqProofs only [wM, wN, seval, g0, g1, g2, g7, g8, hz]; apply appT_i; (focus (first | exact SrcN.sl | exact SrcN.asl | exact SrcN.gr G7 | exact SrcN.str)); (exact wf_); (focus (unfold maxLen; first | omega | (simp only [wZ] <;> omega))))
    | (apply fil_part; (exact wu_); (exact wu_); (exact wu_); (focus ((try simp -implicitDefEqProofs only [wY]); rfl)))
    | (apply strAdd; (focus (first | omega | (simp only [wZ] <;> omega))))
    | (apply ldQ_whole)
    | (apply ldQ_sub; (exact wu_); (exact wu_); (focus ((try simp -implicitDefEqProofs only [wE, Nat.reduceAdd]); rfl)))
    | (apply ldQ_obj; (exact wd_); (exact wu_))
    | (apply ldQ_cell; (exact wu_))
    | (apply ldQ_one; (exact wu_))
    | (apply ld_ipQ; (exact wu_))
    | simp -implicitDefEqProofs (disch := omega) only [w64, if_neg]
   refine ⟨wk_, k + 1, (by omega), ?_⟩
   refine ⟨?_, ?_, ?_, ?_, ?_, ?_, ?_⟩
   iterate 5 (focus (first | (simp -implicitDefEqProofs only [wL, wM, wN, wX, seval, Option.some.injEq, g0, g1, g2, g7, g8, hs] <;> first | rfl | exact ⟨_, rfl⟩ | exact ⟨_, rfl, by first | assumption | exact Gr.nil | exact Gr.tok rfl (by omega) | exact Gr.tok (by simp -implicitDefEqProofs only [wM, seval] <;> rfl) (by omega) | exact Gr.clip | exact G7.to (by first | rfl | (simp [*]; done)) (by omega) rfl⟩) | rfl | exact ⟨_, rfl⟩))
   all_goals try omega
 · have e : listsN l k m = listsN l n m := by
    unfold listsN
    by_cases h : k = n
    · rw [h]
    · rw [List.take_of_length_le (by omega), List.take_of_length_le (by omega)]
   rw [e] at G7
   repeat' with_reducible first
    | refine s_ ?_
    | refine s_ ?_
    | refine s_ ?_
    | simp -implicitDefEqProofs only [wS, wT, wU, wV, wW, wX, wY, wC, wF, wG, wL, wM, wN, seval, Int.cast_ofNat_Int, Int.reduceLT, Int.reduceLE, Int.reduceEq, Int.reduceToNat, decide_true, decide_false, Bool.false_eq_true, g0, g1, g2, g7, g8, G7.len]
    | (refine condQ_j (fun h h_ => ?_) (fun h h_ => ?_) <;> (try simp only [wD, reduceCtorEq] at h_) <;> (try (exfalso; first | omega | exact absurd (Eq.trans (Eq.symm h_) (by assumption) : false = true) (by decide) | exact absurd (Eq.trans (Eq.symm h_) (by assumption) : true = false) (by decide) | (refine absurd ?_ h_; focus assumption) | (refine absurd h_ ?_; focus assumption))) <;> (try simp only [h]))
    | ((first | refine gdQ_iT (fun h => ?_) (fun h => ?_) | refine gdQ_iF (fun h => ?_) (fun h => ?_)) <;> have h_ := h <;> (try simp only [wD, reduceCtorEq] at h_) <;> (try (exfalso; first | omega | exact absurd (Eq.trans (Eq.symm h_) (by assumption) : false = true) (by decide) | exact absurd (Eq.trans (Eq.symm h_) (by assumption) : true = false) (by decide) | (refine absurd ?_ h_; focus assumption) | (refine absurd h_ ?_; focus assumption))) <;> (try simp only [h]))
    | (apply ia_slQ; (focus omega); (exact wd_))
    | (apply Gr.iaQ G7; (focus omega); (exact wd_))
    | (apply ia_aslQ; (focus omega); (exact wd_))
    | (apply appQ_G (hg := G7); (focus (first | rfl | (simp -implicitDefEqProofs only [wM]; done))); (focus (first | exact SrcN.sl | exact SrcN.asl | exact SrcN.gr G7 | exact SrcN.str)); (exact wf_); (focus (unfold maxLen; first | omega | (simp only [wZ] <;> omega))))
    | (apply appQ_C; (focus (first | exact SrcN.sl | exact SrcN.asl | exact SrcN.gr G7 | exact SrcN.str)); (exact wf_); (focus (unfold maxLen; first | omega | (simp only [wZ] <;> omega))))
    | (refine app_asl ?_; simp -implicitDefEqProofs only [wM, wN, seval, g0, g1, g2, g7, g8]; apply appT_i; (focus (first | exact SrcN.sl | exact SrcN.asl | exact SrcN.gr G7 | exact SrcN.str)); (exact wf_); (focus (unfold maxLen; first | omega | (simp only [wZ] <;> omega))))
    | (apply fil_part; (exact wu_); (exact wu_); (exact wu_); (focus ((try simp -implicitDefEqProofs only [wY]); rfl)))
    | (apply strAdd; (focus (first | omega | (simp only [wZ] <;> omega))))
    | (apply ldQ_whole)
    | (apply ldQ_sub; (exact wu_); (exact wu_); (focus ((try simp -implicitDefEqProofs only [wE, Nat.reduceAdd]); rfl)))
    | (apply ldQ_obj; (exact wd_); (exact wu_))
    | (apply ldQ_cell; (exact wu_))
    | (apply ldQ_one; (exact wu_))
    | (apply ld_ipQ; (exact wu_))
    | simp -implicitDefEqProofs (disch := omega) only [w64, if_neg]
   all_goals
    refine post1 rfl (Or.inr rfl) ?_
    (simp -implicitDefEqProofs only [wL, seval, g7])
    exact G7.er rfl

abbrev Rise (l : List Int) : Prop := l.Pairwise (· < ·)
theorem rise_ext : ∀ {a b : List Int}, Rise a → Rise b → (∀ x, x ∈ a ↔ x ∈ b) → a = b
 | [], [], _, _, _ => rfl
 | [], y :: b, _, _, h => absurd ((h y).2 (List.mem_cons_self ..)) (by simp)
 | x :: a, [], _, _, h => absurd ((h x).1 (List.mem_cons_self ..)) (by simp)
 | x :: a, y :: b, ha, hb, h => by
   have ha' := List.pairwise_cons.1 ha
   have hb' := List.pairwise_cons.1 hb
   have hxy : x = y := by
    have h1 := (h x).1 (List.mem_cons_self ..)
    have h2 := (h y).2 (List.mem_cons_self ..)
    rcases List.mem_cons.1 h1 with e | e
    · exact e
    · rcases List.mem_cons.1 h2 with e2 | e2
      · exact e2.symm
      · have := hb'.1 x e; have := ha'.1 y e2; omega
   subst hxy
   congr 1
   refine rise_ext ha'.2 hb'.2 fun z => ?_
   have hz := h z
   simp only [List.mem_cons] at hz
   constructor
   · intro hm
     rcases hz.1 (Or.inr hm) with e | e
     · subst e; have := ha'.1 z hm; omega
     · exact e
   · intro hm
     rcases hz.2 (Or.inr hm) with e | e
     · subst e; have := hb'.1 z hm; omega
     · exact e
theorem cutP_hi (l : List Int) (x : Int) (n : Nat) : ∀ i, cutP l x n ≤ i → i < n → x < l.getD i 0 := by
 induction n with
 | zero => intro i _ h; omega
 | succ n ih =>
   intro i h1 h2
   rw [cutP_succ] at h1
   split at h1
   · rename_i hlt
     by_cases hi : i = n
     · subst hi; exact hlt
     · exact ih i h1 (by omega)
   · omega
theorem cutP_lo (l : List Int) (x : Int) (n : Nat) : 0 < cutP l x n → l.getD (cutP l x n - 1) 0 ≤ x := by
 induction n with
 | zero => intro h; simp [cutP] at h
 | succ n ih =>
   rw [cutP_succ]
   split
   · exact ih
   · rename_i h; intro _; simpa using h
theorem putL_mem {l : List Int} {x y : Int} : y ∈ putL l x ↔ y ∈ l ∨ y = x := by
 have hk := cutP_le l x l.length
 unfold putL
 split
 · rename_i h
   constructor
   · exact Or.inl
   · rintro (h1 | h1)
     · exact h1
     · subst h1
       rw [← h.2, getD_eq (by omega)]
       exact List.getElem_mem _
 · have e : ∀ y, y ∈ l ↔ y ∈ l.take (cutP l x l.length) ∨ y ∈ l.drop (cutP l x l.length) := by
    intro y
    conv => lhs; rw [← List.take_append_drop (cutP l x l.length) l]
    rw [List.mem_append]
   simp only [List.mem_append, List.mem_singleton, e y]
   constructor
   · rintro ((h | h) | h)
     · exact Or.inl (Or.inl h)
     · exact Or.inr h
     · exact Or.inl (Or.inr h)
   · rintro ((h | h) | h)
     · exact Or.inl (Or.inl h)
     · exact Or.inr h
     · exact Or.inl (Or.inr h)
theorem rise_get {l : List Int} (h : Rise l) {i j : Nat} (hij : i < j) (hj : j < l.length) : l.getD i 0 < l.getD j 0 := by
 rw [getD_eq (by omega), getD_eq hj]
 exact (List.pairwise_iff_getElem.1 h) i j (by omega) hj hij
theorem putL_rise {l : List Int} {x : Int} (h : Rise l) : Rise (putL l x) := by
 have hk := cutP_le l x l.length
 have hhi := cutP_hi l x l.length
 have hlo := cutP_lo l x l.length
 unfold putL
 split
 · exact h
 · rename_i hn
   generalize cutP l x l.length = k at *
   have h1 : ∀ y ∈ l.take k, y < x := by
    intro y hy
    obtain ⟨i, hi, rfl⟩ := List.getElem_of_mem hy
    simp only [List.length_take] at hi
    rw [List.getElem_take, ← getD_eq (by omega)]
    have h0 := hlo (by omega)
    have hne : l.getD (k - 1) 0 ≠ x := fun e => hn ⟨by omega, e⟩
    by_cases hik : i = k - 1
    · subst hik; omega
    · have := rise_get h (show i < k - 1 by omega) (by omega); omega
   have h2 : ∀ y ∈ l.drop k, x < y := by
    intro y hy
    obtain ⟨i, hi, rfl⟩ := List.getElem_of_mem hy
    simp only [List.length_drop] at hi
    rw [List.getElem_drop, ← getD_eq (by omega)]
    exact hhi (k + i) (by omega) (by omega)
   rw [Rise, List.append_assoc, List.pairwise_append]
   refine ⟨h.sublist (List.take_sublist _ _), ?_, ?_⟩
   · rw [List.singleton_append, List.pairwise_cons]
     exact ⟨h2, h.sublist (List.drop_sublist _ _)⟩
   · intro a ha b hb
     have h3 := h1 a ha
     rw [List.singleton_append] at hb
     rcases List.mem_cons.1 hb with e | e
     · subst e; exact h3
     · have := h2 b e; omega
theorem setF_spec (l : List Int) : Rise (setF l) ∧ ∀ x, x ∈ setF l ↔ x ∈ l ∧ 0 ≤ x ∧ x < 1024 := by
 have h : ∀ (l acc : List Int), Rise acc → Rise (l.foldl (fun acc x => if 0 ≤ x ∧ x < 1024 then putL acc x else acc) acc) ∧
  ∀ x, x ∈ l.foldl (fun acc x => if 0 ≤ x ∧ x < 1024 then putL acc x else acc) acc ↔ x ∈ acc ∨ (x ∈ l ∧ 0 ≤ x ∧ x < 1024) := by
  intro l
  induction l with
  | nil => intro acc h; simp [h]
  | cons y l ih =>
    intro acc hacc
    rw [List.foldl_cons]
    by_cases hy : 0 ≤ y ∧ y < 1024
    · rw [if_pos hy]
      obtain ⟨i1, i2⟩ := ih _ (putL_rise (x := y) hacc)
      refine ⟨i1, fun x => ?_⟩
      rw [i2, putL_mem, List.mem_cons]
      constructor
      · rintro ((h | h) | h)
        · exact Or.inl h
        · subst h; exact Or.inr ⟨Or.inl rfl, hy⟩
        · exact Or.inr ⟨Or.inr h.1, h.2⟩
      · rintro (h | ⟨h | h, h2⟩)
        · exact Or.inl (Or.inl h)
        · exact Or.inl (Or.inr h)
        · exact Or.inr ⟨h, h2⟩
    · rw [if_neg hy]
      obtain ⟨i1, i2⟩ := ih _ hacc
      refine ⟨i1, fun x => ?_⟩
      rw [i2, List.mem_cons]
      constructor
      · rintro (h | h)
        · exact Or.inl h
        · exact Or.inr ⟨Or.inr h.1, h.2⟩
      · rintro (h | ⟨h | h, h2⟩)
        · exact Or.inl h
        · subst h; exact absurd h2 hy
        · exact Or.inr ⟨h, h2⟩
 have := h l [] List.Pairwise.nil
 exact ⟨this.1, fun x => by rw [setF, this.2]; simp⟩
theorem lst_rise (m : Nat → Bool) (n : Nat) : Rise (lst m n) := by
 unfold lst Rise
 rw [List.pairwise_map]
 refine List.Pairwise.imp (fun h => ?_) ((List.pairwise_lt_range (n := n)).filter _)
 exact Int.ofNat_lt.2 h
theorem lst_congr {m n : Nat → Bool} (h : ∀ y, y < 1024 → m y = n y) : lst m 1024 = lst n 1024 := by
 refine rise_ext (lst_rise _ _) (lst_rise _ _) fun x => ?_
 rw [lst_mem, lst_mem]
 constructor
 · rintro ⟨y, h1, h2, rfl⟩; exact ⟨y, h1, (h y h1) ▸ h2, rfl⟩
 · rintro ⟨y, h1, h2, rfl⟩; exact ⟨y, h1, (h y h1).symm ▸ h2, rfl⟩
end Go.Proofs

namespace Go.Proofs
structure TS where
 num : Nat → Int
 low : Nat → Int
 of : Nat → Int
 stack : List Nat
 groups : List (List Nat)
 next : Nat
def updT (l : Nat → Int) (k : Nat) (x : Int) : Nat → Int := fun i => if i = k then x else l i
theorem updT_eq (l : Nat → Int) (k : Nat) (x : Int) : updT l k x k = x := if_pos rfl
theorem updT_ne {l : Nat → Int} {k j : Nat} {x : Int} (h : j ≠ k) : updT l k x j = l j := if_neg h
def putSorted (x : Nat) : List Nat → List Nat
 | [] => [x]
 | y :: r => if x ≤ y then x :: y :: r else y :: putSorted x r
def sortN (l : List Nat) : List Nat := l.foldr putSorted []
def markT (o : Nat → Int) (g : Int) : List Nat → Nat → Int
 | [], i => o i
 | j :: r, i => if i = j then g else markT o g r i
def grpT (i : Nat) (s : TS) : TS :=
 { s with stack := s.stack.takeWhile (fun x => !decide (x = i)), of := markT s.of s.groups.length (s.stack.dropWhile fun x => !decide (x = i)), groups := s.groups ++ [sortN (s.stack.dropWhile fun x => !decide (x = i))] }
def entT (i : Nat) (s : TS) : TS := { s with next := s.next + 1, num := updT s.num i (s.next + 1 : Nat), low := updT s.low i (s.next + 1 : Nat), stack := s.stack ++ [i] }
def edgT (n i : Nat) (visit : Nat → TS → TS) (s : TS) (j : Int) : TS :=
 if j < 0 ∨ (n : Int) ≤ j then s
 else if s.num j.toNat = 0 then
  let s' := visit j.toNat s
  { s' with low := updT s'.low i (min (s'.low i) (s'.low j.toNat)) }
 else if s.of j.toNat < 0 then { s with low := updT s.low i (min (s.low i) (s.num j.toNat)) }
 else s
def finT (i : Nat) (s : TS) : TS := if s.low i = s.num i then grpT i s else s
def visT (rel : Nat → List Int) (n : Nat) : Nat → Nat → TS → TS
 | 0, _, s => s
 | f + 1, i, s => finT i ((rel i).foldl (edgT n i (visT rel n f)) (entT i s))
def tarT (rel : Nat → List Int) (n : Nat) : TS :=
 (List.range n).foldl (fun s i => if s.num i = 0 then visT rel n n i s else s) { num := fun _ => 0, low := fun _ => 0, of := fun _ => -1, stack := [], groups := [], next := 0 }
def Edge (rel : Nat → List Int) (n : Nat) (i j : Nat) : Prop := i < n ∧ j < n ∧ (j : Int) ∈ rel i
inductive Rch (rel : Nat → List Int) (n : Nat) : Nat → Nat → Prop
 | refl (i : Nat) : Rch rel n i i
 | step {i j k : Nat} (h : Rch rel n i j) (e : Edge rel n j k) : Rch rel n i k
theorem Rch.trans {rel : Nat → List Int} {n i j k : Nat} (h : Rch rel n i j) (h2 : Rch rel n j k) : Rch rel n i k := by
 induction h2 with
 | refl => exact h
 | step _ e ih => exact .step ih e
theorem Rch.one {rel : Nat → List Int} {n i j : Nat} (e : Edge rel n i j) : Rch rel n i j := .step (.refl i) e
theorem Rch.stay {rel : Nat → List Int} {n : Nat} {S : Nat → Prop} (h : ∀ i j, S i → Edge rel n i j → S j) {i j : Nat} (hr : Rch rel n i j) (hi : S i) : S j := by
 induction hr with
 | refl => exact hi
 | step _ e ih => exact h _ _ ih e
theorem markT_mem {o : Nat → Int} {g : Int} : ∀ {l : List Nat} {i : Nat}, i ∈ l → markT o g l i = g
 | j :: r, i, h => by
   rw [markT]
   split
   · rfl
   · rename_i hne
     exact markT_mem ((List.mem_cons.1 h).resolve_left hne)
theorem markT_not {o : Nat → Int} {g : Int} : ∀ {l : List Nat} {i : Nat}, i ∉ l → markT o g l i = o i
 | [], i, h => rfl
 | j :: r, i, h => by
   rw [markT, if_neg (fun e => h (by rw [e]; simp))]
   exact markT_not fun hr => h (List.mem_cons_of_mem _ hr)
structure TInv (rel : Nat → List Int) (n : Nat) (G : Nat → Prop) (s : TS) : Prop where
 num0 : ∀ x, 0 ≤ s.num x ∧ s.num x ≤ s.next
 lt : ∀ x, s.num x ≠ 0 → x < n
 inj : ∀ x y, s.num x ≠ 0 → s.num x = s.num y → x = y
 white : ∀ x, s.num x = 0 → s.of x = -1
 ofb : ∀ x, -1 ≤ s.of x ∧ s.of x < s.groups.length
 stk : ∀ x, x ∈ s.stack ↔ s.num x ≠ 0 ∧ s.of x < 0
 rise : s.stack.Pairwise fun x y => s.num x < s.num y
 grey : ∀ x, G x → x ∈ s.stack
 black : ∀ x y, s.num x ≠ 0 → ¬ G x → Edge rel n x y → s.num y ≠ 0
 done : ∀ x y, 0 ≤ s.of x → Edge rel n x y → 0 ≤ s.of y ∧ s.of y ≤ s.of x
 up : ∀ x y, x ∈ s.stack → y ∈ s.stack → s.num x ≤ s.num y → Rch rel n x y
 down : ∀ y, y ∈ s.stack → ∃ x, G x ∧ s.num x ≤ s.num y ∧ Rch rel n y x
 scc : ∀ x, 0 ≤ s.of x → ∀ y, (Rch rel n x y ∧ Rch rel n y x) ↔ s.of y = s.of x
 grp : ∀ (k : Nat) (l : List Nat), s.groups[k]? = some l → l ≠ [] ∧ l.Pairwise (· < ·) ∧ ∀ x, x ∈ l ↔ s.of x = (k : Int)
structure TExt (s s' : TS) : Prop where
 next : s.next ≤ s'.next
 num : ∀ x, s.num x ≠ 0 → s'.num x = s.num x
 new : ∀ x, s.num x = 0 → s'.num x = 0 ∨ (s.next : Int) < s'.num x
 of : ∀ x, 0 ≤ s.of x → s'.of x = s.of x
 stk : ∃ seg, s'.stack = s.stack ++ seg
 low : ∀ x, x ∈ s.stack → s'.low x = s.low x
theorem TExt.trans {a b c : TS} (h : TExt a b) (k : TExt b c) : TExt a c := by
 refine ⟨Nat.le_trans h.next k.next, fun x hx => ?_, fun x hx => ?_, fun x hx => ?_, ?_, fun x hx => ?_⟩
 · have e := h.num x hx
   rw [k.num x (by rw [e]; exact hx), e]
 · have h1 := h.next
   rcases h.new x hx with e | e
   · rcases k.new x e with e2 | e2
     · exact Or.inl e2
     · exact Or.inr (by omega)
   · right; rw [k.num x (by omega)]; exact e
 · have e := h.of x hx
   rw [k.of x (by rw [e]; exact hx), e]
 · obtain ⟨u, hu⟩ := h.stk
   obtain ⟨v, hv⟩ := k.stk
   exact ⟨u ++ v, by rw [hv, hu, List.append_assoc]⟩
 · obtain ⟨u, hu⟩ := h.stk
   rw [k.low x (by rw [hu]; exact List.mem_append_left _ hx), h.low x hx]
structure TVis (rel : Nat → List Int) (n i : Nat) (s s' : TS) : Prop where
 ext : TExt s s'
 seen : s'.num i = (s.next + 1 : Nat)
 le : s'.low i ≤ s'.num i
 out : i ∉ s'.stack → s'.low i = s'.num i ∧ s'.stack = s.stack
 on : i ∈ s'.stack → ∃ y, y ∈ s.stack ∧ s'.low i = s'.num y ∧ Rch rel n i y
 cross : ∀ x y, x ∈ s'.stack → x ∉ s.stack → Edge rel n x y → y ∈ s.stack → s'.low i ≤ s'.num y
end Go.Proofs

namespace Go.Proofs
theorem ent_inv {rel : Nat → List Int} {n i : Nat} {G : Nat → Prop} {s : TS} (h : TInv rel n G s) (h0 : s.num i = 0) (hi : i < n) (hG : ∀ g, G g → Rch rel n g i) : TInv rel n (fun x => G x ∨ x = i) (entT i s) := by
 have nm : ∀ x, (entT i s).num x = updT s.num i (s.next + 1 : Nat) x := fun _ => rfl
 have nme : (entT i s).num i = (s.next + 1 : Nat) := updT_eq _ _ _
 have nmo : ∀ x, x ≠ i → (entT i s).num x = s.num x := fun x hx => updT_ne hx
 have ns : i ∉ s.stack := fun hs => ((h.stk i).1 hs).1 h0
 have hn : (entT i s).next = s.next + 1 := rfl
 have hst : (entT i s).stack = s.stack ++ [i] := rfl
 have mem : ∀ x, x ∈ (entT i s).stack ↔ x ∈ s.stack ∨ x = i := fun x => by rw [hst]; simp
 refine ⟨fun x => ?_, fun x hx => ?_, fun x y hx hxy => ?_, fun x hx => ?_, h.ofb, fun x => ?_, ?_, fun x hx => ?_, fun x y hx hg e => ?_, h.done, fun x y hx hy hxy => ?_, fun y hy => ?_, h.scc, h.grp⟩
 · rw [hn]
   by_cases e : x = i
   · subst e; rw [nme]; omega
   · rw [nmo x e]; have := h.num0 x; omega
 · by_cases e : x = i
   · rw [e]; exact hi
   · rw [nmo x e] at hx; exact h.lt x hx
 · by_cases e : x = i
   · by_cases e2 : y = i
     · rw [e, e2]
     · subst e; rw [nme, nmo y e2] at hxy; have := h.num0 y; omega
   · by_cases e2 : y = i
     · subst e2; rw [nme, nmo x e] at hxy; have := h.num0 x; omega
     · rw [nmo x e] at hx hxy; rw [nmo y e2] at hxy; exact h.inj x y hx hxy
 · by_cases e : x = i
   · subst e; rw [nme] at hx; omega
   · rw [nmo x e] at hx; exact h.white x hx
 · rw [mem]
   by_cases e : x = i
   · subst e
     rw [nme]
     have : (entT x s).of x = -1 := h.white x h0
     rw [this]
     exact ⟨fun _ => ⟨by omega, by omega⟩, fun _ => Or.inr rfl⟩
   · rw [nmo x e]
     exact ⟨fun hx => (h.stk x).1 (hx.resolve_right e), fun hx => Or.inl ((h.stk x).2 hx)⟩
 · rw [hst, List.pairwise_append]
   refine ⟨?_, List.pairwise_singleton _ _, fun x hx y hy => ?_⟩
   · refine h.rise.imp_of_mem fun {a b} ha hb hab => ?_
     rw [nmo a fun e => ns (e ▸ ha), nmo b fun e => ns (e ▸ hb)]; exact hab
   · rw [List.mem_singleton] at hy
     subst hy
     rw [nme, nmo x fun e => ns (e ▸ hx)]
     have := h.num0 x; omega
 · rw [mem]
   exact hx.imp (h.grey x) id
 · by_cases e2 : y = i
   · subst e2; rw [nme]; omega
   · have hxi : x ≠ i := fun e3 => hg (Or.inr e3)
     rw [nmo x hxi] at hx
     rw [nmo y e2]
     exact h.black x y hx (fun hg' => hg (Or.inl hg')) e
 · rw [mem] at hx hy
   by_cases e : x = i
   · by_cases e2 : y = i
     · rw [e, e2]; exact .refl _
     · subst e; rw [nme, nmo y e2] at hxy; have := h.num0 y; omega
   · have hx' := hx.resolve_right e
     by_cases e2 : y = i
     · subst e2
       obtain ⟨g, hg, _, hr⟩ := h.down x hx'
       exact hr.trans (hG g hg)
     · rw [nmo x e, nmo y e2] at hxy
       exact h.up x y hx' (hy.resolve_right e2) hxy
 · rw [mem] at hy
   by_cases e : y = i
   · subst e; exact ⟨y, Or.inr rfl, Int.le_refl _, .refl _⟩
   · obtain ⟨g, hg, hgy, hr⟩ := h.down y (hy.resolve_right e)
     refine ⟨g, Or.inl hg, ?_, hr⟩
     rw [nmo y e, nmo g fun e3 => ns (e3 ▸ h.grey g hg)]; exact hgy
theorem split_stack {i : Nat} : ∀ {a b : List Nat}, i ∉ a → (a ++ i :: b).takeWhile (fun x => !decide (x = i)) = a ∧ (a ++ i :: b).dropWhile (fun x => !decide (x = i)) = i :: b
 | [], b, _ => by simp [List.takeWhile, List.dropWhile]
 | x :: a, b, h => by
   have hx : x ≠ i := fun e => h (by rw [e]; simp)
   have := split_stack (a := a) (b := b) fun hh => h (List.mem_cons_of_mem _ hh)
   rw [List.cons_append, List.takeWhile_cons, List.dropWhile_cons]
   simp [hx, this.1, this.2]
theorem putSorted_mem {x y : Nat} : ∀ {l : List Nat}, y ∈ putSorted x l ↔ y = x ∨ y ∈ l
 | [] => by simp [putSorted]
 | z :: r => by
   rw [putSorted]
   split
   · simp
   · rw [List.mem_cons, putSorted_mem, List.mem_cons]
     constructor
     · rintro (h | h | h)
       · exact Or.inr (Or.inl h)
       · exact Or.inl h
       · exact Or.inr (Or.inr h)
     · rintro (h | h | h)
       · exact Or.inr (Or.inl h)
       · exact Or.inl h
       · exact Or.inr (Or.inr h)
theorem sortN_mem {y : Nat} : ∀ {l : List Nat}, y ∈ sortN l ↔ y ∈ l
 | [] => by simp [sortN]
 | z :: r => by
   show y ∈ putSorted z (sortN r) ↔ _
   rw [putSorted_mem, sortN_mem, List.mem_cons]
theorem putSorted_rise {x : Nat} : ∀ {l : List Nat}, l.Pairwise (· < ·) → x ∉ l → (putSorted x l).Pairwise (· < ·)
 | [], _, _ => by simp [putSorted]
 | z :: r, h, hx => by
   rw [List.pairwise_cons] at h
   rw [putSorted]
   split
   · rename_i hle
     have hlt : x < z := by
      have : x ≠ z := fun e => hx (by rw [e]; simp)
      omega
     rw [List.pairwise_cons, List.pairwise_cons]
     refine ⟨fun y hy => ?_, h⟩
     rcases List.mem_cons.1 hy with rfl | hy
     · exact hlt
     · have := h.1 y hy; omega
   · rename_i hle
     rw [List.pairwise_cons]
     refine ⟨fun y hy => ?_, putSorted_rise h.2 fun hh => hx (List.mem_cons_of_mem _ hh)⟩
     rcases putSorted_mem.1 hy with rfl | hy
     · omega
     · exact h.1 y hy
theorem sortN_rise : ∀ {l : List Nat}, l.Nodup → (sortN l).Pairwise (· < ·)
 | [], _ => by simp [sortN]
 | z :: r, h => by
   rw [List.nodup_cons] at h
   exact putSorted_rise (sortN_rise h.2) fun hh => h.1 (sortN_mem.1 hh)
theorem rise_nodup {f : Nat → Int} {l : List Nat} (h : l.Pairwise fun x y => f x < f y) : l.Nodup :=
 h.imp fun hab e => by rw [e] at hab; omega
theorem grp_inv {rel : Nat → List Int} {n i : Nat} {G : Nat → Prop} {t : TS} {pre seg : List Nat} (h : TInv rel n (fun x => G x ∨ x = i) t) (hst : t.stack = pre ++ i :: seg) (hGp : ∀ g, G g → g ∈ pre) (hlow : t.low i = t.num i)
 (hvis : ∀ y, Edge rel n i y → t.num y ≠ 0) (hcr : ∀ x y, x ∈ i :: seg → Edge rel n x y → y ∈ pre → t.low i ≤ t.num y) :
 TInv rel n G (grpT i t) ∧ (grpT i t).stack = pre ∧ (∀ x, (grpT i t).of x = if x ∈ i :: seg then (t.groups.length : Int) else t.of x) := by
 have hnd : t.stack.Nodup := rise_nodup h.rise
 rw [hst] at hnd
 have hrise := h.rise
 rw [hst, List.pairwise_append] at hrise
 have hni : i ∉ pre := fun hh => by
  have := hrise.2.2 i hh i (by simp); omega
 obtain ⟨e1, e2⟩ := split_stack (i := i) (a := pre) (b := seg) hni
 have hst' : (grpT i t).stack = pre := by show t.stack.takeWhile _ = pre; rw [hst, e1]
 have hL : (t.stack.dropWhile fun x => !decide (x = i)) = i :: seg := by rw [hst, e2]
 have hof : ∀ x, (grpT i t).of x = if x ∈ i :: seg then (t.groups.length : Int) else t.of x := fun x => by
  show markT t.of t.groups.length (t.stack.dropWhile fun x => !decide (x = i)) x = _
  rw [hL]
  split
  · rename_i hx; exact markT_mem hx
  · rename_i hx; exact markT_not hx
 have hgr : (grpT i t).groups = t.groups ++ [sortN (i :: seg)] := by show t.groups ++ [sortN (t.stack.dropWhile _)] = _; rw [hL]
 have hLs : ∀ x, x ∈ i :: seg → x ∈ t.stack := fun x hx => by rw [hst]; exact List.mem_append_right _ hx
 have hLn : ∀ x, x ∈ i :: seg → x ∉ pre := fun x hx hp => by
  have := hrise.2.2 x hp x hx; omega
 have hLi : ∀ x, x ∈ i :: seg → t.num i ≤ t.num x := fun x hx => by
  rcases List.mem_cons.1 hx with rfl | hx
  · exact Int.le_refl _
  · exact Int.le_of_lt ((List.pairwise_cons.1 hrise.2.1).1 x hx)
 have hsplit : ∀ x, x ∈ t.stack → x ∈ pre ∨ x ∈ i :: seg := fun x hx => by rw [hst] at hx; exact List.mem_append.1 hx
 have hpi : ∀ x, x ∈ pre → t.num x < t.num i := fun x hx => hrise.2.2 x hx i (by simp)
 have his : i ∈ t.stack := hLs i (by simp)
 have both : ∀ x, x ∈ i :: seg → Rch rel n i x ∧ Rch rel n x i := fun x hx => by
  refine ⟨h.up i x his (hLs x hx) (hLi x hx), ?_⟩
  obtain ⟨g, hg, _, hr⟩ := h.down x (hLs x hx)
  rcases hg with hg | rfl
  · exact hr.trans (h.up g i (h.grey g (Or.inl hg)) his (Int.le_of_lt (hpi g (hGp g hg))))
  · exact hr
 have vis : ∀ x y, x ∈ i :: seg → Edge rel n x y → t.num y ≠ 0 := fun x y hx e => by
  by_cases hxi : x = i
  · subst hxi; exact hvis y e
  · refine h.black x y ((h.stk x).1 (hLs x hx)).1 (fun hg => ?_) e
    rcases hg with hg | hg
    · exact hLn x hx (hGp x hg)
    · exact hxi hg
 have clo : ∀ x y, x ∈ i :: seg → Edge rel n x y → y ∈ i :: seg ∨ 0 ≤ t.of y := fun x y hx e => by
  by_cases ho : 0 ≤ t.of y
  · exact Or.inr ho
  · rcases hsplit y ((h.stk y).2 ⟨vis x y hx e, by omega⟩) with hp | hl
    · have h1 := hcr x y hx e hp
      have h2 := hpi y hp
      omega
    · exact Or.inl hl
 have lof : ∀ x, x ∈ i :: seg → t.of x < 0 := fun x hx => ((h.stk x).1 (hLs x hx)).2
 have dn : ∀ x y, 0 ≤ t.of x → Rch rel n x y → 0 ≤ t.of y := fun x y hx hr => hr.stay (S := fun z => 0 ≤ t.of z) (fun a b ha e => (h.done a b ha e).1) hx
 have fwd : ∀ x y, x ∈ i :: seg → Rch rel n x y → y ∈ i :: seg ∨ 0 ≤ t.of y := fun x y hx hr => hr.stay (S := fun z => z ∈ i :: seg ∨ 0 ≤ t.of z) (fun a b ha e => by
  rcases ha with ha | ha
  · exact clo a b ha e
  · exact Or.inr (h.done a b ha e).1) (Or.inl hx)
 refine ⟨⟨h.num0, h.lt, h.inj, fun x hx => ?_, fun x => ?_, fun x => ?_, ?_, fun x hx => ?_, fun x y hx hg e => ?_, fun x y hx e => ?_, fun x y hx hy hxy => ?_, fun y hy => ?_, fun x hx y => ?_, fun k l hk => ?_⟩, hst', hof⟩
 · rw [hof, if_neg fun hl => ((h.stk x).1 (hLs x hl)).1 hx]; exact h.white x hx
 · rw [hof, hgr, List.length_append, List.length_singleton]
   have := h.ofb x
   split <;> omega
 · rw [hst', hof]
   constructor
   · intro hx
     have := (h.stk x).1 (by rw [hst]; exact List.mem_append_left _ hx)
     rw [if_neg fun hl => hLn x hl hx]; exact this
   · rintro ⟨h1, h2⟩
     split at h2
     · omega
     · rename_i hl
       exact (hsplit x ((h.stk x).2 ⟨h1, h2⟩)).resolve_right hl
 · rw [hst']; exact hrise.1
 · rw [hst']; exact hGp x hx
 · by_cases hxl : x ∈ i :: seg
   · exact vis x y hxl e
   · refine h.black x y hx (fun hg' => ?_) e
     rcases hg' with hg' | rfl
     · exact hg hg'
     · exact hxl (by simp)
 · rw [hof] at hx
   rw [hof, hof]
   by_cases hxl : x ∈ i :: seg
   · rw [if_pos hxl]
     rcases clo x y hxl e with hy | hy
     · rw [if_pos hy]; omega
     · split
       · omega
       · have := h.ofb y; omega
   · rw [if_neg hxl] at hx ⊢
     obtain ⟨a, b⟩ := h.done x y hx e
     rw [if_neg fun hl => by have := lof y hl; omega]
     exact ⟨a, b⟩
 · rw [hst'] at hx hy
   exact h.up x y (by rw [hst]; exact List.mem_append_left _ hx) (by rw [hst]; exact List.mem_append_left _ hy) hxy
 · rw [hst'] at hy
   obtain ⟨g, hg, hgy, hr⟩ := h.down y (by rw [hst]; exact List.mem_append_left _ hy)
   rcases hg with hg | rfl
   · exact ⟨g, hg, hgy, hr⟩
   · have := hpi y hy; omega
 · rw [hof] at hx
   rw [hof, hof]
   by_cases hxl : x ∈ i :: seg
   · rw [if_pos hxl]
     constructor
     · rintro ⟨h1, h2⟩
       rcases fwd x y hxl h1 with hy | hy
       · rw [if_pos hy]
       · have := dn y x hy h2; have := lof x hxl; omega
     · intro hy
       split at hy
       · rename_i hyl
         obtain ⟨a1, a2⟩ := both x hxl
         obtain ⟨b1, b2⟩ := both y hyl
         exact ⟨a2.trans b1, b2.trans a1⟩
       · have := h.ofb y; omega
   · rw [if_neg hxl] at hx ⊢
     rw [h.scc x hx y]
     constructor
     · intro hy
       rw [if_neg fun hl => by have := lof y hl; omega]; exact hy
     · intro hy
       split at hy
       · have := h.ofb x; omega
       · exact hy
 · rw [hgr] at hk
   by_cases hkl : k < t.groups.length
   · rw [List.getElem?_append_left hkl] at hk
     obtain ⟨a, b, c⟩ := h.grp k l hk
     refine ⟨a, b, fun x => ?_⟩
     rw [c x, hof]
     constructor
     · intro hx
       rw [if_neg fun hl => by have := lof x hl; omega]; exact hx
     · intro hx
       split at hx
       · omega
       · exact hx
   · rw [List.getElem?_append_right (by omega)] at hk
     have hk0 : k = t.groups.length := by
      rcases Nat.lt_or_ge (k - t.groups.length) 1 with h1 | h1
      · omega
      · rw [List.getElem?_eq_none (by simpa using h1)] at hk; cases hk
     subst hk0
     rw [Nat.sub_self] at hk
     cases hk
     refine ⟨fun e => ?_, sortN_rise (List.nodup_append.1 hnd).2.1, fun x => ?_⟩
     · have : i ∈ sortN (i :: seg) := sortN_mem.2 (by simp)
       rw [e] at this; cases this
     · rw [sortN_mem, hof]
       constructor
       · intro hx; rw [if_pos hx]
       · intro hx
         split at hx
         · assumption
         · have := h.ofb x; omega
end Go.Proofs

namespace Go.Proofs
def unvT (n : Nat) (s : TS) : Nat := (List.range n).countP fun x => decide (s.num x = 0)
theorem countP_less {p q : Nat → Bool} : ∀ {l : List Nat}, (∀ x ∈ l, p x = true → q x = true) → ∀ {i : Nat}, i ∈ l → p i = false → q i = true → l.countP p < l.countP q
 | a :: l, h, i, hi, hp, hq => by
   rw [List.countP_cons, List.countP_cons]
   have hm := List.countP_mono_left (p := p) (q := q) (l := l) fun x hx => h x (List.mem_cons_of_mem _ hx)
   have ha := h a (by simp)
   rcases List.mem_cons.1 hi with e | hi
   · subst e; rw [hp, hq]; simp; omega
   · have := countP_less (l := l) (fun x hx => h x (List.mem_cons_of_mem _ hx)) hi hp hq
     cases h1 : p a <;> cases h2 : q a <;> simp_all <;> omega
theorem unv_le {n : Nat} {s s' : TS} (h : ∀ x, s.num x ≠ 0 → s'.num x ≠ 0) : unvT n s' ≤ unvT n s := by
 refine List.countP_mono_left fun x _ hx => ?_
 rw [decide_eq_true_eq] at hx ⊢
 exact Classical.byContradiction fun hn => h x hn hx
theorem unv_lt {n i : Nat} {s s' : TS} (h : ∀ x, s.num x ≠ 0 → s'.num x ≠ 0) (hi : i < n) (h0 : s.num i = 0) (h1 : s'.num i ≠ 0) : unvT n s' < unvT n s := by
 refine countP_less (fun x _ hx => ?_) (List.mem_range.2 hi) (decide_eq_false h1) (decide_eq_true h0)
 rw [decide_eq_true_eq] at hx ⊢
 exact Classical.byContradiction fun hn => h x hn hx
theorem TInv.low {rel : Nat → List Int} {n : Nat} {G : Nat → Prop} {s : TS} (h : TInv rel n G s) (l : Nat → Int) : TInv rel n G { s with low := l } :=
 ⟨h.num0, h.lt, h.inj, h.white, h.ofb, h.stk, h.rise, h.grey, h.black, h.done, h.up, h.down, h.scc, h.grp⟩
structure TLoop (rel : Nat → List Int) (n i : Nat) (G : Nat → Prop) (s t : TS) (P : List Int) : Prop where
 inv : TInv rel n (fun x => G x ∨ x = i) t
 ext : TExt s t
 seen : t.num i = (s.next + 1 : Nat)
 stk : ∃ seg, t.stack = s.stack ++ i :: seg
 le : t.low i ≤ t.num i
 on : ∃ y, y ∈ t.stack ∧ t.num y ≤ t.num i ∧ t.low i = t.num y ∧ Rch rel n i y
 cross : ∀ x y, x ∈ t.stack → x ∉ s.stack → x ≠ i → Edge rel n x y → y ∈ s.stack → t.low i ≤ t.num y
 crossi : ∀ y : Nat, (y : Int) ∈ P → y ∈ s.stack → t.low i ≤ t.num y
 vis : ∀ y : Nat, (y : Int) ∈ P → y < n → t.num y ≠ 0
 unv : unvT n t < unvT n s
abbrev VisOk (rel : Nat → List Int) (n f : Nat) : Prop := ∀ (i : Nat) (s : TS) (G : Nat → Prop), s.num i = 0 → i < n → unvT n s ≤ f → TInv rel n G s → (∀ g, G g → Rch rel n g i) → TInv rel n G (visT rel n f i s) ∧ TVis rel n i s (visT rel n f i s)
theorem edg_ok {rel : Nat → List Int} {n f i : Nat} {G : Nat → Prop} {s t : TS} {P : List Int} {j : Int} (IH : VisOk rel n f) (hI : TInv rel n G s) (h0 : s.num i = 0) (hi : i < n) (hu : unvT n s ≤ f + 1) (hG : ∀ g, G g → Rch rel n g i) (hj : j ∈ rel i) (L : TLoop rel n i G s t P) :
 TLoop rel n i G s (edgT n i (visT rel n f) t j) (P ++ [j]) := by
 obtain ⟨seg, hst⟩ := L.stk
 have his : i ∈ t.stack := by rw [hst]; simp
 have hni : i ∉ s.stack := fun hh => ((hI.stk i).1 hh).1 h0
 have hsub : ∀ x, x ∈ s.stack → x ∈ t.stack := fun x hx => by rw [hst]; exact List.mem_append_left _ hx
 have hnz : ∀ x, x ∈ t.stack → t.num x ≠ 0 := fun x hx => ((L.inv.stk x).1 hx).1
 unfold edgT
 by_cases hr : j < 0 ∨ (n : Int) ≤ j
 · rw [if_pos hr]
   refine ⟨L.inv, L.ext, L.seen, L.stk, L.le, L.on, L.cross, fun y hy hys => ?_, fun y hy hyn => ?_, L.unv⟩
   · rcases List.mem_append.1 hy with hy | hy
     · exact L.crossi y hy hys
     · rw [List.mem_singleton] at hy
       have := hI.lt y ((hI.stk y).1 hys).1
       omega
   · rcases List.mem_append.1 hy with hy | hy
     · exact L.vis y hy hyn
     · rw [List.mem_singleton] at hy; omega
 · rw [if_neg hr]
   obtain ⟨k, rfl⟩ : ∃ k : Nat, j = k := ⟨j.toNat, by omega⟩
   have hk : k < n := by omega
   rw [Int.toNat_natCast]
   have hE : Edge rel n i k := ⟨hi, hk, hj⟩
   by_cases hk0 : t.num k = 0
   · rw [if_pos hk0]
     obtain ⟨hI', V⟩ := IH k t _ hk0 hk (by have := L.unv; omega) L.inv (fun g hg => by
      rcases hg with hg | rfl
      · exact (hG g hg).trans (.one hE)
      · exact .one hE)
     dsimp only
     generalize visT rel n f k t = s' at *
     have li : s'.low i = t.low i := V.ext.low i his
     have ni : s'.num i = t.num i := V.ext.num i (hnz i his)
     have hti := (L.inv.num0 i).2
     have e1 := L.ext.trans V.ext
     obtain ⟨seg2, hst2⟩ := V.ext.stk
     have hsub2 : ∀ x, x ∈ t.stack → x ∈ s'.stack := fun x hx => by rw [hst2]; exact List.mem_append_left _ hx
     have hle := L.le
     refine ⟨hI'.low _, ⟨e1.next, e1.num, e1.new, e1.of, e1.stk, fun x hx => ?_⟩, ni.trans L.seen, ⟨seg ++ seg2, by (try dsimp only); rw [hst2, hst, List.append_assoc]; rfl⟩, ?_, ?_, fun x y hx hxs hxi e hy => ?_, fun y hy hys => ?_, fun y hy hyn => ?_, ?_⟩ <;> (try dsimp only)
     · (try dsimp only); rw [updT_ne (k := i) (j := x) (fun e => hni (e ▸ hx))]; exact e1.low x hx
     · rw [updT_eq, li, ni]; omega
     · rw [updT_eq, li, ni]
       obtain ⟨y0, hy0, hy1, hy2, hy3⟩ := L.on
       by_cases hlt : s'.low k < t.low i
       · by_cases hks : k ∈ s'.stack
         · obtain ⟨y, a, b, c⟩ := V.on hks
           refine ⟨y, hsub2 y a, by omega, by omega, (Rch.one hE).trans c⟩
         · have a := (V.out hks).1
           have b := V.seen
           omega
       · refine ⟨y0, hsub2 y0 hy0, ?_, ?_, hy3⟩
         · rw [V.ext.num y0 (hnz y0 hy0)]; exact hy1
         · rw [V.ext.num y0 (hnz y0 hy0)]; omega
     · rw [updT_eq, li]
       have hyn := V.ext.num y (hnz y (hsub y hy))
       by_cases hxt : x ∈ t.stack
       · have := L.cross x y hxt hxs hxi e hy
         omega
       · have := V.cross x y hx hxt e (hsub y hy)
         omega
     · rw [updT_eq, li]
       have hyn := V.ext.num y (hnz y (hsub y hys))
       rcases List.mem_append.1 hy with hy | hy
       · have := L.crossi y hy hys; omega
       · rw [List.mem_singleton] at hy
         have : y = k := by omega
         subst this
         exact absurd hk0 (hnz y (hsub y hys))
     · rcases List.mem_append.1 hy with hy | hy
       · have := L.vis y hy hyn
         rw [V.ext.num y this]; exact this
       · rw [List.mem_singleton] at hy
         have : y = k := by omega
         subst this
         rw [V.seen]; omega
     · have h1 : unvT n { s' with low := updT s'.low i (min (s'.low i) (s'.low k)) } = unvT n s' := rfl
       rw [h1]
       have := unv_le (n := n) (s := t) (s' := s') fun x hx => by rw [V.ext.num x hx]; exact hx
       have := L.unv
       omega
   · rw [if_neg hk0]
     by_cases hof : t.of k < 0
     · rw [if_pos hof]
       have hks : k ∈ t.stack := (L.inv.stk k).2 ⟨hk0, hof⟩
       have hle := L.le
       refine ⟨L.inv.low _, ⟨L.ext.next, L.ext.num, L.ext.new, L.ext.of, L.ext.stk, fun x hx => ?_⟩, L.seen, L.stk, ?_, ?_, fun x y hx hxs hxi e hy => ?_, fun y hy hys => ?_, fun y hy hyn => ?_, L.unv⟩ <;> (try dsimp only)
       · (try dsimp only); rw [updT_ne (k := i) (j := x) (fun e => hni (e ▸ hx))]; exact L.ext.low x hx
       · rw [updT_eq]; omega
       · rw [updT_eq]
         obtain ⟨y0, hy0, hy1, hy2, hy3⟩ := L.on
         by_cases hlt : t.num k < t.low i
         · exact ⟨k, hks, by omega, by omega, .one hE⟩
         · exact ⟨y0, hy0, hy1, by omega, hy3⟩
       · rw [updT_eq]
         have := L.cross x y hx hxs hxi e hy
         omega
       · rw [updT_eq]
         rcases List.mem_append.1 hy with hy | hy
         · have := L.crossi y hy hys; omega
         · rw [List.mem_singleton] at hy
           have : y = k := by omega
           subst this; omega
       · rcases List.mem_append.1 hy with hy | hy
         · exact L.vis y hy hyn
         · rw [List.mem_singleton] at hy
           have : y = k := by omega
           subst this; exact hk0
     · rw [if_neg hof]
       refine ⟨L.inv, L.ext, L.seen, L.stk, L.le, L.on, L.cross, fun y hy hys => ?_, fun y hy hyn => ?_, L.unv⟩
       · rcases List.mem_append.1 hy with hy | hy
         · exact L.crossi y hy hys
         · rw [List.mem_singleton] at hy
           have : y = k := by omega
           subst this
           exact absurd ((L.inv.stk y).1 (hsub y hys)).2 hof
       · rcases List.mem_append.1 hy with hy | hy
         · exact L.vis y hy hyn
         · rw [List.mem_singleton] at hy
           have : y = k := by omega
           subst this; exact hk0
theorem ent_loop {rel : Nat → List Int} {n i : Nat} {G : Nat → Prop} {s : TS} (hI : TInv rel n G s) (h0 : s.num i = 0) (hi : i < n) (hG : ∀ g, G g → Rch rel n g i) : TLoop rel n i G s (entT i s) [] := by
 have hni : i ∉ s.stack := fun hh => ((hI.stk i).1 hh).1 h0
 have hinv := ent_inv hI h0 hi hG
 have nme : (entT i s).num i = (s.next + 1 : Nat) := updT_eq _ _ _
 have nmo : ∀ x, x ≠ i → (entT i s).num x = s.num x := fun x hx => updT_ne hx
 have lwe : (entT i s).low i = (s.next + 1 : Nat) := updT_eq _ _ _
 have hst : (entT i s).stack = s.stack ++ [i] := rfl
 have hx : ∀ x, s.num x ≠ 0 → (entT i s).num x = s.num x := fun x hx => nmo x fun e => hx (e ▸ h0)
 refine ⟨hinv, ⟨Nat.le_succ _, hx, fun x hx => ?_, fun _ _ => rfl, ⟨[i], rfl⟩, fun x hx => updT_ne fun e => hni (e ▸ hx)⟩, nme, ⟨[], rfl⟩, by rw [lwe, nme]; exact Int.le_refl _, ⟨i, by rw [hst]; simp, Int.le_refl _, by rw [lwe, nme], .refl _⟩, fun x y hx hxs hxi => ?_, (fun y hy => by cases hy), (fun y hy => by cases hy), ?_⟩
 · by_cases e : x = i
   · subst e; right; rw [nme]; omega
   · left; rw [nmo x e]; exact hx
 · rw [hst] at hx
   rcases List.mem_append.1 hx with h | h
   · exact absurd h hxs
   · exact absurd (List.mem_singleton.1 h) hxi
 · exact unv_lt (fun x h => by rw [hx x h]; exact h) hi h0 (by rw [nme]; omega)
theorem fin_ok {rel : Nat → List Int} {n i : Nat} {G : Nat → Prop} {s t : TS} (hI : TInv rel n G s) (h0 : s.num i = 0) (hi : i < n) (L : TLoop rel n i G s t (rel i)) : TInv rel n G (finT i t) ∧ TVis rel n i s (finT i t) := by
 obtain ⟨seg, hst⟩ := L.stk
 have hnd : t.stack.Nodup := rise_nodup L.inv.rise
 rw [hst] at hnd
 have hrise := L.inv.rise
 rw [hst, List.pairwise_append] at hrise
 have hni : i ∉ s.stack := fun hh => ((hI.stk i).1 hh).1 h0
 have hLs : ∀ x, x ∈ i :: seg → x ∈ t.stack := fun x hx => by rw [hst]; exact List.mem_append_right _ hx
 have hLn : ∀ x, x ∈ i :: seg → x ∉ s.stack := fun x hx hp => by
  have := hrise.2.2 x hp x hx; omega
 have hLi : ∀ x, x ∈ i :: seg → t.num i ≤ t.num x := fun x hx => by
  rcases List.mem_cons.1 hx with rfl | hx
  · exact Int.le_refl _
  · exact Int.le_of_lt ((List.pairwise_cons.1 hrise.2.1).1 x hx)
 have hcr : ∀ x y, x ∈ i :: seg → Edge rel n x y → y ∈ s.stack → t.low i ≤ t.num y := fun x y hx e hy => by
  by_cases hxi : x = i
  · subst hxi; exact L.crossi y e.2.2 hy
  · exact L.cross x y (hLs x hx) (hLn x hx) hxi e hy
 unfold finT
 by_cases hl : t.low i = t.num i
 · rw [if_pos hl]
   obtain ⟨a, b, c⟩ := grp_inv L.inv hst (fun g hg => hI.grey g hg) hl (fun y e => L.vis y e.2.2 e.2.1) hcr
   have low' : ∀ x, (grpT i t).low x = t.low x := fun _ => rfl
   have num' : ∀ x, (grpT i t).num x = t.num x := fun _ => rfl
   refine ⟨a, ⟨L.ext.next, L.ext.num, L.ext.new, fun x hx => ?_, ⟨[], by rw [b]; simp⟩, L.ext.low⟩, L.seen, L.le, fun _ => ⟨hl, b⟩, fun h => ?_, fun x y hx hxs => ?_⟩
   · have h1 := L.ext.of x hx
     rw [c, if_neg fun hh => by have := ((L.inv.stk x).1 (hLs x hh)).2; omega]; exact h1
   · rw [b] at h; exact absurd h hni
   · rw [b] at hx; exact absurd hx hxs
 · rw [if_neg hl]
   have hle := L.le
   obtain ⟨z, hz, hz1, hz2, hz3⟩ := L.on
   have hzs : z ∈ s.stack := by
    rw [hst] at hz
    rcases List.mem_append.1 hz with h | h
    · exact h
    · have := hLi z h; omega
   refine ⟨⟨L.inv.num0, L.inv.lt, L.inv.inj, L.inv.white, L.inv.ofb, L.inv.stk, L.inv.rise, fun x hx => L.inv.grey x (Or.inl hx), fun x y hx hg e => ?_, L.inv.done, L.inv.up, fun y hy => ?_, L.inv.scc, L.inv.grp⟩, ⟨L.ext, L.seen, L.le, fun h => absurd (hLs i (by simp)) h, fun _ => ⟨z, hzs, hz2, hz3⟩, fun x y hx hxs e hy => ?_⟩⟩
   · by_cases hxi : x = i
     · subst hxi; exact L.vis y e.2.2 e.2.1
     · exact L.inv.black x y hx (fun h => h.elim hg hxi) e
   · obtain ⟨g, hg, hgy, hr⟩ := L.inv.down y hy
     rcases hg with hg | rfl
     · exact ⟨g, hg, hgy, hr⟩
     · obtain ⟨g2, hg2, hgz, hr2⟩ := L.inv.down z hz
       rcases hg2 with hg2 | rfl
       · exact ⟨g2, hg2, by omega, (hr.trans hz3).trans hr2⟩
       · omega
   · rw [hst] at hx
     rcases List.mem_append.1 hx with h | h
     · exact absurd h hxs
     · exact hcr x y h e hy
theorem visT_ok (rel : Nat → List Int) (n : Nat) : ∀ f, VisOk rel n f
 | 0, i, s, G, h0, hi, hu, hI, hG => by
   exfalso
   have : unvT n { s with num := fun _ => 1 } < unvT n s := unv_lt (fun x _ => by dsimp only; omega) hi h0 (by dsimp only; omega)
   omega
 | f + 1, i, s, G, h0, hi, hu, hI, hG => by
   have key : ∀ (l P : List Int) (t : TS), P ++ l = rel i → TLoop rel n i G s t P → TLoop rel n i G s (l.foldl (edgT n i (visT rel n f)) t) (rel i) := by
    intro l
    induction l with
    | nil => intro P t e L; rw [List.append_nil] at e; subst e; exact L
    | cons j l ih =>
      intro P t e L
      rw [List.foldl_cons]
      refine ih (P ++ [j]) _ (by rw [List.append_assoc]; exact e) ?_
      exact edg_ok (visT_ok rel n f) hI h0 hi hu hG (by rw [← e]; simp) L
   rw [visT]
   exact fin_ok hI h0 hi (key (rel i) [] _ rfl (ent_loop hI h0 hi hG))
theorem tar_ok (rel : Nat → List Int) (n : Nat) : TInv rel n (fun _ => False) (tarT rel n) ∧ (tarT rel n).stack = [] ∧ ∀ x, x < n → 0 ≤ (tarT rel n).of x := by
 have key : ∀ (l : List Nat), (∀ x ∈ l, x < n) → ∀ (s : TS), TInv rel n (fun _ => False) s → TInv rel n (fun _ => False) (l.foldl (fun s i => if s.num i = 0 then visT rel n n i s else s) s) ∧ (∀ x, s.num x ≠ 0 → (l.foldl (fun s i => if s.num i = 0 then visT rel n n i s else s) s).num x ≠ 0) ∧ ∀ x ∈ l, (l.foldl (fun s i => if s.num i = 0 then visT rel n n i s else s) s).num x ≠ 0 := by
  intro l
  induction l with
  | nil => intro _ s h; exact ⟨h, fun _ h => h, fun x hx => by cases hx⟩
  | cons i l ih =>
    intro hl s h
    rw [List.foldl_cons]
    have step : ∃ s1, (if s.num i = 0 then visT rel n n i s else s) = s1 ∧ TInv rel n (fun _ => False) s1 ∧ (∀ x, s.num x ≠ 0 → s1.num x ≠ 0) ∧ s1.num i ≠ 0 := by
     by_cases h0 : s.num i = 0
     · rw [if_pos h0]
       obtain ⟨a, b⟩ := visT_ok rel n n i s (fun _ => False) h0 (hl i (by simp)) (by unfold unvT; have := List.countP_le_length (p := fun x => decide (s.num x = 0)) (l := List.range n); rw [List.length_range] at this; exact this) h (fun g hg => hg.elim)
       exact ⟨_, rfl, a, fun x hx => by rw [b.ext.num x hx]; exact hx, by rw [b.seen]; omega⟩
     · rw [if_neg h0]
       exact ⟨s, rfl, h, fun _ h => h, h0⟩
    obtain ⟨s1, e, h1, h2, h3⟩ := step
    rw [e]
    obtain ⟨a, b, c⟩ := ih (fun x hx => hl x (List.mem_cons_of_mem _ hx)) s1 h1
    refine ⟨a, fun x hx => b x (h2 x hx), fun x hx => ?_⟩
    rcases List.mem_cons.1 hx with rfl | hx
    · exact b x h3
    · exact c x hx
 obtain ⟨a, _, c⟩ := key (List.range n) (fun x hx => List.mem_range.1 hx) _ (show TInv rel n (fun _ => False) { num := fun _ => 0, low := fun _ => 0, of := fun _ => -1, stack := [], groups := [], next := 0 } from
  ⟨fun _ => ⟨by dsimp only; omega, by dsimp only; omega⟩, fun x h => absurd rfl h, fun x _ h => absurd rfl h, fun _ _ => rfl, fun _ => ⟨by dsimp only; omega, by simp⟩, fun x => by simp, List.Pairwise.nil, fun x h => h.elim, fun x _ h => absurd rfl h, fun x _ h => by dsimp only at h; omega, fun x y h => by simp at h, fun y h => by simp at h, fun x h => by dsimp only at h; omega, fun k l h => by simp at h⟩)
 have hst : (tarT rel n).stack = [] := by
  cases hs : (tarT rel n).stack with
  | nil => rfl
  | cons x r =>
    have hx : x ∈ (tarT rel n).stack := by rw [hs]; simp
    obtain ⟨g, hg, _⟩ := (show TInv rel n (fun _ => False) (tarT rel n) from a).down x hx
    exact hg.elim
 refine ⟨a, hst, fun x hx => ?_⟩
 have hv := c x (List.mem_range.2 hx)
 refine Classical.byContradiction fun hn => ?_
 have : x ∈ (tarT rel n).stack := ((show TInv rel n (fun _ => False) (tarT rel n) from a).stk x).2 ⟨hv, by omega⟩
 rw [hst] at this; cases this
end Go.Proofs

namespace Go.Proofs
def FullT (rel : Nat → List Int) (n : Nat) (S : Nat → Int → Prop) (of : Nat → Int) (k : Nat) (A : Int → Prop) : Prop := ∀ v, A v ↔ ∃ i j, of i = (k : Int) ∧ Rch rel n i j ∧ S j v
theorem of_lt {rel : Nat → List Int} {n : Nat} {G : Nat → Prop} {s : TS} (h : TInv rel n G s) {x : Nat} (hx : 0 ≤ s.of x) : x < n := by
 refine h.lt x fun e => ?_
 have := h.white x e
 omega
theorem same_of {rel : Nat → List Int} {n : Nat} {G : Nat → Prop} {s : TS} (h : TInv rel n G s) {x y : Nat} (hx : 0 ≤ s.of x) (e : s.of y = s.of x) : Rch rel n x y ∧ Rch rel n y x := (h.scc x hx y).2 e
theorem rch_leave {rel : Nat → List Int} {n : Nat} {G : Nat → Prop} {s : TS} (h : TInv rel n G s) {x y : Nat} (hx : 0 ≤ s.of x) (hr : Rch rel n x y) : s.of y = s.of x ∨ ∃ a b, s.of a = s.of x ∧ Edge rel n a b ∧ s.of b < s.of x ∧ 0 ≤ s.of b ∧ Rch rel n b y := by
 induction hr with
 | refl => exact Or.inl rfl
 | step h1 e ih =>
   rename_i j k
   rcases ih with h2 | ⟨a, b, h2, h3, h4, h5, h6⟩
   · have hj : 0 ≤ s.of j := by omega
     have := h.done j k hj e
     by_cases hk : s.of k = s.of x
     · exact Or.inl hk
     · exact Or.inr ⟨j, k, h2, e, by omega, this.1, .refl _⟩
   · exact Or.inr ⟨a, b, h2, h3, h4, h5, .step h6 e⟩
theorem full_done {rel : Nat → List Int} {n : Nat} {G : Nat → Prop} {s : TS} {S : Nat → Int → Prop} {A : Nat → Int → Prop} {k : Nat} (h : TInv rel n G s) (hlt : ∀ k' : Nat, k' < k → FullT rel n S s.of k' (A k'))
 (hs : ∀ v, A k v → ∃ i j, s.of i = (k : Int) ∧ Rch rel n i j ∧ S j v) (hc1 : ∀ i, s.of i = (k : Int) → ∀ v, S i v → A k v) (hc2 : ∀ i j (k' : Nat), s.of i = (k : Int) → Edge rel n i j → s.of j = (k' : Int) → k' < k → ∀ v, A k' v → A k v) : FullT rel n S s.of k (A k) := by
 intro v
 refine ⟨hs v, fun ⟨i, j, hi, hr, hv⟩ => ?_⟩
 have hi0 : 0 ≤ s.of i := by omega
 rcases rch_leave h hi0 hr with e | ⟨a, b, e1, e2, e3, e4, e5⟩
 · exact hc1 j (by omega) v hv
 · obtain ⟨k', hk'⟩ : ∃ k' : Nat, s.of b = k' := ⟨(s.of b).toNat, by omega⟩
   exact hc2 a b k' (by omega) e2 hk' (by omega) v ((hlt k' (by omega) v).2 ⟨b, j, hk', e5, hv⟩)
theorem full_out {rel : Nat → List Int} {n : Nat} {G : Nat → Prop} {s : TS} {S : Nat → Int → Prop} {A : Int → Prop} {k i : Nat} (h : TInv rel n G s) (hf : FullT rel n S s.of k A) (hi : s.of i = (k : Int)) (v : Int) : A v ↔ ∃ j, Rch rel n i j ∧ S j v := by
 rw [hf v]
 constructor
 · rintro ⟨i', j, h1, h2, h3⟩
   exact ⟨j, ((same_of h (x := i) (y := i') (by omega) (by omega)).1).trans h2, h3⟩
 · rintro ⟨j, h2, h3⟩
   exact ⟨i, j, hi, h2, h3⟩

def rchS (n : Nat) (q : List Int × List Int) (j : Int) : List Int × List Int := if 0 ≤ j ∧ j < (n : Int) ∧ j ∉ q.1 then (putL q.1 j, q.2 ++ [j]) else q
def rchF (rel : Nat → List Int) (n : Nat) : Nat → List Int → List Int → List Int
 | 0, out, _ => out
 | _ + 1, out, [] => out
 | f + 1, out, i :: todo => rchF rel n f ((rel i.toNat).foldl (rchS n) (out, todo)).1 ((rel i.toNat).foldl (rchS n) (out, todo)).2
def reachS (rel : Nat → List Int) (n i : Nat) : List Int := rchF rel n (n + 1) [(i : Int)] [(i : Int)]
structure RchI (rel : Nat → List Int) (n i : Nat) (out todo : List Int) : Prop where
 rise : Rise out
 mem : ∀ x ∈ out, ∃ k : Nat, x = k ∧ k < n ∧ Rch rel n i k
 self : (i : Int) ∈ out
 sub : ∀ x ∈ todo, x ∈ out
 clo : ∀ x : Nat, (x : Int) ∈ out → (x : Int) ∉ todo → ∀ y, Edge rel n x y → (y : Int) ∈ out
theorem putL_new {l : List Int} {x : Int} (h : x ∉ l) : (putL l x).length = l.length + 1 := by
 have hc : cutP l x l.length ≤ l.length := cutP_le _ _ _
 unfold putL
 by_cases e : 0 < cutP l x l.length ∧ l.getD (cutP l x l.length - 1) 0 = x
 · exfalso
   have hlt : cutP l x l.length - 1 < l.length := by omega
   rw [List.getD_eq_getElem?_getD, List.getElem?_eq_getElem hlt, Option.getD_some] at e
   exact h (e.2 ▸ List.getElem_mem hlt)
 · rw [if_neg e, List.length_append, List.length_append, List.length_take, List.length_drop, List.length_singleton]; omega
theorem rise_bound {n : Nat} : ∀ {l : List Int}, Rise l → (∀ x ∈ l, 0 ≤ x ∧ x < (n : Int)) → l.length ≤ n := by
 intro l h hb
 have : ∀ (l : List Int) (a : Int), Rise l → (∀ x ∈ l, a ≤ x ∧ x < (n : Int)) → a ≤ n → (l.length : Int) ≤ n - a := by
  intro l
  induction l with
  | nil => intro a _ _ h; simp; omega
  | cons x r ih =>
    intro a h hb ha
    have hx := hb x (by simp)
    have := ih (x + 1) (List.pairwise_cons.1 h).2 (fun y hy => ⟨by have := (List.pairwise_cons.1 h).1 y hy; omega, (hb y (List.mem_cons_of_mem _ hy)).2⟩) (by omega)
    rw [List.length_cons]; omega
 have := this l 0 h hb (by omega)
 omega
theorem rchS_ok {rel : Nat → List Int} {n i : Nat} {x : Nat} (hx : x < n) (hr : Rch rel n i x) : ∀ (l : List Int) (out todo : List Int), (∀ j ∈ l, j ∈ rel x) → Rise out → (∀ y ∈ out, ∃ k : Nat, y = k ∧ k < n ∧ Rch rel n i k) → (∀ y ∈ todo, y ∈ out) →
 let q := l.foldl (rchS n) (out, todo)
 Rise q.1 ∧ (∀ y ∈ q.1, ∃ k : Nat, y = k ∧ k < n ∧ Rch rel n i k) ∧ (∀ y ∈ q.2, y ∈ q.1) ∧ (∀ y ∈ out, y ∈ q.1) ∧ (∀ y ∈ todo, y ∈ q.2) ∧ (∀ y ∈ q.1, y ∉ out → y ∈ q.2) ∧ (∀ j ∈ l, 0 ≤ j → j < (n : Int) → j ∈ q.1) ∧ q.2.length + out.length = todo.length + q.1.length
 | [], out, todo, _, h1, h2, h3 => ⟨h1, h2, h3, fun _ h => h, fun _ h => h, fun y h h' => absurd h h', (fun j h => by cases h), rfl⟩
 | j :: l, out, todo, hl, h1, h2, h3 => by
   rw [List.foldl_cons]
   have hjr := hl j (by simp)
   by_cases hc : 0 ≤ j ∧ j < (n : Int) ∧ j ∉ out
   · have e : rchS n (out, todo) j = (putL out j, todo ++ [j]) := if_pos hc
     rw [e]
     obtain ⟨k, rfl⟩ : ∃ k : Nat, j = k := ⟨j.toNat, by omega⟩
     have mem : ∀ y, y ∈ putL out (k : Int) ↔ y ∈ out ∨ y = (k : Int) := fun y => putL_mem
     obtain ⟨a1, a2, a3, a4, a5, a6, a7, a8⟩ := rchS_ok hx hr l (putL out (k : Int)) (todo ++ [(k : Int)]) (fun y hy => hl y (List.mem_cons_of_mem _ hy)) (putL_rise h1) (fun y hy => by
      rcases (mem y).1 hy with h | rfl
      · exact h2 y h
      · exact ⟨k, rfl, by omega, .step hr ⟨hx, by omega, hjr⟩⟩) (fun y hy => by
      rcases List.mem_append.1 hy with h | h
      · exact (mem y).2 (Or.inl (h3 y h))
      · exact (mem y).2 (Or.inr (List.mem_singleton.1 h)))
     refine ⟨a1, a2, a3, fun y hy => a4 y ((mem y).2 (Or.inl hy)), fun y hy => a5 y (List.mem_append_left _ hy), fun y hy hn => ?_, fun y hy p q => ?_, ?_⟩
     · by_cases hyk : y = (k : Int)
       · subst hyk; exact a5 _ (by simp)
       · exact a6 y hy fun h => ((mem y).1 h).elim hn hyk
     · rcases List.mem_cons.1 hy with rfl | hy
       · exact a4 _ ((mem _).2 (Or.inr rfl))
       · exact a7 y hy p q
     · have := putL_new hc.2.2
       rw [List.length_append, List.length_singleton] at a8
       omega
   · have e : rchS n (out, todo) j = (out, todo) := if_neg hc
     rw [e]
     obtain ⟨a1, a2, a3, a4, a5, a6, a7, a8⟩ := rchS_ok hx hr l out todo (fun y hy => hl y (List.mem_cons_of_mem _ hy)) h1 h2 h3
     refine ⟨a1, a2, a3, a4, a5, a6, fun y hy p q => ?_, a8⟩
     rcases List.mem_cons.1 hy with rfl | hy
     · exact a4 _ (Classical.byContradiction fun hn => hc ⟨p, q, hn⟩)
     · exact a7 y hy p q
theorem rchF_ok {rel : Nat → List Int} {n i : Nat} : ∀ (f : Nat) (out todo : List Int), RchI rel n i out todo → todo.length + n < f + out.length → RchI rel n i (rchF rel n f out todo) []
 | 0, out, todo, h, hf => by
   exfalso
   have := rise_bound (n := n) h.rise (fun x hx => by obtain ⟨k, rfl, hk, _⟩ := h.mem x hx; omega)
   omega
 | f + 1, out, [], h, hf => by rw [rchF]; exact h
 | f + 1, out, x :: todo, h, hf => by
   rw [rchF]
   obtain ⟨k, rfl, hk, hr⟩ := h.mem x (h.sub x (by simp))
   rw [Int.toNat_natCast]
   obtain ⟨a1, a2, a3, a4, a5, a6, a7, a8⟩ := rchS_ok hk hr (rel k) out todo (fun _ h => h) h.rise h.mem (fun y hy => h.sub y (List.mem_cons_of_mem _ hy))
   refine rchF_ok f _ _ ⟨a1, a2, a4 _ h.self, a3, fun y hy hny z e => ?_⟩ (by rw [List.length_cons] at hf; omega)
   by_cases hyk : y = k
   · subst hyk; exact a7 z e.2.2 (by omega) (by have := e.2.1; omega)
   · by_cases hyo : (y : Int) ∈ out
     · refine a4 _ (h.clo y hyo (fun hm => ?_) z e)
       rcases List.mem_cons.1 hm with hm | hm
       · omega
       · exact hny (a5 _ hm)
     · exact absurd (a6 _ hy hyo) hny
theorem reachS_ok {rel : Nat → List Int} {n i : Nat} (hi : i < n) : Rise (reachS rel n i) ∧ ∀ x, x ∈ reachS rel n i ↔ ∃ k : Nat, x = k ∧ k < n ∧ Rch rel n i k := by
 have h : RchI rel n i (reachS rel n i) [] := rchF_ok (n + 1) [(i : Int)] [(i : Int)] ⟨List.pairwise_singleton _ _, fun x hx => ⟨i, List.mem_singleton.1 hx, hi, .refl _⟩, by simp, fun x hx => hx, fun x hx hn => absurd hx hn⟩ (by simp; omega)
 refine ⟨h.rise, fun x => ⟨h.mem x, ?_⟩⟩
 rintro ⟨k, rfl, hk, hr⟩
 exact hr.stay (S := fun z => (z : Int) ∈ reachS rel n i) (fun a b ha e => h.clo a ha (by simp) b e) h.self

abbrev AP (m : Nat → Bool) : Int → Prop := fun v => ∃ y : Nat, v = y ∧ m y = true
def setP (sl : Nat → List Int) (j : Nat) : Int → Prop := AP (memS (sl j))
structure CloI (rel : Nat → List Int) (n : Nat) (of : Nat → Int) (sl : Nat → List Int) (A : Nat → Nat → Bool) (k : Nat) (D1 : Nat → Prop) (D2 : Nat → Nat → Prop) : Prop where
 lt : ∀ k' : Nat, k' < k → FullT rel n (setP sl) of k' (AP (A k'))
 sd : ∀ v, AP (A k) v → ∃ i j, of i = (k : Int) ∧ Rch rel n i j ∧ setP sl j v
 d1 : ∀ x, D1 x → ∀ v, setP sl x v → AP (A k) v
 d2 : ∀ x j (k' : Nat), D2 x j → of j = (k' : Int) → k' < k → ∀ v, AP (A k') v → AP (A k) v
 hi : ∀ k', k < k' → A k' = fun _ => false
def updA (A : Nat → Nat → Bool) (k : Nat) (m : Nat → Bool) : Nat → Nat → Bool := fun i => if i = k then m else A i
theorem updA_eq (A : Nat → Nat → Bool) (k : Nat) (m : Nat → Bool) : updA A k m k = m := if_pos rfl
theorem updA_ne {A : Nat → Nat → Bool} {k i : Nat} {m : Nat → Bool} (h : i ≠ k) : updA A k m i = A i := if_neg h
theorem CloI.start (rel : Nat → List Int) (n : Nat) (of : Nat → Int) (sl : Nat → List Int) : CloI rel n of sl (fun _ _ => false) 0 (fun _ => False) (fun _ _ => False) :=
 ⟨fun k' h => by omega, fun v ⟨y, _, h⟩ => (by cases h), fun x h => h.elim, fun x j k' h => h.elim, fun _ _ => rfl⟩
theorem CloI.weak {rel : Nat → List Int} {n : Nat} {of : Nat → Int} {sl : Nat → List Int} {A : Nat → Nat → Bool} {k : Nat} {D1 E1 : Nat → Prop} {D2 E2 : Nat → Nat → Prop} (h : CloI rel n of sl A k D1 D2) (h1 : ∀ x, E1 x → D1 x) (h2 : ∀ x j, E2 x j → D2 x j) : CloI rel n of sl A k E1 E2 :=
 ⟨h.lt, h.sd, fun x hx => h.d1 x (h1 x hx), fun x j k' hx => h.d2 x j k' (h2 x j hx), h.hi⟩
theorem CloI.join {rel : Nat → List Int} {n : Nat} {of : Nat → Int} {sl : Nat → List Int} {A : Nat → Nat → Bool} {k : Nat} {D1 E1 : Nat → Prop} {D2 E2 : Nat → Nat → Prop} (h : CloI rel n of sl A k D1 D2) {m : Nat → Bool}
 (hm : ∀ v, AP m v → ∃ i j, of i = (k : Int) ∧ Rch rel n i j ∧ setP sl j v) (h1 : ∀ x, E1 x → D1 x ∨ ∀ v, setP sl x v → AP m v) (h2 : ∀ x j, E2 x j → D2 x j ∨ ∀ (k' : Nat), of j = (k' : Int) → k' < k → ∀ v, AP (A k') v → AP m v) :
 CloI rel n of sl (updA A k (fun y => A k y || m y)) k E1 E2 := by
 have up : ∀ v, AP (A k) v → AP (updA A k (fun y => A k y || m y) k) v := fun v ⟨y, e, hy⟩ => ⟨y, e, by rw [updA_eq]; simp [hy]⟩
 have um : ∀ v, AP m v → AP (updA A k (fun y => A k y || m y) k) v := fun v ⟨y, e, hy⟩ => ⟨y, e, by rw [updA_eq]; simp [hy]⟩
 refine ⟨fun k' hk => by rw [updA_ne (by omega)]; exact h.lt k' hk, fun v ⟨y, e, hy⟩ => ?_, fun x hx v hv => ?_, fun x j k' hx ho hk v hv => ?_, fun k' hk => by rw [updA_ne (by omega)]; exact h.hi k' hk⟩
 · rw [updA_eq, Bool.or_eq_true] at hy
   rcases hy with hy | hy
   · exact h.sd v ⟨y, e, hy⟩
   · exact hm v ⟨y, e, hy⟩
 · rcases h1 x hx with a | a
   · exact up v (h.d1 x a v hv)
   · exact um v (a v hv)
 · rw [updA_ne (by omega)] at hv
   rcases h2 x j hx with a | a
   · exact up v (h.d2 x j k' a ho hk v hv)
   · exact um v (a k' ho hk v hv)
theorem CloI.edge {rel : Nat → List Int} {n : Nat} {G : Nat → Prop} {s : TS} {sl : Nat → List Int} {A : Nat → Nat → Bool} {k x j : Nat} {D1 : Nat → Prop} {D2 : Nat → Nat → Prop} (hI : TInv rel n G s) (h : CloI rel n s.of sl A k D1 D2) (hx : s.of x = (k : Int)) (hE : Edge rel n x j) : ∃ k' : Nat, s.of j = (k' : Int) ∧ k' ≤ k ∧ ∀ v, AP (A k') v → ∃ i j, s.of i = (k : Int) ∧ Rch rel n i j ∧ setP sl j v := by
 have hd := hI.done x j (by omega) hE
 obtain ⟨k', hk'⟩ : ∃ k' : Nat, s.of j = k' := ⟨(s.of j).toNat, by omega⟩
 refine ⟨k', hk', by omega, fun v hv => ?_⟩
 rcases Nat.lt_or_ge k' k with hlt | hge
 · obtain ⟨i2, j2, a, b, c⟩ := (h.lt k' hlt v).1 hv
   exact ⟨x, j2, hx, (Rch.one hE).trans ((same_of hI (x := j) (y := i2) (by omega) (by omega)).1.trans b), c⟩
 · have : k' = k := by omega
   subst this
   exact h.sd v hv
theorem CloI.next {rel : Nat → List Int} {n : Nat} {G : Nat → Prop} {s : TS} {sl : Nat → List Int} {A : Nat → Nat → Bool} {k : Nat} {D1 : Nat → Prop} {D2 : Nat → Nat → Prop} (hI : TInv rel n G s) (h : CloI rel n s.of sl A k D1 D2) (h1 : ∀ x, s.of x = (k : Int) → D1 x) (h2 : ∀ x j, s.of x = (k : Int) → Edge rel n x j → D2 x j) :
 CloI rel n s.of sl A (k + 1) (fun _ => False) (fun _ _ => False) := by
 refine ⟨fun k' hk => ?_, fun v ⟨y, _, hy⟩ => ?_, fun x h => h.elim, fun x j k' h => h.elim, fun k' hk => h.hi k' (by omega)⟩
 · rcases Nat.lt_or_ge k' k with e | e
   · exact h.lt k' e
   · have : k' = k := by omega
     subst this
     exact full_done (A := fun k => AP (A k)) hI h.lt h.sd (fun i hi v hv => h.d1 i (h1 i hi) v hv) (fun i j k2 hi hE ho hk2 v hv => h.d2 i j k2 (h2 i j hi hE) ho hk2 v hv)
 · rw [h.hi (k + 1) (by omega)] at hy; cases hy
noncomputable def cloM (rel : Nat → List Int) (n : Nat) (sl : Nat → List Int) (i : Nat) : Nat → Bool := fun y => @decide (∃ j, Rch rel n i j ∧ memS (sl j) y = true) (Classical.propDecidable _)
theorem CloI.out {rel : Nat → List Int} {n : Nat} {G : Nat → Prop} {s : TS} {sl : Nat → List Int} {A : Nat → Nat → Bool} {k i g : Nat} {D1 : Nat → Prop} {D2 : Nat → Nat → Prop} (hI : TInv rel n G s) (h : CloI rel n s.of sl A k D1 D2) (hi : s.of i = (g : Int)) (hg : g < k) : A g = cloM rel n sl i := by
 funext y
 have := full_out hI (h.lt g hg) hi (y : Int)
 rw [Bool.eq_iff_iff]
 unfold cloM
 rw [@decide_eq_true_eq _ (Classical.propDecidable _)]
 constructor
 · intro hy
   obtain ⟨j, hr, z, e, hz⟩ := this.1 ⟨y, rfl, hy⟩
   have : y = z := by omega
   subst this
   exact ⟨j, hr, hz⟩
 · rintro ⟨j, hr, hy⟩
   obtain ⟨z, e, hz⟩ := this.2 ⟨j, hr, y, rfl, hy⟩
   have : y = z := by omega
   subst this
   exact hz
end Go.Proofs
