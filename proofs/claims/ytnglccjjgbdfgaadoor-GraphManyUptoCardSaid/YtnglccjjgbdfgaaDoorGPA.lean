/- Part of a proof that a law of the given program answers true. -/
import Derived.Test.YtnglccjjgbdfgaaDoorGCA
import Derived.Test.YtnglccjjgbdfgaaDoorXEC
import Derived.Lib.TrailingZeros
set_option linter.unusedSimpArgs false
set_option linter.unusedVariables false
namespace Go.Proofs
open Go.E
theorem yuccaref0_Has {a : List Int} {x : Int} (ha : a.length ≤ 4611686018427387903) : Pure Tryd.prog 27 [ints a, vi x] (.bool (decide (x ∈ a))) := by
 refine pure_intro Tryd.func27 e27_nm e27_ok (by show 2 ≤ 18; decide) ?_
 show ewp _ e27n20 _ _
 repeat' with_reducible first
  | refine s_ ?_
  | simp -implicitDefEqProofs only [wZZ, seval]
 refine ewp_loopN ?nx1 (fun (k : Nat) s => s.f 0 = ?v1_0 ∧ s.f 1 = ?v1_1 ∧ s.f 5 = vi k ∧ (k ≤ a.length) ∧ (x ∉ a.take k)) (fun k => a.length - k) (0) wj_ (by refine ⟨?_, ?_, ?_, (by first | omega | (simp; done) | assumption), (by first | omega | (simp; done) | assumption)⟩ <;> first | (simp -implicitDefEqProofs only [wL, wM, wN, wX, seval, Option.some.injEq] <;> exact wt_) | rfl | exact ⟨_, rfl⟩) ?_
 intro k s hnx ⟨g0, g1, g5, k1_0, k1_1⟩
 repeat' with_reducible first
  | refine s_ ?_
  | simp -implicitDefEqProofs only [wZZ, seval, g0, g1, g5]
  | (refine condQ_j (fun h h_ => ?_) (fun h h_ => ?_) <;> (try simp only [wD, reduceCtorEq] at h_) <;> (try exact wb_) <;> (try simp only [h]))
  | (apply ia_slQ; (focus omega); (exact wd_))
  | simp -implicitDefEqProofs (disch := omega) only [w64, if_neg]
 · refine post1 rfl (Or.inr rfl) ?_
   simp -implicitDefEqProofs only [wL, seval, g0, g1, g5]
   first | refine er_bool ?_ | refine er_int ?_ | refine er_str ?_ | refine er_sl_eq ?_ | refine er_asl_eq ?_
   try (with_reducible rfl)
   rw [eq_comm, decide_eq_true_eq, ← h_]; exact List.getElem_mem _
 · refine ⟨wk_, k + 1, (by omega), ?_⟩
   refine ⟨?_, ?_, ?_, ?_, ?_⟩
   iterate 3 (focus (first | (simp -implicitDefEqProofs only [wL, wM, wN, wX, seval, Option.some.injEq, g0, g1, g5] <;> exact wt_) | rfl | exact ⟨_, rfl⟩))
   all_goals try omega
   rw [List.take_add_one, List.getElem?_eq_getElem (by omega)]
   simp only [Option.toList_some, List.mem_append, List.mem_singleton, not_or]
   exact ⟨k1_1, fun e => h_ e.symm⟩
 · refine post1 rfl (Or.inr rfl) ?_
   simp -implicitDefEqProofs only [wL, seval, g0, g1, g5]
   first | refine er_bool ?_ | refine er_int ?_ | refine er_str ?_ | refine er_sl_eq ?_ | refine er_asl_eq ?_
   try (with_reducible rfl)
   rw [eq_comm, decide_eq_false_iff_not]
   rwa [List.take_of_length_le (by omega)] at k1_1
theorem eq_of_get {α : Type} {a b : List α} {k : Nat} (hk : ∀ i, i < k → a[i]? = b[i]?) (h1 : a.length ≤ k) (h2 : b.length ≤ k) : a = b := by
 refine List.ext_getElem? fun i => ?_
 by_cases hi : i < k
 · exact hk i hi
 · rw [List.getElem?_eq_none (by omega), List.getElem?_eq_none (by omega)]
theorem get_ext {α : Type} {a b : List α} {k : Nat} (hk : ∀ i, i < k → a[i]? = b[i]?) (h1 : k < a.length) (h2 : k < b.length) (e : a[k] = b[k]) : ∀ i, i < k + 1 → a[i]? = b[i]? := by
 intro i hi
 by_cases he : i = k
 · subst he; rw [List.getElem?_eq_getElem h1, List.getElem?_eq_getElem h2, e]
 · exact hk i (by omega)
theorem yuccaref0_EqInts {a b : List Int} (ha : a.length ≤ 4611686018427387903) (hb : b.length ≤ 4611686018427387903) : Pure Tryd.prog 16 [ints a, ints b] (.bool (decide (a = b))) := by
 refine pure_intro Tryd.func16 e16_nm e16_ok (by show 2 ≤ 26; decide) ?_
 show ewp _ e16n26 _ _
 repeat' with_reducible first
  | refine s_ ?_
  | simp -implicitDefEqProofs only [wZZ, seval]
  | (refine condQ_j (fun h h_ => ?_) (fun h h_ => ?_) <;> (try simp only [wD, reduceCtorEq] at h_) <;> (try exact wb_) <;> (try simp only [h]))
 · refine post1 rfl (Or.inr rfl) ?_
   simp -implicitDefEqProofs only [wL, seval]
   first | refine er_bool ?_ | refine er_int ?_ | refine er_str ?_ | refine er_sl_eq ?_ | refine er_asl_eq ?_
   try (with_reducible rfl)
   rw [eq_comm, decide_eq_false_iff_not]
   intro e; subst e; exact h_ rfl
 refine ewp_loopN ?nx1 (fun (k : Nat) s => s.f 0 = ?v1_0 ∧ s.f 1 = ?v1_1 ∧ s.f 5 = vi k ∧ (k ≤ a.length) ∧ (∀ i, i < k → a[i]? = b[i]?)) (fun k => a.length - k) (0) wj_ (by refine ⟨?_, ?_, ?_, (by first | omega | (simp; done) | assumption), (by first | omega | (simp; done) | assumption)⟩ <;> first | (simp -implicitDefEqProofs only [wL, wM, wN, wX, seval, Option.some.injEq] <;> exact wt_) | rfl | exact ⟨_, rfl⟩) ?_
 intro k s hnx ⟨g0, g1, g5, k1_0, k1_1⟩
 repeat' with_reducible first
  | refine s_ ?_
  | simp -implicitDefEqProofs only [wZZ, seval, g0, g1, g5]
  | (refine condQ_j (fun h h_ => ?_) (fun h h_ => ?_) <;> (try simp only [wD, reduceCtorEq] at h_) <;> (try exact wb_) <;> (try simp only [h]))
  | (apply ia_slQ; (focus omega); (exact wd_))
  | simp -implicitDefEqProofs (disch := omega) only [w64, if_neg]
 · refine post1 rfl (Or.inr rfl) ?_
   simp -implicitDefEqProofs only [wL, seval, g0, g1, g5]
   first | refine er_bool ?_ | refine er_int ?_ | refine er_str ?_ | refine er_sl_eq ?_ | refine er_asl_eq ?_
   try (with_reducible rfl)
   rw [eq_comm, decide_eq_false_iff_not]
   intro e; subst e; exact h_ rfl
 · refine ⟨wk_, k + 1, (by omega), ?_⟩
   refine ⟨?_, ?_, ?_, ?_, ?_⟩
   iterate 3 (focus (first | (simp -implicitDefEqProofs only [wL, wM, wN, wX, seval, Option.some.injEq, g0, g1, g5] <;> exact wt_) | rfl | exact ⟨_, rfl⟩))
   all_goals try omega
   exact get_ext k1_1 (by omega) (by omega) (by simpa using h_)
 · refine post1 rfl (Or.inr rfl) ?_
   simp -implicitDefEqProofs only [wL, seval, g0, g1, g5]
   first | refine er_bool ?_ | refine er_int ?_ | refine er_str ?_ | refine er_sl_eq ?_ | refine er_asl_eq ?_
   try (with_reducible rfl)
   rw [eq_comm, decide_eq_true_eq]
   exact eq_of_get k1_1 (by omega) (by omega)
def cutP (l : List Int) (x : Int) : Nat → Nat
 | 0 => 0
 | k + 1 => if x < l.getD k 0 then cutP l x k else k + 1
theorem cutP_succ (l : List Int) (x : Int) (k : Nat) : cutP l x (k + 1) = if x < l.getD k 0 then cutP l x k else k + 1 := rfl
theorem cutP_le (l : List Int) (x : Int) (k : Nat) : cutP l x k ≤ k := by
 induction k with
 | zero => exact Nat.le_refl _
 | succ k ih => unfold cutP; split <;> omega
def putL (l : List Int) (x : Int) : List Int :=
 if 0 < cutP l x l.length ∧ l.getD (cutP l x l.length - 1) 0 = x then l else l.take (cutP l x l.length) ++ [x] ++ l.drop (cutP l x l.length)
theorem putL_len (l : List Int) (x : Int) : (putL l x).length ≤ l.length + 1 := by
 unfold putL; split
 · omega
 · simp; have := cutP_le l x l.length; omega
theorem getD_eq {l : List Int} {k : Nat} (h : k < l.length) : l.getD k 0 = l[k] := by simp [List.getD, h]
theorem yuccaref0_Put {l : List Int} {x : Int} (hl : l.length ≤ 1099511627776) : Pure Tryd.prog 31 [ints l, vi x] (ints (putL l x)) := by
 refine pure_intro Tryd.func31 e31_nm e31_ok (by show 2 ≤ 47; decide) ?_
 show ewp _ e31n22 _ _
 repeat' with_reducible first
  | refine s_ ?_
  | simp -implicitDefEqProofs only [wZZ, seval]
 refine ewp_loopN ?nx1 (fun (k : Nat) s => s.f 0 = ?v1_0 ∧ s.f 1 = ?v1_1 ∧ s.f 5 = vi k ∧ (k ≤ l.length) ∧ (cutP l x k = cutP l x l.length)) (fun k => k) (l.length) wj_ (by refine ⟨?_, ?_, ?_, (by first | omega | (simp; done) | assumption), (by first | omega | (simp; done) | assumption)⟩ <;> first | (simp -implicitDefEqProofs only [wL, wM, wN, wX, seval, Option.some.injEq] <;> exact wt_) | rfl | exact ⟨_, rfl⟩) ?_
 intro k s hnx ⟨g0, g1, g5, k1_0, k1_1⟩
 by_cases hk : k = 0
 · subst hk
   have hc : cutP l x l.length = 0 := k1_1.symm
   have hp : putL l x = [] ++ [x] ++ l := by unfold putL; rw [hc]; simp
   rw [hp]
   repeat' with_reducible first
    | refine s_ ?_
    | simp -implicitDefEqProofs only [wZZ, seval, g0, g1, g5]
    | (apply appQ_C; (focus (first | exact SrcN.sl | exact SrcN.asl | exact SrcN.str)); (exact wf_); (focus (unfold maxLen; first | omega | (simp only [wZ] <;> omega))))
    | (refine app_asl ?_; simp -implicitDefEqProofs only [wM, wN, seval, g0, g1, g5]; apply appT_i; (focus (first | exact SrcN.sl | exact SrcN.asl | exact SrcN.str)); (exact wf_); (focus (unfold maxLen; first | omega | (simp only [wZ] <;> omega))))
    | (apply slm_hiQ; (focus omega); (exact wf_))
    | (apply slm_loQ; (focus omega); (exact wf_))
   refine post1 rfl (Or.inr rfl) ?_
   simp -implicitDefEqProofs only [wL, seval, g0, g1, g5]
   first | refine er_bool ?_ | refine er_int ?_ | refine er_str ?_ | refine er_sl_eq ?_ | refine er_asl_eq ?_
   try (with_reducible rfl)
   simp
 · obtain ⟨m, rfl⟩ : ∃ m, k = m + 1 := ⟨k - 1, by omega⟩
   have hm : m < l.length := by omega
   rw [cutP_succ, getD_eq hm] at k1_1
   by_cases hgt : x < l[m]
   · rw [if_pos hgt] at k1_1
     repeat' with_reducible first
      | refine s_ ?_
      | simp -implicitDefEqProofs only [wZZ, seval, g0, g1, g5]
      | (refine condQ_j (fun h h_ => ?_) (fun h h_ => ?_) <;> (try simp only [wD, reduceCtorEq] at h_) <;> (try exact wb_) <;> (try simp only [h]))
      | ((first | refine gdQ_iT (fun h => ?_) (fun h => ?_) | refine gdQ_iF (fun h => ?_) (fun h => ?_)) <;> have h_ := h <;> (try simp only [wD, reduceCtorEq] at h_) <;> (try exact wb_) <;> (try simp only [h]))
      | (apply ia_slQ; (focus omega); (exact wd_))
      | simp -implicitDefEqProofs (disch := omega) only [w64, if_neg]
     refine ⟨wk_, m, (by omega), ?_⟩
     refine ⟨?_, ?_, ?_, ?_, ?_⟩
     iterate 3 (focus (first | (simp -implicitDefEqProofs only [wL, wM, wN, wX, seval, Option.some.injEq, g0, g1, g5] <;> exact wt_) | rfl | exact ⟨_, rfl⟩))
     all_goals try omega
   · rw [if_neg hgt] at k1_1
     have hp : putL l x = if l[m] = x then l else l.take (m + 1) ++ [x] ++ l.drop (m + 1) := by
      unfold putL; rw [← k1_1]; simp [List.getElem?_eq_getElem hm]
     by_cases hx : l[m] = x
     · rw [hp, if_pos hx]
       repeat' with_reducible first
        | refine s_ ?_
        | simp -implicitDefEqProofs only [wZZ, seval, g0, g1, g5]
        | (refine condQ_j (fun h h_ => ?_) (fun h h_ => ?_) <;> (try simp only [wD, reduceCtorEq] at h_) <;> (try exact wb_) <;> (try simp only [h]))
        | ((first | refine gdQ_iT (fun h => ?_) (fun h => ?_) | refine gdQ_iF (fun h => ?_) (fun h => ?_)) <;> have h_ := h <;> (try simp only [wD, reduceCtorEq] at h_) <;> (try exact wb_) <;> (try simp only [h]))
        | (apply ia_slQ; (focus omega); (exact wd_))
        | simp -implicitDefEqProofs (disch := omega) only [w64, if_neg]
       refine post1 rfl (Or.inr rfl) ?_
       simp -implicitDefEqProofs only [wL, seval, g0, g1, g5]
       first | refine er_bool ?_ | refine er_int ?_ | refine er_str ?_ | refine er_sl_eq ?_ | refine er_asl_eq ?_
       try (with_reducible rfl)
     · rw [hp, if_neg hx]
       repeat' with_reducible first
        | refine s_ ?_
        | simp -implicitDefEqProofs only [wZZ, seval, g0, g1, g5]
        | (refine condQ_j (fun h h_ => ?_) (fun h h_ => ?_) <;> (try simp only [wD, reduceCtorEq] at h_) <;> (try exact wb_) <;> (try simp only [h]))
        | ((first | refine gdQ_iT (fun h => ?_) (fun h => ?_) | refine gdQ_iF (fun h => ?_) (fun h => ?_)) <;> have h_ := h <;> (try simp only [wD, reduceCtorEq] at h_) <;> (try exact wb_) <;> (try simp only [h]))
        | (apply ia_slQ; (focus omega); (exact wd_))
        | (apply appQ_C; (focus (first | exact SrcN.sl | exact SrcN.asl | exact SrcN.str)); (exact wf_); (focus (unfold maxLen; first | omega | (simp only [wZ] <;> omega))))
        | (refine app_asl ?_; simp -implicitDefEqProofs only [wM, wN, seval, g0, g1, g5]; apply appT_i; (focus (first | exact SrcN.sl | exact SrcN.asl | exact SrcN.str)); (exact wf_); (focus (unfold maxLen; first | omega | (simp only [wZ] <;> omega))))
        | (apply slm_hiQ; (focus omega); (exact wf_))
        | (apply slm_loQ; (focus omega); (exact wf_))
        | simp -implicitDefEqProofs (disch := omega) only [w64, if_neg]
       refine post1 rfl (Or.inr rfl) ?_
       simp -implicitDefEqProofs only [wL, seval, g0, g1, g5]
       first | refine er_bool ?_ | refine er_int ?_ | refine er_str ?_ | refine er_sl_eq ?_ | refine er_asl_eq ?_
       try (with_reducible rfl)

theorem take_snoc {α : Type} {l : List α} {k : Nat} (h : k < l.length) : l.take (k + 1) = l.take k ++ [l[k]] := by
 rw [List.take_add_one, List.getElem?_eq_getElem h]; rfl
def intsN (l : List Int) (n : Int) : List Int := if n < l.length then l.take n.toNat else l
theorem intsN_len (l : List Int) (n : Nat) : (intsN l n).length ≤ n ∧ (intsN l n).length ≤ l.length := by
 unfold intsN; split
 · simp; omega
 · omega
theorem yuccalaw0_Ints {l : List Int} {n : Int} (hl : l.length ≤ 1099511627776) (hn : 0 ≤ n) : Pure Tryd.prog 17 [ints l, vi n] (ints (intsN l n)) := by
 refine pure_intro Tryd.func17 e17_nm e17_ok (by show 2 ≤ 13; decide) ?_
 show ewp _ e17n9 _ _
 by_cases h : n < l.length
 · have e : intsN l n = l.take n.toNat := by unfold intsN; rw [if_pos h]
   rw [e]
   repeat' with_reducible first
    | refine s_ ?_
    | simp -implicitDefEqProofs only [wZZ, seval]
    | (refine condQ_j (fun h h_ => ?_) (fun h h_ => ?_) <;> (try simp only [wD, reduceCtorEq] at h_) <;> (try exact wb_) <;> (try simp only [h]))
    | (apply slm_hiQ; (focus omega); (exact wf_))
   refine post1 rfl (Or.inr rfl) ?_
   simp -implicitDefEqProofs only [wL, seval]
   first | refine er_bool ?_ | refine er_int ?_ | refine er_str ?_ | refine er_sl_eq ?_ | refine er_asl_eq ?_
   try (with_reducible rfl)
 · have e : intsN l n = l := by unfold intsN; rw [if_neg h]
   rw [e]
   repeat' with_reducible first
    | refine s_ ?_
    | simp -implicitDefEqProofs only [wZZ, seval]
    | (refine condQ_j (fun h h_ => ?_) (fun h h_ => ?_) <;> (try simp only [wD, reduceCtorEq] at h_) <;> (try exact wb_) <;> (try simp only [h]))
   refine post1 rfl (Or.inr rfl) ?_
   simp -implicitDefEqProofs only [wL, seval]
   first | refine er_bool ?_ | refine er_int ?_ | refine er_str ?_ | refine er_sl_eq ?_ | refine er_asl_eq ?_
   try (with_reducible rfl)
def setF : List Int → List Int := List.foldl (fun acc x => if 0 ≤ x ∧ x < 1024 then putL acc x else acc) []
theorem setF_snoc (l : List Int) (x : Int) : setF (l ++ [x]) = if 0 ≤ x ∧ x < 1024 then putL (setF l) x else setF l := by simp [setF]
theorem setF_len (l : List Int) : (setF l).length ≤ l.length := by
 have h : ∀ (l acc : List Int), (l.foldl (fun acc x => if 0 ≤ x ∧ x < 1024 then putL acc x else acc) acc).length ≤ acc.length + l.length := by
  intro l
  induction l with
  | nil => intro acc; simp
  | cons x l ih =>
    intro acc
    simp only [List.foldl_cons, List.length_cons]
    refine Nat.le_trans (ih _) ?_
    split
    · have := putL_len acc x; omega
    · omega
 simpa [setF] using h l []

theorem bits_fits {x : Int}  : Pure Tryd.prog 29 [vi x] (.bool (decide (0 ≤ x) && decide (x < 1024))) := by
 refine pure_intro Tryd.func29 e29_nm e29_ok (by show 1 ≤ 9; decide) ?_
 show ewp _ e29n3 _ _
 repeat' with_reducible first
  | refine s_ ?_
  | simp -implicitDefEqProofs only [wZZ, seval]
  | ((first | refine gdQ_iT (fun h => ?_) (fun h => ?_) | refine gdQ_iF (fun h => ?_) (fun h => ?_)) <;> have h_ := h <;> (try simp only [wD, reduceCtorEq] at h_) <;> (try exact wb_) <;> (try simp only [h]))
 all_goals refine post1 rfl (Or.inr rfl) ?_
 all_goals try simp only [put_f, Nat.reduceEqDiff, ↓reduceIte]
 all_goals refine er_bool ?_
 all_goals simp_all
def wd (m : Nat → Bool) : Nat → Nat
 | 0 => 0
 | n + 1 => wd m n ||| (if m n then 2 ^ n else 0)
theorem wd_bit (m : Nat → Bool) (n i : Nat) : (wd m n).testBit i = (decide (i < n) && m i) := by
 induction n with
 | zero => simp [wd]
 | succ n ih =>
   rw [wd, Nat.testBit_or, ih]
   by_cases hi : i = n
   · subst hi; cases h : m i <;> simp [h, Nat.testBit_two_pow]
   · have e : (if m n = true then 2 ^ n else 0).testBit i = false := by
      split
      · rw [Nat.testBit_two_pow]; simp; omega
      · simp
     rw [e]
     by_cases h2 : i < n
     · simp [h2, Nat.lt_succ_of_lt h2]
     · have h3 : ¬ i < n + 1 := by omega
       simp [h2, h3]
theorem wd_lt (m : Nat → Bool) (n : Nat) : wd m n < 2 ^ n := by
 induction n with
 | zero => simp [wd]
 | succ n ih =>
   rw [wd]
   refine Nat.or_lt_two_pow (Nat.lt_of_lt_of_le ih (Nat.pow_le_pow_right (by omega) (by omega))) ?_
   split
   · exact Nat.pow_lt_pow_right (by omega) (by omega)
   · exact Nat.two_pow_pos _
def word (m : Nat → Bool) (i : Nat) : Nat := wd (fun b => m (64 * i + b)) 64
theorem word_lt (m : Nat → Bool) (i : Nat) : word m i < 18446744073709551616 := wd_lt _ 64
theorem word_bit (m : Nat → Bool) (i b : Nat) (hb : b < 64) : (word m i).testBit b = m (64 * i + b) := by rw [word, wd_bit]; simp [hb]
theorem word_ext {m : Nat → Bool} {i x : Nat} (hx : x < 18446744073709551616) (h : ∀ b, b < 64 → x.testBit b = m (64 * i + b)) : x = word m i := by
 refine Nat.eq_of_testBit_eq fun b => ?_
 by_cases hb : b < 64
 · rw [h b hb, word_bit m i b hb]
 · rw [Nat.testBit_lt_two_pow (Nat.lt_of_lt_of_le (show x < 2 ^ 64 from hx) (Nat.pow_le_pow_right (by omega) (by omega))),
    Nat.testBit_lt_two_pow (Nat.lt_of_lt_of_le (show word m i < 2 ^ 64 from word_lt m i) (Nat.pow_le_pow_right (by omega) (by omega)))]
def cellsW (m : Nat → Bool) : List V := (List.range 16).map fun i => V.int .u64 (word m i : Int)
abbrev setC (m : Nat → Bool) : V := .agg (cellsW m)
theorem cellsW_get (m : Nat → Bool) {i : Nat} (h : i < 16) : (cellsW m)[i]? = some (.int .u64 (word m i : Int)) := by simp [cellsW, h]
theorem cellsW_len (m : Nat → Bool) : (cellsW m).length = 16 := by simp [cellsW]
theorem word_none (i : Nat) : word (fun _ => false) i = 0 := (word_ext (by decide) (fun b _ => by simp)).symm
theorem cellsW_none : cellsW (fun _ => false) = [.int .u64 0, .int .u64 0, .int .u64 0, .int .u64 0, .int .u64 0, .int .u64 0, .int .u64 0, .int .u64 0, .int .u64 0, .int .u64 0, .int .u64 0, .int .u64 0, .int .u64 0, .int .u64 0, .int .u64 0, .int .u64 0] := by
 unfold cellsW
 simp only [word_none]
 rfl
theorem cellsW_set (m : Nat → Bool) {x : Nat} (h : x < 1024) :
 (cellsW m).set (x / 64) (.int .u64 ((word m (x / 64) ||| 2 ^ (x % 64) : Nat) : Int)) = cellsW (fun y => m y || decide (y = x)) := by
 refine List.ext_getElem? fun i => ?_
 rw [List.getElem?_set]
 by_cases hi : i < 16
 · rw [cellsW_get _ hi, cellsW_get _ hi, cellsW_len]
   split
   · rename_i e
     rw [if_pos (by omega)]
     congr 3
     subst e
     refine word_ext (Nat.or_lt_two_pow (n := 64) (word_lt m _) (Nat.pow_lt_pow_right (by omega) (Nat.mod_lt _ (by omega)))) fun b hb => ?_
     rw [Nat.testBit_or, word_bit _ _ _ hb, Nat.testBit_two_pow]
     congr 1
     rw [decide_eq_decide]; omega
   · rename_i e
     congr 3
     refine word_ext (word_lt m i) fun b hb => ?_
     rw [word_bit _ _ _ hb]
     have : ¬ (64 * i + b = x) := by omega
     simp [this]
 · rw [if_neg (by omega), List.getElem?_eq_none (by rw [cellsW_len]; omega), List.getElem?_eq_none (by rw [cellsW_len]; omega)]
theorem quo64 (n : Nat) (h : n < 1024) : IntKind.i64.wrap ((n : Int).tdiv 64) = ((n / 64 : Nat) : Int) := by
 rw [Int.tdiv_eq_ediv_of_nonneg (by omega), wrap64 (by omega) (by omega)]; simp
theorem rem64 (n : Nat) : (n : Int).tmod 64 = ((n % 64 : Nat) : Int) := by
 rw [Int.tmod_eq_emod_of_nonneg (by omega)]; simp
def memS (l : List Int) (y : Nat) : Bool := decide (y < 1024) && decide ((y : Int) ∈ l)
theorem memS_nil : memS [] = fun _ => false := by funext y; simp [memS]
theorem bits_Of {l : List Int} (hl : l.length < 4611686018427387904) : Pure Tryd.prog 20 [ints l] (setC (memS l)) := by
 refine pure_intro Tryd.func20 e20_nm e20_ok (by show 1 ≤ 27; decide) ?_
 show ewp _ e20n23 _ _
 repeat' with_reducible first
  | refine s_ ?_
  | simp -implicitDefEqProofs only [lab_la, lab_lr, lab_sa, lab_sw, L_nil, L_none, st_mov, st_bin, st_pick, st_ext, st_len, st_lenS, st_lenc, st_un, st_eqb, st_conv, st_mkfn, st_build, st_fld, ev_t, ev_c, bump_f, setO_F, setO_H, putH, bump_H, putN, bump_N, setO_N, entry_N, entry_H, List.length_cons, List.length_nil, Nat.reduceAdd, Nat.zero_add, Nat.add_zero, b_lss, b_leq, b_gtr, b_geq, b_eql, b_neq, b_add, b_sub, b_mul, b_quo, b_rem, u_not, eqb_b, len_sl, len_asl, len_msl, List.length_map, onS_some, Bool.false_eq_true, Int.reduceEq, bump_f, setO_F, entry0, entry1, entry2, entry3, entry4, entry5, put_none, put_f, seval, st_alloc]
 refine ewp_loopI (fun (k : Nat) s => k ≤ l.length ∧ s.f 6 = ints l ∧ s.f 7 = vi l.length ∧ s.f 8 = vi k ∧ s.f 2 = .ptr 0 0 0 ∧ s.f 3 = .ptr 1 0 0 ∧ s.H 0 = some (.own 16 [.agg (cellsW fun _ => false)] false) ∧ s.H 1 = some (.own 16 [setC (memS (l.take k))] false)) (fun k => l.length - k) 0 ?_ ?_
 · simp only [putH, bump_H, setO_H, setO_F, put_f, bump_f, entry0, Nat.reduceEqDiff, ↓reduceIte, Nat.zero_le, List.take_zero, memS_nil, cellsW_none]
   exact ⟨trivial, trivial, trivial, rfl, trivial, trivial, trivial, (by show _ = some (MObj.own 16 [.agg (cellsW fun _ => false)] false); rw [cellsW_none])⟩
 intro k s ⟨hk, h6, h7, h8, h2, h3, hH0, hH1⟩
 by_cases hlt : k < l.length
 · have ea : l[k]? = some l[k] := List.getElem?_eq_getElem hlt
   have et : l.take (k + 1) = l.take k ++ [l[k]] := by rw [List.take_add_one, ea]; rfl
   generalize l[k] = x at ea et
   by_cases hx : 0 ≤ x ∧ x < 1024
   · obtain ⟨n, rfl⟩ : ∃ n : Nat, x = n := ⟨x.toNat, by omega⟩
     have hn : n < 1024 := by omega
     have hd : n / 64 < 16 := by omega
     have hm : n % 64 < 64 := by omega
     have hp : 2 ^ (n % 64) < 18446744073709551616 := (Nat.pow_lt_pow_right (by omega) hm : 2 ^ (n % 64) < 2 ^ 64)
     repeat' with_reducible first
      | refine ewp_reg_seq ?_ | refine ewp_seq ?_ | refine ewp_reg ?_ | refine ewp_skip ?_ | refine ewp_block ?_ | refine xt_n ?_ | refine xb_n ?_
      | (refine ewp_if (by simp -implicitDefEqProofs only [ev_t, bump_f, setO_F, entry0, entry1, entry2, entry3, entry4, entry5, put_none, put_f, seval, h2, h3, h6, h7, h8, st_ia, st_load, ia_sl (getE_map ea), ld_i1, st_fa, fa_ptr, st_iaA, iaA_ptr hd, quo64 n hn, rem64 n, Nat.mul_one, u_shl hm, add1 (show k < 4611686018427387904 by omega), hH1, hH0, st_store] <;> rfl) (fun h => ?_) (fun h => ?_) <;> (try simp only [Bool.not_false, Bool.not_true, Bool.not_eq_true', Bool.not_eq_false', Bool.true_eq_false, Bool.false_eq_true, reduceCtorEq] at h) <;> (try (exfalso; simp only [decide_eq_true_eq, decide_eq_false_iff_not] at h; omega)) <;> (try simp only [h]))
      | refine st_call1 (by simp -implicitDefEqProofs only [ev_t, ev_c, bump_f, setO_F, entry0, entry1, entry2, entry3, entry4, entry5, put_none, put_f, seval, h2, h3, h6, h7, h8, st_ia, st_load, ia_sl (getE_map ea), ld_i1, st_fa, fa_ptr, st_iaA, iaA_ptr hd, quo64 n hn, rem64 n, Nat.mul_one, u_shl hm, add1 (show k < 4611686018427387904 by omega), hH1, hH0, st_store] <;> rfl) (er_int rfl) (bits_fits) ?_
      | refine onS_i (ld_cell (by simp -implicitDefEqProofs only [putH, bump_H, setO_H, entry_H, bump_f, setO_F, entry0, entry1, entry2, entry3, entry4, entry5, put_none, put_f, seval, h2, h3, h6, h7, h8, st_ia, st_load, ia_sl (getE_map ea), ld_i1, st_fa, fa_ptr, st_iaA, iaA_ptr hd, quo64 n hn, rem64 n, Nat.mul_one, u_shl hm, add1 (show k < 4611686018427387904 by omega), hH1, hH0, st_store] <;> rfl) (Or.inr trivial) (cellsW_get _ hd)) ?_
      | refine onS_i (u_or (word_lt _ _) hp) ?_
      | refine onS_i (sto_cell (by simp -implicitDefEqProofs only [putH, bump_H, setO_H, entry_H, bump_f, setO_F, entry0, entry1, entry2, entry3, entry4, entry5, put_none, put_f, seval, h2, h3, h6, h7, h8, st_ia, st_load, ia_sl (getE_map ea), ld_i1, st_fa, fa_ptr, st_iaA, iaA_ptr hd, quo64 n hn, rem64 n, Nat.mul_one, u_shl hm, add1 (show k < 4611686018427387904 by omega), hH1, hH0, st_store] <;> rfl) rfl rfl rfl (by rw [cellsW_len]; exact hd)) ?_
      | simp -implicitDefEqProofs only [lab_la, lab_lr, lab_sa, lab_sw, L_nil, L_none, st_mov, st_bin, st_pick, st_ext, st_len, st_lenS, st_lenc, st_un, st_eqb, st_conv, st_mkfn, st_build, st_fld, ev_t, ev_c, bump_f, setO_F, setO_H, putH, bump_H, putN, bump_N, setO_N, entry_N, entry_H, List.length_cons, List.length_nil, Nat.reduceAdd, Nat.zero_add, Nat.add_zero, b_lss, b_leq, b_gtr, b_geq, b_eql, b_neq, b_add, b_sub, b_mul, b_quo, b_rem, u_not, eqb_b, len_sl, len_asl, len_msl, List.length_map, onS_some, Bool.false_eq_true, Int.reduceEq, bump_f, setO_F, entry0, entry1, entry2, entry3, entry4, entry5, put_none, put_f, seval, h2, h3, h6, h7, h8, st_ia, st_load, ia_sl (getE_map ea), ld_i1, st_fa, fa_ptr, st_iaA, iaA_ptr hd, quo64 n hn, rem64 n, Nat.mul_one, u_shl hm, add1 (show k < 4611686018427387904 by omega), hH1, hH0, st_store]
     · refine ⟨k + 1, by omega, by omega, trivial, trivial, rfl, trivial, trivial, trivial, ?_⟩
       rw [cellsW_set _ hn, et]
       have hs : (fun y => memS (l.take k) y || decide (y = n)) = memS (l.take k ++ [(n : Int)]) := by
        funext y
        unfold memS
        by_cases hy : y < 1024
        · have e : decide ((y : Int) = (n : Int)) = decide (y = n) := by rw [decide_eq_decide]; omega
          simp only [hy, decide_true, Bool.true_and, List.mem_append, List.mem_singleton, Bool.decide_or, e]
        · have : ¬ y = n := by omega
          simp [hy, this]
       rw [hs]
     · exfalso; simp at h; omega
   · have hs : memS (l.take (k + 1)) = memS (l.take k) := by
      funext y
      rw [et]; unfold memS
      by_cases hy : y < 1024
      · have : ¬ ((y : Int) = x) := by omega
        simp [this]
      · simp [hy]
     repeat' with_reducible first
      | refine ewp_reg_seq ?_ | refine ewp_seq ?_ | refine ewp_reg ?_ | refine ewp_skip ?_ | refine ewp_block ?_ | refine xt_n ?_ | refine xb_n ?_
      | (refine ewp_if (by simp -implicitDefEqProofs only [ev_t, bump_f, setO_F, entry0, entry1, entry2, entry3, entry4, entry5, put_none, put_f, seval, h2, h3, h6, h7, h8, st_ia, st_load, ia_sl (getE_map ea), ld_i1, add1 (show k < 4611686018427387904 by omega)] <;> rfl) (fun h => ?_) (fun h => ?_) <;> (try simp only [Bool.not_false, Bool.not_true, Bool.not_eq_true', Bool.not_eq_false', Bool.true_eq_false, Bool.false_eq_true, reduceCtorEq] at h) <;> (try (exfalso; simp only [decide_eq_true_eq, decide_eq_false_iff_not] at h; omega)) <;> (try simp only [h]))
      | refine st_call1 (by simp -implicitDefEqProofs only [ev_t, ev_c, bump_f, setO_F, entry0, entry1, entry2, entry3, entry4, entry5, put_none, put_f, seval, h2, h3, h6, h7, h8, st_ia, st_load, ia_sl (getE_map ea), ld_i1, add1 (show k < 4611686018427387904 by omega)] <;> rfl) (er_int rfl) (bits_fits) ?_
      | simp -implicitDefEqProofs only [lab_la, lab_lr, lab_sa, lab_sw, L_nil, L_none, st_mov, st_bin, st_pick, st_ext, st_len, st_lenS, st_lenc, st_un, st_eqb, st_conv, st_mkfn, st_build, st_fld, ev_t, ev_c, bump_f, setO_F, setO_H, putH, bump_H, putN, bump_N, setO_N, entry_N, entry_H, List.length_cons, List.length_nil, Nat.reduceAdd, Nat.zero_add, Nat.add_zero, b_lss, b_leq, b_gtr, b_geq, b_eql, b_neq, b_add, b_sub, b_mul, b_quo, b_rem, u_not, eqb_b, len_sl, len_asl, len_msl, List.length_map, onS_some, Bool.false_eq_true, Int.reduceEq, bump_f, setO_F, entry0, entry1, entry2, entry3, entry4, entry5, put_none, put_f, seval, h2, h3, h6, h7, h8, st_ia, st_load, ia_sl (getE_map ea), ld_i1, add1 (show k < 4611686018427387904 by omega)]
     · exfalso; simp at h; omega
     · exact ⟨k + 1, by omega, by omega, trivial, trivial, rfl, trivial, trivial, hH0, by rw [hs]; exact hH1⟩
 · repeat' with_reducible first
    | refine ewp_reg_seq ?_ | refine ewp_seq ?_ | refine ewp_ret ?_ | refine ewp_exit ?_ | refine xt_n ?_ | refine xt_e ?_ | refine xb_e ?_
    | (refine ewp_if (by simp -implicitDefEqProofs only [ev_t, bump_f, setO_F, entry0, entry1, entry2, entry3, entry4, entry5, put_none, put_f, seval, h2, h3, h6, h7, h8, hH0, hH1, st_load, st_store] <;> rfl) (fun h => ?_) (fun h => ?_) <;> (try simp only [Bool.not_false, Bool.not_true, Bool.not_eq_true', Bool.not_eq_false', Bool.true_eq_false, Bool.false_eq_true, reduceCtorEq] at h) <;> (try (exfalso; simp only [decide_eq_true_eq, decide_eq_false_iff_not] at h; omega)) <;> (try simp only [h]))
    | refine onS_i (ld_whole (by simp -implicitDefEqProofs only [putH, bump_H, setO_H, entry_H, bump_f, setO_F, entry0, entry1, entry2, entry3, entry4, entry5, put_none, put_f, seval, h2, h3, h6, h7, h8, hH0, hH1, st_load, st_store] <;> rfl)) ?_
    | refine onS_i (sto_whole (by simp -implicitDefEqProofs only [putH, bump_H, setO_H, entry_H, bump_f, setO_F, entry0, entry1, entry2, entry3, entry4, entry5, put_none, put_f, seval, h2, h3, h6, h7, h8, hH0, hH1, st_load, st_store] <;> rfl) rfl (cellsW_len _)) ?_
    | simp -implicitDefEqProofs only [lab_la, lab_lr, lab_sa, lab_sw, L_nil, L_none, st_mov, st_bin, st_pick, st_ext, st_len, st_lenS, st_lenc, st_un, st_eqb, st_conv, st_mkfn, st_build, st_fld, ev_t, ev_c, bump_f, setO_F, setO_H, putH, bump_H, putN, bump_N, setO_N, entry_N, entry_H, List.length_cons, List.length_nil, Nat.reduceAdd, Nat.zero_add, Nat.add_zero, b_lss, b_leq, b_gtr, b_geq, b_eql, b_neq, b_add, b_sub, b_mul, b_quo, b_rem, u_not, eqb_b, len_sl, len_asl, len_msl, List.length_map, onS_some, Bool.false_eq_true, Int.reduceEq, bump_f, setO_F, entry0, entry1, entry2, entry3, entry4, entry5, put_none, put_f, seval, h2, h3, h6, h7, h8, hH0, hH1, st_load, st_store]
   rw [List.take_of_length_le (by omega)]
   refine postL (t := 2) rfl (Or.inr rfl) (v := setC (memS l)) ?_ (er_agg fun x hx => ?_)
   · simp only [put_none, put_f, bump_f, setO_F, h2, Nat.reduceEqDiff, ↓reduceIte]
     refine ld_whole (ro := false) ?_
     simp only [putH, setO_H, ↓reduceIte]
   · obtain ⟨i, _, rfl⟩ := List.mem_map.1 hx
     exact .int _ _

instance (m : Nat → Bool) : Cls' (cellsW m) := inferInstanceAs (Cls' (List.map _ _))
theorem cellsW_upd {m m' : Nat → Bool} {i x : Nat} (hi : i < 16) (hx : x < 18446744073709551616) (h1 : ∀ b, b < 64 → x.testBit b = m' (64 * i + b)) (h2 : ∀ y, y / 64 ≠ i → m' y = m y) :
 (cellsW m).set i (.int .u64 (x : Int)) = cellsW m' := by
 refine List.ext_getElem? fun j => ?_
 rw [List.getElem?_set]
 by_cases hj : j < 16
 · rw [cellsW_get _ hj, cellsW_get _ hj, cellsW_len]
   split
   · rename_i e
     subst e
     rw [word_ext hx h1]
   · rename_i e
     have : word m j = word m' j := word_ext (word_lt m j) fun b hb => by rw [word_bit _ _ _ hb, h2 _ (by omega)]
     rw [this]
 · rw [if_neg (by omega), List.getElem?_eq_none (by rw [cellsW_len]; omega), List.getElem?_eq_none (by rw [cellsW_len]; omega)]
theorem setC_ext {m m' : Nat → Bool} (h : ∀ y, y < 1024 → m y = m' y) : setC m = setC m' := by
 have e : cellsW m = cellsW m' := by
  refine List.ext_getElem? fun j => ?_
  by_cases hj : j < 16
  · have : word m j = word m' j := word_ext (word_lt m j) fun b hb => by rw [word_bit _ _ _ hb, h _ (by omega)]
    rw [cellsW_get _ hj, cellsW_get _ hj, this]
  · rw [List.getElem?_eq_none (by rw [cellsW_len]; omega), List.getElem?_eq_none (by rw [cellsW_len]; omega)]
 show V.agg _ = V.agg _
 rw [e]
theorem er_setC {b : Bool} {H : Nat → Option MObj} {m m' : Nat → Bool} (h : ∀ y, y < 1024 → m y = m' y) : Er b H (setC m) (setC m') := er_eq (setC_ext h)
theorem bits_Or {a b : Nat → Bool}  : Pure Tryd.prog 19 [setC a, setC b] (setC (fun y => a y || b y)) := by
 refine pure_intro Tryd.func19 e19_nm e19_ok (by show 2 ≤ 22; decide) ?_
 show ewp _ e19n18 _ _
 repeat' with_reducible first
  | refine s_ ?_
  | simp -implicitDefEqProofs only [wZZ, seval]
  | (apply boxQ_i; (focus (with_unfolding_all exact cellsW_len _)); (exact wu_))
 refine ewp_loopN ?nx1 (fun (k : Nat) s => s.f 2 = ?v1_2 ∧ s.f 3 = ?v1_3 ∧ s.f 4 = ?v1_4 ∧ s.H 1 = some (.own 16 [setC b] false) ∧ s.H 2 = ?o1_1 ∧ s.f 6 = vi k ∧ (k ≤ 16) ∧ (s.H 0 = some (.own 16 [setC (fun y => if y < 64 * k then a y || b y else a y)] false))) (fun k => 16 - k) (0) wj_ (by refine ⟨?_, ?_, ?_, ?_, ?_, ?_, (by first | omega | (simp; done) | assumption), (by (try simp -implicitDefEqProofs only [wL, wM, wN, seval]); first | rfl | (simp; done))⟩ <;> first | (simp -implicitDefEqProofs only [wL, wM, wN, wX, seval, Option.some.injEq] <;> exact wt_) | rfl | exact ⟨_, rfl⟩) ?_
 intro k s hnx ⟨g2, g3, g4, o0, o1, g6, k1_0, o100⟩
 by_cases hk : k < 16
 · repeat' with_reducible first
    | refine s_ ?_
    | simp -implicitDefEqProofs only [wZZ, seval, g2, g3, g4, g6, o0, o1, o100]
    | (refine condQ_j (fun h h_ => ?_) (fun h h_ => ?_) <;> (try simp only [wD, reduceCtorEq] at h_) <;> (try exact wb_) <;> (try simp only [h]))
    | (apply iaA_ptrQ; (focus omega))
    | (apply ldQ_cell; (focus (exact cellsW_get _ (by omega))))
    | refine onS_i (u_or (word_lt _ _) (word_lt _ _)) ?_
    | (apply stQ_cell; (exact wu_); (exact wu_); (exact wu_); (focus (rw [cellsW_len]; omega)))
    | simp -implicitDefEqProofs (disch := omega) only [w64, if_neg]
   refine ⟨wk_, k + 1, (by omega), ?_⟩
   refine ⟨?_, ?_, ?_, ?_, ?_, ?_, ?_, ?_⟩
   iterate 6 (focus (first | (simp -implicitDefEqProofs only [wL, wM, wN, wX, seval, Option.some.injEq, g2, g3, g4, g6, o0, o1, o100] <;> exact wt_) | rfl | exact ⟨_, rfl⟩))
   all_goals try omega
   all_goals try simp -implicitDefEqProofs only [wL, wM, wN, wX, seval, g2, g3, g4, g6, o0, o1, o100]
   rw [cellsW_upd (m' := fun y => if y < 64 * (k + 1) then a y || b y else a y) hk]
   · exact Nat.or_lt_two_pow (n := 64) (word_lt _ _) (word_lt _ _)
   · intro y hy
     rw [Nat.testBit_or, word_bit _ _ _ hy, word_bit _ _ _ hy]
     have e1 : ¬ (64 * k + y < 64 * k) := by omega
     have e2 : 64 * k + y < 64 * (k + 1) := by omega
     simp [e1, e2]
   · intro y hy
     by_cases hl : y < 64 * k
     · have e2 : y < 64 * (k + 1) := by omega
       simp [hl, e2]
     · have e2 : ¬ y < 64 * (k + 1) := by omega
       simp [hl, e2]
 · obtain rfl : k = 16 := by omega
   repeat' with_reducible first
    | refine s_ ?_
    | simp -implicitDefEqProofs only [wZZ, seval, g2, g3, g4, g6, o0, o1, o100]
    | (apply ldQ_whole)
    | (apply stQ_whole; (exact wu_); (focus (exact cellsW_len _)))
   refine postL (t := 4) rfl (Or.inr rfl) (v := setC (fun y => if y < 64 * 16 then a y || b y else a y)) ?_ (er_setC ?_)
   · simp -implicitDefEqProofs only [wL, seval, g2, g3, g4, g6]
     refine ld_whole (ro := false) ?_
     simp only [putH, setO_H, ↓reduceIte]
   · intro y hy
     simp [show y < 1024 from hy]

theorem ctz_bits {u : Nat} (h0 : u ≠ 0) (h : u < 18446744073709551616) : Lib.ctz 64 u < 64 ∧ u.testBit (Lib.ctz 64 u) = true ∧ (∀ b, b < Lib.ctz 64 u → u.testBit b = false) ∧ 1 ≤ u ∧
 ∀ b, (u &&& (u - 1)).testBit b = (decide (b ≠ Lib.ctz 64 u) && u.testBit b) := by
 obtain ⟨m, hm, hk⟩ := Lib.ctzFrom_spec 64 u (by omega) h
 have e : Lib.ctz 64 u = Lib.ctzFrom 64 u := by simp [Lib.ctz, h0]
 rw [e]
 generalize Lib.ctzFrom 64 u = t at hm hk
 have hb : ∀ b, u.testBit b = if b < t then false else (2 * m + 1).testBit (b - t) := by
  intro b
  have := Nat.testBit_two_pow_mul_add (2 * m + 1) (Nat.two_pow_pos t) b
  rw [Nat.add_zero, ← hm] at this
  rw [this]; simp
 have hp : 1 ≤ 2 ^ t := Nat.one_le_two_pow
 have hb' : ∀ b, (u - 1).testBit b = if b < t then true else (2 * m).testBit (b - t) := by
  intro b
  have hu : u - 1 = 2 ^ t * (2 * m) + (2 ^ t - 1) := by rw [hm, Nat.mul_add, Nat.mul_one]; omega
  have := Nat.testBit_two_pow_mul_add (2 * m) (show 2 ^ t - 1 < 2 ^ t by omega) b
  rw [← hu] at this
  rw [this]
  split
  · rw [Nat.testBit_two_pow_sub_one]; simpa
  · rfl
 refine ⟨hk, by rw [hb]; simp, fun b hbt => by rw [hb]; simp [hbt], by omega, fun b => ?_⟩
 rw [Nat.testBit_and, hb, hb']
 by_cases h1 : b < t
 · simp [h1]
 · by_cases h2 : b = t
   · subst h2; simp
   · obtain ⟨c, hc⟩ : ∃ c, b - t = c + 1 := ⟨b - t - 1, by omega⟩
     simp only [h1, ↓reduceIte, hc, Nat.testBit_succ]
     have e1 : (2 * m + 1) / 2 = m := by omega
     have e2 : 2 * m / 2 = m := by omega
     simp [h2, e1, e2]
theorem tz_core {x y p q i k : Nat} {T : List V} (h0 : ¬ (x : Int) = 0) (hn : unV .neg (.int .u64 (x : Int)) = some (.int .u64 (y : Int))) (hand : binV .and (.int .u64 (x : Int)) (.int .u64 (y : Int)) = some (.int .u64 (p : Int))) (hmul : IntKind.u64.wrap ((p : Int) * 285870213051353865) = (q : Int)) (hshr : binV .shr (.int .u64 (q : Int)) (.int .u64 58) = some (.int .u64 (i : Int))) (hi : i < 64) (hT : Glob.G Tryd.prog 0 = .iptr 64 (.agg T) 0) (hc : T[i]? = some (.int .u8 (k : Int))) (hk : k < 64) : Pure Tryd.prog 30 [.int .u64 (x : Int)] (vi (k : Int)) := by
 refine pure_intro Tryd.func30 e30_nm e30_ok (by show 1 ≤ 14; decide) ?_
 show ewp _ e30n9 _ _
 repeat' with_reducible first
  | refine s_ ?_
  | simp -implicitDefEqProofs only [wZZ, seval, hn, hand, hmul, hshr, hT]
  | (refine condQ_j (fun h h_ => ?_) (fun h h_ => ?_) <;> (try simp only [wD, reduceCtorEq] at h_) <;> (try exact wb_) <;> (try simp only [h]))
  | refine onS_i (iaA_iptr hi) ?_
  | refine onS_i (ld_ip (by simpa using hc)) ?_
  | simp -implicitDefEqProofs (disch := omega) only [w64, if_neg]
 refine post1 rfl (Or.inr rfl) ?_
 simp -implicitDefEqProofs only [wL, seval]
 first | refine er_bool ?_ | refine er_int ?_ | refine er_str ?_ | refine er_sl_eq ?_ | refine er_asl_eq ?_
 try (with_reducible rfl)
theorem p64 : (2 : Nat) ^ 64 = 18446744073709551616 := by decide
theorem p58 : (2 : Nat) ^ 58 = 288230376151711744 := by decide
theorem tz_fin (C : Nat) {x y p q i k M D c : Nat} (hM : M = 18446744073709551616) (hD : D = 288230376151711744) (hc : c = 285870213051353865) (h0 : x ≠ 0) (hx : x < M) (hy : M - x = y) (hlow : x &&& y = p) (hq : p * c % M = q) (hi : q / D = i) (hi64 : i < 64) (hk : k < 64)
 (htab : Lib.deBruijn64tab.getD i 0 = k) : Pure Tryd.prog 30 [.int .u64 (x : Int)] (vi (k : Int)) := by
 have hn : unV .neg (.int .u64 (x : Int)) = some (.int .u64 (y : Int)) := by
  show some (V.int .u64 (IntKind.u64.wrap (0 - (x : Int)))) = _
  rw [wrapUm]; congr 2; omega
 have hand := u_and (x := x) (y := y) (by omega) (by omega)
 rw [hlow] at hand
 have hmul : IntKind.u64.wrap ((p : Int) * 285870213051353865) = (q : Int) := by
  rw [hc, hM] at hq
  rw [wrapUm]; omega
 have hshr := u_shr (x := q) (y := 58) (by omega)
 rw [p58, ← hD, hi] at hshr
 refine tz_core (T := Lib.deBruijn64tab.map fun (n : Nat) => V.int .u8 (n : Int)) (by omega) hn hand hmul hshr hi64 rfl ?_ hk
 have hl : Lib.deBruijn64tab.length = 64 := by decide
 rw [List.getD_eq_getElem?_getD, List.getElem?_eq_getElem (by rw [hl]; exact hi64)] at htab
 rw [List.getElem?_map, List.getElem?_eq_getElem (by rw [hl]; exact hi64)]
 simp only [Option.getD_some] at htab
 rw [htab]; rfl
theorem math_bits_TrailingZeros64 {x : Nat} (h0 : x ≠ 0) (hx : x < 18446744073709551616) : Pure Tryd.prog 30 [.int .u64 (x : Int)] (vi (Lib.ctz 64 x)) := by
 have hx' : x < 2 ^ 64 := by rw [p64]; exact hx
 have h := Lib.lowest_bit 64 x h0 hx'
 rw [p64] at h
 have ht := Lib.deBruijn64_at _ h.2
 exact tz_fin 0 (M := 18446744073709551616) (D := 288230376151711744) (c := 285870213051353865) rfl rfl rfl h0 hx rfl rfl rfl rfl (by rw [h.1]; exact ht.1) h.2 (by rw [h.1]; exact ht.2)

def lst (m : Nat → Bool) (n : Nat) : List Int := ((List.range n).filter m).map Int.ofNat
theorem lst_len (m : Nat → Bool) (n : Nat) : (lst m n).length ≤ n := by
 simp only [lst, List.length_map]
 exact Nat.le_trans (List.length_filter_le _ _) (by simp)
theorem lst_mem {m : Nat → Bool} {n : Nat} {x : Int} : x ∈ lst m n ↔ ∃ y : Nat, y < n ∧ m y = true ∧ x = y := by
 simp only [lst, List.mem_map, List.mem_filter, List.mem_range]
 constructor
 · rintro ⟨y, ⟨h1, h2⟩, rfl⟩; exact ⟨y, h1, h2, rfl⟩
 · rintro ⟨y, h1, h2, rfl⟩; exact ⟨y, ⟨h1, h2⟩, rfl⟩
theorem lst_none {m : Nat → Bool} (a d : Nat) (h : ∀ y, a ≤ y → y < a + d → m y = false) : lst m (a + d) = lst m a := by
 induction d with
 | zero => rfl
 | succ d ih =>
   have e : lst m (a + (d + 1)) = lst m (a + d) := by
    unfold lst
    rw [← Nat.add_assoc, List.range_succ, List.filter_append]
    simp [h (a + d) (by omega) (by omega)]
   rw [e, ih fun y h1 h2 => h y h1 (by omega)]
theorem lst_one {m : Nat → Bool} {n : Nat} (h : m n = true) : lst m (n + 1) = lst m n ++ [(n : Int)] := by
 unfold lst
 rw [List.range_succ, List.filter_append]
 simp [h]
theorem wrapU1 {u : Nat} (h1 : 1 ≤ u) (h2 : u < 18446744073709551616) : IntKind.u64.wrap ((u : Int) - 1) = ((u - 1 : Nat) : Int) := by
 rw [wrapU (by omega) (by omega)]; omega
theorem bits_Set_List {m : Nat → Bool}  : Pure Tryd.prog 21 [setC m] (ints (lst m 1024)) := by
 refine pure_intro Tryd.func21 e21_nm e21_ok (by show 1 ≤ 28; decide) ?_
 show ewp _ e21n29 _ _
 repeat' with_reducible first
  | refine s_ ?_
  | simp -implicitDefEqProofs only [wZZ, seval]
  | (apply boxQ_i; (focus (with_unfolding_all exact cellsW_len _)); (exact wu_))
  | (apply ldQ_whole)
 refine ewp_loopN ?nx1 (fun (k : Nat) s => s.f 7 = ?v1_7 ∧ (∃ v, s.f 3 = v ∧ Gr s.H s.next 1 ((lst m (64 * k)).map (V.int .i64)) v) ∧ s.f 8 = vi k ∧ (k ≤ 16)) (fun k => 16 - k) (0) wj_ (by refine ⟨?_, ?_, ?_, (by first | omega | (simp; done) | assumption)⟩ <;> first | (simp -implicitDefEqProofs only [wL, wM, wN, wX, seval, Option.some.injEq] <;> exact wt_) | rfl | exact ⟨_, rfl⟩) ?_
 intro k s hnx ⟨g7, ⟨v3, g3, G3⟩, g8, k1_0⟩
 by_cases hk : k < 16
 · have hw := word_lt m k
   have hlk := lst_len m (64 * k)
   repeat' with_reducible first
    | refine s_ ?_
    | simp -implicitDefEqProofs only [wZZ, seval, g7, g3, g8, G3.len]
    | (refine condQ_j (fun h h_ => ?_) (fun h h_ => ?_) <;> (try simp only [wD, reduceCtorEq] at h_) <;> (try exact wb_) <;> (try simp only [h]))
    | refine onS_i (ixA_1 (by omega) (cellsW_get _ (by omega))) ?_
   refine ewp_loopN ?nx2 (fun (p : Nat × Nat) s => s.f 4 = ?v2_4 ∧ s.f 7 = ?v2_7 ∧ s.f 8 = ?v2_8 ∧ (∃ v, s.f 3 = v ∧ Gr s.H s.next 1 ((lst m (64 * k + p.1)).map (V.int .i64)) v) ∧ s.f 5 = .int .u64 (p.2 : Int) ∧ (p.1 ≤ 64) ∧ (p.2 < 18446744073709551616) ∧ ((∀ b, b < 64 → p.2.testBit b = (decide (p.1 ≤ b) && m (64 * k + b))))) (fun p => 64 - p.1) ((0, word m k)) wj_ (by refine ⟨?_, ?_, ?_, ?_, ?_, (by first | omega | (simp; done) | assumption), (by first | omega | (simp; done) | assumption), (by intro b hb; rw [word_bit _ _ _ hb]; simp)⟩ <;> first | (simp -implicitDefEqProofs only [wL, wM, wN, wX, seval, Option.some.injEq, g7, g3, g8] <;> first | rfl | exact ⟨_, rfl⟩ | exact ⟨_, rfl, by first | assumption | exact Gr.nil | exact Gr.tok rfl (by omega) | exact Gr.tok (by simp -implicitDefEqProofs only [wM, seval] <;> rfl) (by omega) | exact Gr.clip | exact G3.to (by first | rfl | (simp [*]; done)) (by omega) rfl⟩) | rfl | exact ⟨_, rfl⟩) ?_
   intro p s hnx ⟨g4, g7, g8, ⟨v3, g3, G3⟩, g5, k2_0, k2_1, k2_2⟩
   obtain ⟨c, u⟩ := p
   dsimp only at g5 G3 k2_0 k2_1 k2_2
   have hlc := lst_len m (64 * k + c)
   by_cases hu : u = 0
   · have hn : lst m (64 * (k + 1)) = lst m (64 * k + c) := by
      have := lst_none (m := m) (64 * k + c) (64 - c) (fun y h1 h2 => by
       have := k2_2 (y - 64 * k) (by omega)
       simp only [hu, Nat.zero_testBit] at this
       have e : 64 * k + (y - 64 * k) = y := by omega
       rw [e] at this
       have h3 : c ≤ y - 64 * k := by omega
       simpa [h3] using this.symm)
      rw [show 64 * k + c + (64 - c) = 64 * (k + 1) by omega] at this
      exact this
     subst hu
     repeat' with_reducible first
      | refine s_ ?_
      | simp -implicitDefEqProofs only [wZZ, seval, g4, g7, g8, g3, g5, G3.len]
      | simp -implicitDefEqProofs (disch := omega) only [w64, if_neg]
     refine ⟨wk_, k + 1, (by omega), ?_⟩
     refine ⟨?_, ?_, ?_, ?_⟩
     iterate 3 (focus (first | (simp -implicitDefEqProofs only [wL, wM, wN, wX, seval, Option.some.injEq, g4, g7, g8, g3, g5, hn] <;> first | rfl | exact ⟨_, rfl⟩ | exact ⟨_, rfl, by first | assumption | exact Gr.nil | exact Gr.tok rfl (by omega) | exact Gr.tok (by simp -implicitDefEqProofs only [wM, seval] <;> rfl) (by omega) | exact Gr.clip | exact G3.to (by first | rfl | (simp [*]; done)) (by omega) rfl⟩) | rfl | exact ⟨_, rfl⟩))
     all_goals try omega
   · have ht := ctz_bits hu k2_1
     generalize hT : Lib.ctz 64 u = t at ht
     obtain ⟨t1, t2, t3, t4, t5⟩ := ht
     have hc : c ≤ t := by
      rcases Nat.lt_or_ge t c with h | h
      · have := k2_2 t t1
        rw [t2] at this
        simp [Nat.not_le.2 h] at this
      · exact h
     have hmt : m (64 * k + t) = true := by
      have := k2_2 t t1
      rw [t2] at this
      simpa [hc] using this.symm
     have hn : lst m (64 * k + (t + 1)) = lst m (64 * k + c) ++ [((64 * k + t : Nat) : Int)] := by
      rw [← Nat.add_assoc, lst_one hmt]
      congr 1
      have := lst_none (m := m) (64 * k + c) (t - c) (fun y h1 h2 => by
       have := k2_2 (y - 64 * k) (by omega)
       rw [t3 _ (by omega)] at this
       have e : 64 * k + (y - 64 * k) = y := by omega
       rw [e] at this
       have h3 : c ≤ y - 64 * k := by omega
       simpa [h3] using this.symm)
      rw [show 64 * k + c + (t - c) = 64 * k + t by omega] at this
      exact this
     have hlt : (u &&& (u - 1)) < 18446744073709551616 := Nat.and_lt_two_pow (n := 64) _ (by omega)
     have hz : ((k : Int) * 64 + (t : Int)) = ((64 * k + t : Nat) : Int) := by omega
     have hsub := wrapU1 t4 k2_1
     repeat' with_reducible first
      | refine s_ ?_
      | simp -implicitDefEqProofs only [wZZ, seval, g4, g7, g8, g3, g5, hT, hz, hsub, G3.len]
      | (refine condQ_j (fun h h_ => ?_) (fun h h_ => ?_) <;> (try simp only [wD, reduceCtorEq] at h_) <;> (try exact wb_) <;> (try simp only [h]))
      | refine onS_i (u_and (by omega) (by omega)) ?_
      | (apply appQ_G (hg := G3); (focus (first | rfl | (simp -implicitDefEqProofs only [wM]; done))); (focus (first | exact SrcN.sl | exact SrcN.asl | exact SrcN.gr G3 | exact SrcN.str)); (exact wf_); (focus (unfold maxLen; first | omega | (simp only [wZ] <;> omega))))
      | (apply callQ1 (hp := math_bits_TrailingZeros64 ?_ ?_); (focus (first | exact er_intsL | exact er_cl | exact er_sl | exact er_asl | exact G3.er rfl)); rotate_left; (exact wf_); (exact wf_))
      | simp -implicitDefEqProofs (disch := omega) only [w64, if_neg]
     refine ⟨wk_, (t + 1, u &&& (u - 1)), (by omega), ?_⟩
     refine ⟨?_, ?_, ?_, ?_, ?_, ?_, ?_, ?_⟩
     iterate 5 (focus (first | (simp -implicitDefEqProofs only [wL, wM, wN, wX, seval, Option.some.injEq, g4, g7, g8, g3, g5, hn] <;> first | rfl | exact ⟨_, rfl⟩ | exact ⟨_, rfl, by first | assumption | exact Gr.nil | exact Gr.tok rfl (by omega) | exact Gr.tok (by simp -implicitDefEqProofs only [wM, seval] <;> rfl) (by omega) | exact Gr.clip | exact G3.to (by first | rfl | (simp [*]; done)) (by omega) rfl⟩) | rfl | exact ⟨_, rfl⟩))
     all_goals try omega
     · intro b hb
       rw [t5, k2_2 b hb]
       by_cases h1 : b = t
       · subst h1; simp; omega
       · by_cases h2 : t + 1 ≤ b
         · simp [h1, h2, show c ≤ b by omega]
         · have h3 := t3 b (by omega)
           rw [k2_2 b hb] at h3
           simp [h1, h2, h3]
 · skip
   obtain rfl : k = 16 := by omega
   repeat' with_reducible first
    | refine s_ ?_
    | simp -implicitDefEqProofs only [wZZ, seval, g7, g3, g8, G3.len]
   refine post1 rfl (Or.inr rfl) ?_
   simp -implicitDefEqProofs only [wL, seval, g7, g3, g8]
   first | refine er_bool ?_ | refine er_int ?_ | refine er_str ?_ | refine er_sl_eq ?_ | refine er_asl_eq ?_ | refine G3.er ?_
   try (with_reducible rfl)
end Go.Proofs
