/- Part of a proof that a law of the given program answers true. -/
import Derived.Test.YtnglccjjgbdfgaaDoorGWF
import Derived.Test.YtnglccjjgbdfgaaDoorXEC
import Derived.Test.YtnglccjjgbdfgaaDoorGCA
set_option linter.unusedSimpArgs false
set_option linter.unusedVariables false
set_option maxHeartbeats 4000000
namespace Go.Proofs
open Go.E
theorem twice_at {rel sl : Nat → List Int} {n k b : Nat} {L : List Nat} (hL : L ∈ compM rel n) (hk : L[k]? = some b) : ∃ a w, L[0]? = some a ∧ a < n ∧ b < n ∧ (ofL n (cloM rel n sl))[a]? = some w ∧ (ofL n (cloM rel n sl))[b]? = some w ∧ w.length ≤ 1024 := by
 obtain ⟨i, hi, hh, rfl⟩ := compM_mem.1 hL
 have hb := clsL_mem.1 (List.mem_of_getElem? hk)
 have h0 : (clsL rel n i)[0]? = some i := by rw [← List.head?_eq_getElem?]; exact hh
 have hc := cloM_same sl hb.2.1 hb.2.2
 refine ⟨i, lst (cloM rel n sl i) 1024, h0, hi, hb.1, ?_, ?_, lst_len _ _⟩
 · unfold ofL; rw [List.getElem?_map, List.getElem?_range hi]; rfl
 · unfold ofL; rw [List.getElem?_map, List.getElem?_range hb.1, hc]; rfl
def totL (C : List (List Nat)) (i : Nat) : Nat := ((C.take i).map List.length).sum
theorem totL_succ {C : List (List Nat)} {i : Nat} {L : List Nat} (h : C[i]? = some L) : totL C (i + 1) = totL C i + L.length := by
 unfold totL; rw [List.take_add_one, h, List.map_append, List.sum_append]; simp
theorem totL_le (C : List (List Nat)) (i : Nat) : totL C i ≤ (C.map List.length).sum := by
 unfold totL
 conv => rhs; rw [← List.take_append_drop i C, List.map_append, List.sum_append]
 omega
theorem totL_all (C : List (List Nat)) : totL C C.length = (C.map List.length).sum := by unfold totL; rw [List.take_length]
theorem yuccalaw3_GraphTwice {rl sets : List (List Int)} (hl : rl.length ≤ 1099511627776) (hrk : ∀ l ∈ rl, l.length ≤ 1099511627776) (hsl : sets.length ≤ 1099511627776) (hsk : ∀ l ∈ sets, l.length ≤ 1099511627776) : Pure Tryd.prog 6 [.sl 1 false (rl.map intsV), .sl 1 false (sets.map intsV)] (.bool true) := by
 refine pure_intro Tryd.func6 e6_nm e6_ok (by show 2 ≤ 100; decide) ?_
 show ewp _ e6n55 _ _
 have hw := yuccalaw3_wakes
 have h1 := yuccalaw0_Lists (n := 20) (m := 6) hl hrk (by omega) (by omega)
 have h2 := yuccalaw0_Lists (n := 20) (m := 6) hsl hsk (by omega) (by omega)
 simp only [Int.cast_ofNat_Int] at h1 h2
 have a1 := listsN_len rl 20 6
 have a2 := listsN_len sets 20 6
 have b1 := listsN_each (l := rl) (n := 20) (m := 6)
 have b2 := listsN_each (l := sets) (n := 20) (m := 6)
 generalize listsN rl 20 6 = R at *
 generalize listsN sets 20 6 = S at *
 have hc := graph_Close (rl := R) (sets := S) (by omega) (fun l h => by have := b1 l h; omega) (by omega) (fun l h => by have := b2 l h; omega)
 have hm := graph_Comps (rl := R) (by omega) (fun l h => by have := b1 l h; omega)
 rw [if_neg (by omega)] at hc hm
 have c1 := ofL_len R.length (cloM (relF R) R.length (relF S))
 have c2 := ofL_each (n := R.length) (S := cloM (relF R) R.length (relF S))
 have htw := clo_twice (relF R) R.length (relF S)
 have hat := fun k b (L : List Nat) => twice_at (rel := relF R) (sl := relF S) (n := R.length) (k := k) (b := b) (L := L)
 generalize ofL R.length (cloM (relF R) R.length (relF S)) = O at *
 have hd := graph_Close (rl := R) (sets := O) (by omega) (fun l h => by have := b1 l h; omega) (by omega) (fun l h => by have := c2 l h; omega)
 rw [if_neg (by omega), htw] at hd
 have q := yuccaref0_EqLists (a := O) (b := O) (by omega) (by omega) (fun l h => by have := c2 l h; omega) (fun l h => by have := c2 l h; omega)
 rw [decide_eq_true rfl] at q
 have hsum := comp_sum (relF R) R.length
 have hCl : (compM (relF R) R.length).length ≤ R.length := compT_len (relF R) R.length R.length
 generalize hC : compM (relF R) R.length = C at *
 have hCm : (C.map natI).length = C.length := by simp
 repeat' with_reducible first
  | refine s_ ?_
  | refine s_ ?_
  | refine s_ ?_
  | simp -implicitDefEqProofs only [wS, wT, wU, wV, wW, wX, wY, wC, wF, wG, wL, wM, wN, seval, Int.cast_ofNat_Int, Int.reduceLT, Int.reduceLE, Int.reduceEq, Int.reduceToNat, decide_true, decide_false, Bool.false_eq_true, c1, hCm]
  | (refine condQ_j (fun h h_ => ?_) (fun h h_ => ?_) <;> (try simp only [wD, reduceCtorEq] at h_) <;> (try (exfalso; first | omega | exact absurd (Eq.trans (Eq.symm h_) (by assumption) : false = true) (by decide) | exact absurd (Eq.trans (Eq.symm h_) (by assumption) : true = false) (by decide) | (refine absurd ?_ h_; focus assumption) | (refine absurd h_ ?_; focus assumption))) <;> (try simp only [h]))
  | ((first | refine gdQ_iT (fun h => ?_) (fun h => ?_) | refine gdQ_iF (fun h => ?_) (fun h => ?_)) <;> have h_ := h <;> (try simp only [wD, reduceCtorEq] at h_) <;> (try (exfalso; first | omega | exact absurd (Eq.trans (Eq.symm h_) (by assumption) : false = true) (by decide) | exact absurd (Eq.trans (Eq.symm h_) (by assumption) : true = false) (by decide) | (refine absurd ?_ h_; focus assumption) | (refine absurd h_ ?_; focus assumption))) <;> (try simp only [h]))
  | (apply callQ0 (hp := hw))
  | (apply callQ3 (hp := h1); (focus exact er_cl); (focus exact er_cl); (focus exact er_cl))
  | (apply callQ3 (hp := h2); (focus exact er_cl); (focus exact er_cl); (focus exact er_cl))
  | (apply callQ2 (hp := hc); (focus exact er_cl); (focus exact er_cl))
  | (apply callQ2 (hp := hd); (focus exact er_cl); (focus exact er_cl))
  | (apply callQ2 (hp := q); (focus exact er_cl); (focus exact er_cl))
  | (apply callQ1 (hp := hm); (focus exact er_cl))
  | (apply ia_slQ; (focus omega); (exact wd_))
  | (apply ia_aslQ; (focus omega); (exact wd_))
  | (apply strAdd; (focus (first | omega | (simp only [wZ] <;> omega))))
  | (apply ldQ_whole)
  | (apply ldQ_sub; (exact wu_); (exact wu_); (focus ((try simp -implicitDefEqProofs only [wE, Nat.reduceAdd]); rfl)))
  | (apply ldQ_obj; (exact wd_); (exact wu_))
  | (apply ldQ_cell; (exact wu_))
  | (apply ldQ_one; (exact wu_))
  | (apply ld_ipQ; (exact wu_))
  | (apply callQ0 (hp := yuccalaw3_wakes))
  | (apply callQ3 (hp := yuccalaw0_Lists ?_ ?_ ?_ ?_); (exact we_); (exact we_); (exact we_); rotate_left; (exact wf_); (exact wf_); (exact wf_); (exact wf_))
  | (apply callQ2 (hp := graph_Close ?_ ?_ ?_ ?_); (exact we_); (exact we_); rotate_left; (exact wf_); (exact wf_); (exact wf_); (exact wf_))
  | (apply callQ1 (hp := graph_Comps ?_ ?_); (exact we_); rotate_left; (exact wf_); (exact wf_))
  | simp -implicitDefEqProofs (disch := omega) only [w64, if_neg]
 refine ewp_loopN ?nx1 (fun (i : Nat) s => s.f 0 = ?v1_0 ∧ s.f 5 = ?v1_5 ∧ s.f 6 = ?v1_6 ∧ s.f 7 = vi (totL C i : Nat) ∧ s.f 8 = vi i ∧ (i ≤ C.length)) (fun i => C.length - i) (0) wj_ (by refine ⟨?_, ?_, ?_, ?_, ?_, (by first | omega | (simp; done) | assumption)⟩ <;> first | (simp -implicitDefEqProofs only [wL, wM, wN, wX, seval, Option.some.injEq] <;> exact wt_) | rfl | exact ⟨_, rfl⟩) ?_
 intro i s hnx ⟨g0, g5, g6, g7, g8, k1_0⟩
 have hz : IntKind.i64.wrap ((i + 1 : Nat) : Int) = ((i + 1 : Nat) : Int) := wrap64 (by omega) (by omega)
 have hti := totL_le C i
 by_cases hi : i < C.length
 · obtain ⟨L, hL⟩ : ∃ L, C[i]? = some L := ⟨_, List.getElem?_eq_getElem hi⟩
   have hgi : (C.map natI)[i]? = some (natI L) := by rw [List.getElem?_map, hL]; rfl
   have hts := totL_succ hL
   have hti2 := totL_le C (i + 1)
   have hLl : (natI L).length = L.length := natI_len L
   repeat' with_reducible first
    | refine s_ ?_
    | refine s_ ?_
    | refine s_ ?_
    | simp -implicitDefEqProofs only [wS, wT, wU, wV, wW, wX, wY, wC, wF, wG, wL, wM, wN, seval, Int.cast_ofNat_Int, Int.reduceLT, Int.reduceLE, Int.reduceEq, Int.reduceToNat, decide_true, decide_false, Bool.false_eq_true, g0, g5, g6, g7, g8]
    | (refine condQ_j (fun h h_ => ?_) (fun h h_ => ?_) <;> (try simp only [wD, reduceCtorEq] at h_) <;> (try (exfalso; first | omega | exact absurd (Eq.trans (Eq.symm h_) (by assumption) : false = true) (by decide) | exact absurd (Eq.trans (Eq.symm h_) (by assumption) : true = false) (by decide) | (refine absurd ?_ h_; focus assumption) | (refine absurd h_ ?_; focus assumption))) <;> (try simp only [h]))
    | ((first | refine gdQ_iT (fun h => ?_) (fun h => ?_) | refine gdQ_iF (fun h => ?_) (fun h => ?_)) <;> have h_ := h <;> (try simp only [wD, reduceCtorEq] at h_) <;> (try (exfalso; first | omega | exact absurd (Eq.trans (Eq.symm h_) (by assumption) : false = true) (by decide) | exact absurd (Eq.trans (Eq.symm h_) (by assumption) : true = false) (by decide) | (refine absurd ?_ h_; focus assumption) | (refine absurd h_ ?_; focus assumption))) <;> (try simp only [h]))
    | (apply ia_slQ; (focus omega); (exact wd_))
    | (apply ia_aslQ; (focus omega); (exact wd_))
    | (apply strAdd; (focus (first | omega | (simp only [wZ] <;> omega))))
    | (apply ldQ_whole)
    | (apply ldQ_sub; (exact wu_); (exact wu_); (focus ((try simp -implicitDefEqProofs only [wE, Nat.reduceAdd]); rfl)))
    | (apply ldQ_obj; (exact wd_); (exact wu_))
    | (apply ldQ_cell; (exact wu_))
    | (apply ldQ_one; (exact wu_))
    | (apply ld_ipQ; (exact wu_))
    | (apply callQ0 (hp := yuccalaw3_wakes))
    | (apply callQ3 (hp := yuccalaw0_Lists ?_ ?_ ?_ ?_); (exact we_); (exact we_); (exact we_); rotate_left; (exact wf_); (exact wf_); (exact wf_); (exact wf_))
    | (apply callQ2 (hp := graph_Close ?_ ?_ ?_ ?_); (exact we_); (exact we_); rotate_left; (exact wf_); (exact wf_); (exact wf_); (exact wf_))
    | (apply callQ1 (hp := graph_Comps ?_ ?_); (exact we_); rotate_left; (exact wf_); (exact wf_))
    | simp -implicitDefEqProofs (disch := omega) only [w64, if_neg]
   refine ewp_loopN ?nx2 (fun (k : Nat) s => s.f 0 = ?v2_0 ∧ s.f 5 = ?v2_5 ∧ s.f 6 = ?v2_6 ∧ s.f 8 = ?v2_8 ∧ s.f 7 = vi ((totL C i + k : Nat) : Int) ∧ s.f 9 = vi k ∧ (k ≤ L.length)) (fun k => L.length - k) (0) wj_ (by refine ⟨?_, ?_, ?_, ?_, ?_, ?_, (by first | omega | (simp; done) | assumption)⟩ <;> first | (simp -implicitDefEqProofs only [wL, wM, wN, wX, seval, Option.some.injEq, g0, g5, g6, g7, g8] <;> exact wt_) | rfl | exact ⟨_, rfl⟩) ?_
   intro k s hnx ⟨g0, g5, g6, g8, g7, g9, k2_0⟩
   have hzk : IntKind.i64.wrap ((k + 1 : Nat) : Int) = ((k + 1 : Nat) : Int) := wrap64 (by omega) (by omega)
   have hzt : IntKind.i64.wrap ((totL C i + k : Nat) : Int) = ((totL C i + k : Nat) : Int) := wrap64 (by omega) (by omega)
   have hzt2 : IntKind.i64.wrap (((totL C i + k : Nat) : Int) + 1) = ((totL C i + (k + 1) : Nat) : Int) := by rw [wrap64 (by omega) (by omega)]; omega
   by_cases hk : k < L.length
   · obtain ⟨b, hb⟩ : ∃ b, L[k]? = some b := ⟨_, List.getElem?_eq_getElem hk⟩
     obtain ⟨a, w, ha, han, hbn, hOa, hOb, hwl⟩ := hat k b L (List.mem_of_getElem? hL) hb
     have hga : (natI L)[(0 : Int).toNat]? = some (a : Int) := natI_get ha
     have hgb : (natI L)[k]? = some (b : Int) := natI_get hb
     have hei := yuccaref0_EqInts (a := w) (b := w) (by omega) (by omega)
     rw [decide_eq_true rfl] at hei
     repeat' with_reducible first
      | refine s_ ?_
      | refine s_ ?_
      | refine s_ ?_
      | simp -implicitDefEqProofs only [wS, wT, wU, wV, wW, wX, wY, wC, wF, wG, wL, wM, wN, seval, Int.cast_ofNat_Int, Int.reduceLT, Int.reduceLE, Int.reduceEq, Int.reduceToNat, decide_true, decide_false, Bool.false_eq_true, g0, g5, g6, g8, g7, g9, hzk, hzt2, hLl, c1]
      | (refine condQ_j (fun h h_ => ?_) (fun h h_ => ?_) <;> (try simp only [wD, reduceCtorEq] at h_) <;> (try (exfalso; first | omega | exact absurd (Eq.trans (Eq.symm h_) (by assumption) : false = true) (by decide) | exact absurd (Eq.trans (Eq.symm h_) (by assumption) : true = false) (by decide) | (refine absurd ?_ h_; focus assumption) | (refine absurd h_ ?_; focus assumption))) <;> (try simp only [h]))
      | ((first | refine gdQ_iT (fun h => ?_) (fun h => ?_) | refine gdQ_iF (fun h => ?_) (fun h => ?_)) <;> have h_ := h <;> (try simp only [wD, reduceCtorEq] at h_) <;> (try (exfalso; first | omega | exact absurd (Eq.trans (Eq.symm h_) (by assumption) : false = true) (by decide) | exact absurd (Eq.trans (Eq.symm h_) (by assumption) : true = false) (by decide) | (refine absurd ?_ h_; focus assumption) | (refine absurd h_ ?_; focus assumption))) <;> (try simp only [h]))
      | (apply ia_slQ; (focus omega); (focus with_unfolding_all exact hgi))
      | (apply ia_slQ; (focus omega); (focus with_unfolding_all exact hga))
      | (apply ia_slQ; (focus omega); (focus with_unfolding_all exact hgb))
      | (apply ia_slQ; (focus omega); (focus with_unfolding_all exact hOa))
      | (apply ia_slQ; (focus omega); (focus with_unfolding_all exact hOb))
      | (apply callQ2 (hp := hei); (focus exact er_cl); (focus exact er_cl))
      | (apply ia_slQ; (focus omega); (exact wd_))
      | (apply ia_aslQ; (focus omega); (exact wd_))
      | (apply strAdd; (focus (first | omega | (simp only [wZ] <;> omega))))
      | (apply ldQ_whole)
      | (apply ldQ_sub; (exact wu_); (exact wu_); (focus ((try simp -implicitDefEqProofs only [wE, Nat.reduceAdd]); rfl)))
      | (apply ldQ_obj; (exact wd_); (exact wu_))
      | (apply ldQ_cell; (exact wu_))
      | (apply ldQ_one; (exact wu_))
      | (apply ld_ipQ; (exact wu_))
      | (apply callQ0 (hp := yuccalaw3_wakes))
      | (apply callQ3 (hp := yuccalaw0_Lists ?_ ?_ ?_ ?_); (exact we_); (exact we_); (exact we_); rotate_left; (exact wf_); (exact wf_); (exact wf_); (exact wf_))
      | (apply callQ2 (hp := graph_Close ?_ ?_ ?_ ?_); (exact we_); (exact we_); rotate_left; (exact wf_); (exact wf_); (exact wf_); (exact wf_))
      | (apply callQ1 (hp := graph_Comps ?_ ?_); (exact we_); rotate_left; (exact wf_); (exact wf_))
      | simp -implicitDefEqProofs (disch := omega) only [w64, if_neg]
     refine ⟨wk_, k + 1, (by omega), ?_⟩
     refine ⟨?_, ?_, ?_, ?_, ?_, ?_, ?_⟩
     iterate 6 (focus (first | (simp -implicitDefEqProofs only [wL, wM, wN, wX, seval, Option.some.injEq, g0, g5, g6, g8, g7, g9] <;> exact wt_) | rfl | exact ⟨_, rfl⟩))
     all_goals try omega
   · have ek : k = L.length := by omega
     rw [ek, ← hts] at g7
     repeat' with_reducible first
      | refine s_ ?_
      | refine s_ ?_
      | refine s_ ?_
      | simp -implicitDefEqProofs only [wS, wT, wU, wV, wW, wX, wY, wC, wF, wG, wL, wM, wN, seval, Int.cast_ofNat_Int, Int.reduceLT, Int.reduceLE, Int.reduceEq, Int.reduceToNat, decide_true, decide_false, Bool.false_eq_true, g0, g5, g6, g8, g7, g9, hz, hLl]
      | (refine condQ_j (fun h h_ => ?_) (fun h h_ => ?_) <;> (try simp only [wD, reduceCtorEq] at h_) <;> (try (exfalso; first | omega | exact absurd (Eq.trans (Eq.symm h_) (by assumption) : false = true) (by decide) | exact absurd (Eq.trans (Eq.symm h_) (by assumption) : true = false) (by decide) | (refine absurd ?_ h_; focus assumption) | (refine absurd h_ ?_; focus assumption))) <;> (try simp only [h]))
      | ((first | refine gdQ_iT (fun h => ?_) (fun h => ?_) | refine gdQ_iF (fun h => ?_) (fun h => ?_)) <;> have h_ := h <;> (try simp only [wD, reduceCtorEq] at h_) <;> (try (exfalso; first | omega | exact absurd (Eq.trans (Eq.symm h_) (by assumption) : false = true) (by decide) | exact absurd (Eq.trans (Eq.symm h_) (by assumption) : true = false) (by decide) | (refine absurd ?_ h_; focus assumption) | (refine absurd h_ ?_; focus assumption))) <;> (try simp only [h]))
      | (apply ia_slQ; (focus omega); (focus with_unfolding_all exact hgi))
      | (apply ia_slQ; (focus omega); (exact wd_))
      | (apply ia_aslQ; (focus omega); (exact wd_))
      | (apply strAdd; (focus (first | omega | (simp only [wZ] <;> omega))))
      | (apply ldQ_whole)
      | (apply ldQ_sub; (exact wu_); (exact wu_); (focus ((try simp -implicitDefEqProofs only [wE, Nat.reduceAdd]); rfl)))
      | (apply ldQ_obj; (exact wd_); (exact wu_))
      | (apply ldQ_cell; (exact wu_))
      | (apply ldQ_one; (exact wu_))
      | (apply ld_ipQ; (exact wu_))
      | (apply callQ0 (hp := yuccalaw3_wakes))
      | (apply callQ3 (hp := yuccalaw0_Lists ?_ ?_ ?_ ?_); (exact we_); (exact we_); (exact we_); rotate_left; (exact wf_); (exact wf_); (exact wf_); (exact wf_))
      | (apply callQ2 (hp := graph_Close ?_ ?_ ?_ ?_); (exact we_); (exact we_); rotate_left; (exact wf_); (exact wf_); (exact wf_); (exact wf_))
      | (apply callQ1 (hp := graph_Comps ?_ ?_); (exact we_); rotate_left; (exact wf_); (exact wf_))
      | simp -implicitDefEqProofs (disch := omega) only [w64, if_neg]
     refine ⟨wk_, i + 1, (by omega), ?_⟩
     refine ⟨?_, ?_, ?_, ?_, ?_, ?_⟩
     iterate 5 (focus (first | (simp -implicitDefEqProofs only [wL, wM, wN, wX, seval, Option.some.injEq, g0, g5, g6, g8, g7, g9] <;> exact wt_) | rfl | exact ⟨_, rfl⟩))
     all_goals try omega
 · skip
   have ei : i = C.length := by omega
   rw [ei, totL_all, hsum] at g7
   repeat' with_reducible first
    | refine s_ ?_
    | refine s_ ?_
    | refine s_ ?_
    | simp -implicitDefEqProofs only [wS, wT, wU, wV, wW, wX, wY, wC, wF, wG, wL, wM, wN, seval, Int.cast_ofNat_Int, Int.reduceLT, Int.reduceLE, Int.reduceEq, Int.reduceToNat, decide_true, decide_false, Bool.false_eq_true, g0, g5, g6, g7, g8, hCm]
    | (refine condQ_j (fun h h_ => ?_) (fun h h_ => ?_) <;> (try simp only [wD, reduceCtorEq] at h_) <;> (try (exfalso; first | omega | exact absurd (Eq.trans (Eq.symm h_) (by assumption) : false = true) (by decide) | exact absurd (Eq.trans (Eq.symm h_) (by assumption) : true = false) (by decide) | (refine absurd ?_ h_; focus assumption) | (refine absurd h_ ?_; focus assumption))) <;> (try simp only [h]))
    | ((first | refine gdQ_iT (fun h => ?_) (fun h => ?_) | refine gdQ_iF (fun h => ?_) (fun h => ?_)) <;> have h_ := h <;> (try simp only [wD, reduceCtorEq] at h_) <;> (try (exfalso; first | omega | exact absurd (Eq.trans (Eq.symm h_) (by assumption) : false = true) (by decide) | exact absurd (Eq.trans (Eq.symm h_) (by assumption) : true = false) (by decide) | (refine absurd ?_ h_; focus assumption) | (refine absurd h_ ?_; focus assumption))) <;> (try simp only [h]))
    | (apply ia_slQ; (focus omega); (exact wd_))
    | (apply ia_aslQ; (focus omega); (exact wd_))
    | (apply strAdd; (focus (first | omega | (simp only [wZ] <;> omega))))
    | (apply ldQ_whole)
    | (apply ldQ_sub; (exact wu_); (exact wu_); (focus ((try simp -implicitDefEqProofs only [wE, Nat.reduceAdd]); rfl)))
    | (apply ldQ_obj; (exact wd_); (exact wu_))
    | (apply ldQ_cell; (exact wu_))
    | (apply ldQ_one; (exact wu_))
    | (apply ld_ipQ; (exact wu_))
    | (apply callQ0 (hp := yuccalaw3_wakes))
    | (apply callQ3 (hp := yuccalaw0_Lists ?_ ?_ ?_ ?_); (exact we_); (exact we_); (exact we_); rotate_left; (exact wf_); (exact wf_); (exact wf_); (exact wf_))
    | (apply callQ2 (hp := graph_Close ?_ ?_ ?_ ?_); (exact we_); (exact we_); rotate_left; (exact wf_); (exact wf_); (exact wf_); (exact wf_))
    | (apply callQ1 (hp := graph_Comps ?_ ?_); (exact we_); rotate_left; (exact wf_); (exact wf_))
    | simp -implicitDefEqProofs (disch := omega) only [w64, if_neg]
   refine post1 rfl (Or.inr rfl) ?_
   simp -implicitDefEqProofs only [wL, seval, g0, g5, g6, g7, g8]
   first | refine er_bool ?_ | refine er_int ?_ | refine er_str ?_ | refine er_sl_eq ?_ | refine er_asl_eq ?_
   try (with_reducible rfl)

def mnC (n i : Nat) : List V := (List.range n).map fun k => if k < i then litV [(k : Int), (k : Int) - 1] else .sl 1 true []
theorem mnC_len (n i : Nat) : (mnC n i).length = n := by simp [mnC]
theorem mnC_0 (n : Nat) : List.replicate n (V.sl 1 true []) = mnC n 0 := by
 refine List.ext_getElem? fun i => ?_
 by_cases h : i < n
 · simp [mnC, h]
 · rw [List.getElem?_eq_none (by simp; omega), List.getElem?_eq_none (by rw [mnC_len]; omega)]
theorem mnC_n (n : Nat) : mnC n n = (mnR n).map litV := by
 unfold mnC mnR
 rw [List.map_map]
 refine List.map_congr_left fun k hk => ?_
 rw [if_pos (List.mem_range.1 hk)]; rfl
theorem stMn {K : St → Prop} {s : St} {nn k id : Nat} (i : Nat) {o : Option MObj} (ho : o = some (.own 1 (mnC nn i) false)) (e : k = i) (h : i < nn) (hk : K (s.setO id (some (.own 1 (mnC nn (i + 1)) false)))) : onS (stQ s o 1 id k 0 (V.sl 1 true [V.int .i64 (i : Int), V.int .i64 ((i : Int) - 1)])) K := by
 show onS (stQ s o 1 id k 0 (litV [(i : Int), (i : Int) - 1])) K
 subst ho e
 have hg : (mnC nn k)[k]? = some (.sl 1 true []) := by simp [mnC, h]
 have hs : (mnC nn k).set k (litV [(k : Int), (k : Int) - 1]) = mnC nn (k + 1) := by
  refine List.ext_getElem? fun j => ?_
  rw [List.getElem?_set, mnC_len]
  by_cases hj : j < nn
  · by_cases e : k = j
    · subst e; simp [mnC, hj]
    · rw [if_neg e]
      simp only [mnC, List.getElem?_map, List.getElem?_range hj, Option.map_some]
      by_cases e2 : j < k
      · rw [if_pos e2, if_pos (by omega)]
      · rw [if_neg e2, if_neg (by omega)]
  · rw [List.getElem?_eq_none (by rw [mnC_len]; omega), List.getElem?_eq_none (by rw [mnC_len]; omega)]
    split
    · rename_i e; exact absurd (e ▸ h) hj
    · rfl
 have e : stQ s (some (.own 1 (mnC nn k) false)) 1 id k 0 (litV [(k : Int), (k : Int) - 1]) = some (s.setO id (some (.own 1 (mnC nn (k + 1)) false))) := by
  rw [← hs]
  simp [stQ, hg, V.cells, V.okCell, storeE, V.isAgg]
 rw [e]; exact hk
theorem er_mn {id n : Nat} {HH : Nat → Option MObj} {ro : Bool} (h : HH id = some (.own 1 (mnC n n) ro)) : Er true (rsH (fun j => j == id) HH) (.msl id 1 0 n) (.sl 1 false ((mnR n).map intsV)) := by
 rw [mnC_n] at h
 refine er_mslL (es := (mnR n).map litV) (ro := ro) ?_ (erLm fun x _ => er_sl) (by simp [mnR_len])
 unfold rsH; rw [if_pos (by simp), h]
theorem mnR_each {i : Nat} : ∀ l ∈ mnR i, l.length ≤ 1000000 := by
 intro l hl
 obtain ⟨k, _, rfl⟩ := List.mem_map.1 hl
 simp
theorem er_lc1 {b c : Bool} {H : Nat → Option MObj} (l : List Int) : Er b H (.sl 1 c (l.map (V.int .i64))) (ints l) := er_sl
theorem yuccalaw3_GraphMany {n0 : Int}  : Pure Tryd.prog 7 [vi n0] (.bool true) := by
 refine pure_intro Tryd.func7 e7_nm e7_ok (by show 1 ≤ 61; decide) ?_
 show ewp _ e7n34 _ _
 have hw := yuccalaw3_wakes
 have hwi := yuccaref0_Within (i := n0) (n := 9) (by omega) (by omega)
 obtain ⟨n, hn⟩ : ∃ n : Nat, n = (3996 + n0 % 9).toNat := ⟨_, rfl⟩
 have hn1 : 3996 + n0 % 9 = (n : Int) := by omega
 have hn2 : n ≤ 4004 := by omega
 have hn3 : 3996 ≤ n := by omega
 have hzn : IntKind.i64.wrap (3996 + n0 % 9) = (n : Int) := by rw [wrap64 (by omega) (by omega)]; omega
 generalize n0 % 9 = m0 at *
 have hm0 := mnC_0 n
 have lR := mnR_len n
 have hcl := graph_Close (rl := mnR n) (sets := [[7]]) (by omega) mnR_each (by decide) (by decide)
 have hcm := graph_Comps (rl := mnR n) (by omega) mnR_each
 rw [lR] at hcl hcm
 repeat' with_reducible first
  | refine s_ ?_
  | refine s_ ?_
  | refine s_ ?_
  | simp -implicitDefEqProofs only [wS, wT, wU, wV, wW, wX, wY, wC, wF, wG, wL, wM, wN, seval, Int.cast_ofNat_Int, Int.reduceLT, Int.reduceLE, Int.reduceEq, Int.reduceToNat, decide_true, decide_false, Bool.false_eq_true, hzn]
  | (refine condQ_j (fun h h_ => ?_) (fun h h_ => ?_) <;> (try simp only [wD, reduceCtorEq] at h_) <;> (try (exfalso; first | omega | exact absurd (Eq.trans (Eq.symm h_) (by assumption) : false = true) (by decide) | exact absurd (Eq.trans (Eq.symm h_) (by assumption) : true = false) (by decide) | (refine absurd ?_ h_; focus assumption) | (refine absurd h_ ?_; focus assumption))) <;> (try simp only [h]))
  | ((first | refine gdQ_iT (fun h => ?_) (fun h => ?_) | refine gdQ_iF (fun h => ?_) (fun h => ?_)) <;> have h_ := h <;> (try simp only [wD, reduceCtorEq] at h_) <;> (try (exfalso; first | omega | exact absurd (Eq.trans (Eq.symm h_) (by assumption) : false = true) (by decide) | exact absurd (Eq.trans (Eq.symm h_) (by assumption) : true = false) (by decide) | (refine absurd ?_ h_; focus assumption) | (refine absurd h_ ?_; focus assumption))) <;> (try simp only [h]))
  | (apply callQ0 (hp := hw))
  | (apply callQ2 (hp := hwi); (focus exact er_cl); (focus exact er_cl))
  | (apply ia_slQ; (focus omega); (exact wd_))
  | (apply ia_mslQ; (focus omega); (exact wf_))
  | (apply ia_aslQ; (focus omega); (exact wd_))
  | (apply fil_part; (exact wu_); (exact wu_); (exact wu_); (focus ((try simp -implicitDefEqProofs only [wY]); rfl)))
  | (apply strAdd; (focus (first | omega | (simp only [wZ] <;> omega))))
  | (apply ldQ_whole)
  | (apply ldQ_sub; (exact wu_); (exact wu_); (focus ((try simp -implicitDefEqProofs only [wE, Nat.reduceAdd]); rfl)))
  | (apply ldQ_obj; (exact wd_); (exact wu_))
  | (apply ldQ_cell; (exact wu_))
  | (apply ldQ_one; (exact wu_))
  | (apply ld_ipQ; (exact wu_))
  | (apply stQ_whole; (exact wu_); (exact wu_))
  | (apply stQ_obj; (exact wf_); (exact wu_); (exact wu_); (focus (intro _; with_unfolding_all rfl)))
  | (apply stQ_one; (exact wu_); (exact wu_); (exact wu_))
  | (apply stQ_cell; (exact wu_); (exact wu_); (exact wu_); (exact wf_))
  | (apply mkQ_T; (exact wf_); (exact wf_); (focus (unfold maxLen; first | omega | (simp only [wZ] <;> omega))))
  | (apply mkQ_F; (exact wf_); (exact wf_); (focus (unfold maxLen; first | omega | (simp only [wZ] <;> omega))))
  | (apply callQ0 (hp := yuccalaw3_wakes))
  | (apply callQ2 (hp := graph_Close ?_ ?_ ?_ ?_); (exact we_); (exact we_); rotate_left; (exact wf_); (exact wf_); (exact wf_); (exact wf_))
  | (apply callQ1 (hp := graph_Comps ?_ ?_); (exact we_); rotate_left; (exact wf_); (exact wf_))
  | simp -implicitDefEqProofs (disch := omega) only [w64, if_neg]
 rw [hm0]
 refine ewp_loopN ?nx1 (fun (i : Nat) s => s.f 0 = ?v1_0 ∧ s.f 3 = ?v1_3 ∧ s.f 4 = vi i ∧ (i ≤ n) ∧ (s.H 8 = some (.own 1 (mnC n i) false))) (fun i => n - i) (0) wj_ (by refine ⟨?_, ?_, ?_, (by first | omega | (simp; done) | assumption), (by ((try simp only [wM]); (repeat first | rw [if_pos trivial] | rw [if_pos rfl] | rw [if_neg (by omega)])))⟩ <;> first | (simp -implicitDefEqProofs only [wL, wM, wN, wX, seval, Option.some.injEq] <;> exact wt_) | rfl | exact ⟨_, rfl⟩) ?_
 intro i s hnx ⟨g0, g3, g4, k1_0, k1_1⟩
 have hz : IntKind.i64.wrap ((i + 1 : Nat) : Int) = ((i + 1 : Nat) : Int) := wrap64 (by omega) (by omega)
 have hzm : IntKind.i64.wrap ((i : Int) - 1) = (i : Int) - 1 := wrap64 (by omega) (by omega)
 by_cases hi : i < n
 · repeat' with_reducible first
    | refine s_ ?_
    | refine s_ ?_
    | refine s_ ?_
    | simp -implicitDefEqProofs only [wS, wT, wU, wV, wW, wX, wY, wC, wF, wG, wL, wM, wN, seval, Int.cast_ofNat_Int, Int.reduceLT, Int.reduceLE, Int.reduceEq, Int.reduceToNat, decide_true, decide_false, Bool.false_eq_true, g0, g3, g4, hz, hzm]
    | (refine condQ_j (fun h h_ => ?_) (fun h h_ => ?_) <;> (try simp only [wD, reduceCtorEq] at h_) <;> (try (exfalso; first | omega | exact absurd (Eq.trans (Eq.symm h_) (by assumption) : false = true) (by decide) | exact absurd (Eq.trans (Eq.symm h_) (by assumption) : true = false) (by decide) | (refine absurd ?_ h_; focus assumption) | (refine absurd h_ ?_; focus assumption))) <;> (try simp only [h]))
    | ((first | refine gdQ_iT (fun h => ?_) (fun h => ?_) | refine gdQ_iF (fun h => ?_) (fun h => ?_)) <;> have h_ := h <;> (try simp only [wD, reduceCtorEq] at h_) <;> (try (exfalso; first | omega | exact absurd (Eq.trans (Eq.symm h_) (by assumption) : false = true) (by decide) | exact absurd (Eq.trans (Eq.symm h_) (by assumption) : true = false) (by decide) | (refine absurd ?_ h_; focus assumption) | (refine absurd h_ ?_; focus assumption))) <;> (try simp only [h]))
    | (apply ia_mslQ; (focus omega); (focus omega))
    | (refine stMn i k1_1 (by omega) hi ?_)
    | (apply ia_slQ; (focus omega); (exact wd_))
    | (apply ia_mslQ; (focus omega); (exact wf_))
    | (apply ia_aslQ; (focus omega); (exact wd_))
    | (apply fil_part; (exact wu_); (exact wu_); (exact wu_); (focus ((try simp -implicitDefEqProofs only [wY]); rfl)))
    | (apply strAdd; (focus (first | omega | (simp only [wZ] <;> omega))))
    | (apply ldQ_whole)
    | (apply ldQ_sub; (exact wu_); (exact wu_); (focus ((try simp -implicitDefEqProofs only [wE, Nat.reduceAdd]); rfl)))
    | (apply ldQ_obj; (exact wd_); (exact wu_))
    | (apply ldQ_cell; (exact wu_))
    | (apply ldQ_one; (exact wu_))
    | (apply ld_ipQ; (exact wu_))
    | (apply stQ_whole; (exact wu_); (exact wu_))
    | (apply stQ_obj; (exact wf_); (exact wu_); (exact wu_); (focus (intro _; with_unfolding_all rfl)))
    | (apply stQ_one; (exact wu_); (exact wu_); (exact wu_))
    | (apply stQ_cell; (exact wu_); (exact wu_); (exact wu_); (exact wf_))
    | (apply mkQ_T; (exact wf_); (exact wf_); (focus (unfold maxLen; first | omega | (simp only [wZ] <;> omega))))
    | (apply mkQ_F; (exact wf_); (exact wf_); (focus (unfold maxLen; first | omega | (simp only [wZ] <;> omega))))
    | (apply callQ0 (hp := yuccalaw3_wakes))
    | (apply callQ2 (hp := graph_Close ?_ ?_ ?_ ?_); (exact we_); (exact we_); rotate_left; (exact wf_); (exact wf_); (exact wf_); (exact wf_))
    | (apply callQ1 (hp := graph_Comps ?_ ?_); (exact we_); rotate_left; (exact wf_); (exact wf_))
    | simp -implicitDefEqProofs (disch := omega) only [w64, if_neg]
   refine ⟨by ((try simp only [wN]) <;> omega), i + 1, by omega, ?_⟩; (repeat refine ⟨True.intro, ?_⟩)
   exact ⟨rfl, by omega, by ((try simp only [wM]); (repeat first | rw [if_pos trivial] | rw [if_pos rfl] | rw [if_neg (by omega)]))⟩
 · have e : i = n := by omega
   rw [e] at k1_1
   have E1 : ∀ HH : Nat → Option MObj, HH 8 = s.H 8 → Ers true (rsH (fun j => j == 8) HH) [.msl 8 1 0 n, .sl 1 true [.sl 1 true [.int .i64 7]]] [.sl 1 false ((mnR n).map intsV), .sl 1 false ([[7]].map intsV)] := fun HH h => ers_cons (er_mn (h.trans k1_1)) (ers_cons (er_lit2 [[7]]) ers_nil)
   have E2 : ∀ HH : Nat → Option MObj, HH 8 = s.H 8 → Ers true (rsH (fun j => j == 8) (frH (fun j => j == 8) HH)) [.msl 8 1 0 n] [.sl 1 false ((mnR n).map intsV)] := fun HH h => ers_cons (er_mn (ro := true) (by unfold frH; rw [if_pos (by rfl), h, k1_1]; rfl)) ers_nil
   by_cases hb : 4000 < n
   · rw [if_pos hb] at hcl hcm
     repeat' with_reducible first
      | refine s_ ?_
      | refine s_ ?_
      | refine s_ ?_
      | simp -implicitDefEqProofs only [wS, wT, wU, wV, wW, wX, wY, wC, wF, wG, wL, wM, wN, seval, Int.cast_ofNat_Int, Int.reduceLT, Int.reduceLE, Int.reduceEq, Int.reduceToNat, decide_true, decide_false, Bool.false_eq_true, g0, g3, g4]
      | (refine condQ_j (fun h h_ => ?_) (fun h h_ => ?_) <;> (try simp only [wD, reduceCtorEq] at h_) <;> (try (exfalso; first | omega | exact absurd (Eq.trans (Eq.symm h_) (by assumption) : false = true) (by decide) | exact absurd (Eq.trans (Eq.symm h_) (by assumption) : true = false) (by decide) | (refine absurd ?_ h_; focus assumption) | (refine absurd h_ ?_; focus assumption))) <;> (try simp only [h]))
      | ((first | refine gdQ_iT (fun h => ?_) (fun h => ?_) | refine gdQ_iF (fun h => ?_) (fun h => ?_)) <;> have h_ := h <;> (try simp only [wD, reduceCtorEq] at h_) <;> (try (exfalso; first | omega | exact absurd (Eq.trans (Eq.symm h_) (by assumption) : false = true) (by decide) | exact absurd (Eq.trans (Eq.symm h_) (by assumption) : true = false) (by decide) | (refine absurd ?_ h_; focus assumption) | (refine absurd h_ ?_; focus assumption))) <;> (try simp only [h]))
      | (refine callQWc rfl rfl rfl ((ecalls_frz (fun j => j == 8) (E1 _ (by ((try simp only [wM]); (repeat first | rw [if_pos trivial] | rw [if_pos rfl] | rw [if_neg (by omega)])))) hcl).mono ?_); rintro v1 H1 n1 ⟨rfl, rfl, rfl⟩)
      | (refine callQWc (H := frH (fun j => j == 8) s.H) rfl wu_ rfl ((ecalls_frz (fun j => j == 8) (E2 s.H rfl) hcm).mono ?_); rintro v1 H1 n1 ⟨rfl, rfl, rfl⟩)
      | (apply ia_slQ; (focus omega); (exact wd_))
      | (apply ia_mslQ; (focus omega); (exact wf_))
      | (apply ia_aslQ; (focus omega); (exact wd_))
      | (apply fil_part; (exact wu_); (exact wu_); (exact wu_); (focus ((try simp -implicitDefEqProofs only [wY]); rfl)))
      | (apply strAdd; (focus (first | omega | (simp only [wZ] <;> omega))))
      | (apply ldQ_whole)
      | (apply ldQ_sub; (exact wu_); (exact wu_); (focus ((try simp -implicitDefEqProofs only [wE, Nat.reduceAdd]); rfl)))
      | (apply ldQ_obj; (exact wd_); (exact wu_))
      | (apply ldQ_cell; (exact wu_))
      | (apply ldQ_one; (exact wu_))
      | (apply ld_ipQ; (exact wu_))
      | (apply stQ_whole; (exact wu_); (exact wu_))
      | (apply stQ_obj; (exact wf_); (exact wu_); (exact wu_); (focus (intro _; with_unfolding_all rfl)))
      | (apply stQ_one; (exact wu_); (exact wu_); (exact wu_))
      | (apply stQ_cell; (exact wu_); (exact wu_); (exact wu_); (exact wf_))
      | (apply mkQ_T; (exact wf_); (exact wf_); (focus (unfold maxLen; first | omega | (simp only [wZ] <;> omega))))
      | (apply mkQ_F; (exact wf_); (exact wf_); (focus (unfold maxLen; first | omega | (simp only [wZ] <;> omega))))
      | (apply callQ0 (hp := yuccalaw3_wakes))
      | (apply callQ2 (hp := graph_Close ?_ ?_ ?_ ?_); (exact we_); (exact we_); rotate_left; (exact wf_); (exact wf_); (exact wf_); (exact wf_))
      | (apply callQ1 (hp := graph_Comps ?_ ?_); (exact we_); rotate_left; (exact wf_); (exact wf_))
      | simp -implicitDefEqProofs (disch := omega) only [w64, if_neg]
     refine post1 rfl (Or.inr rfl) ?_
     simp -implicitDefEqProofs only [wL, seval, g0, g3, g4]
     first | refine er_bool ?_ | refine er_int ?_ | refine er_str ?_ | refine er_sl_eq ?_ | refine er_asl_eq ?_
     try (with_reducible rfl)
   · rw [if_neg hb] at hcl hcm
     have lO := ofL_len n (cloM (relF (mnR n)) n (relF [[7]]))
     have hO : (ofL n (cloM (relF (mnR n)) n (relF [[7]])))[n - 1]? = some [7] := by
      unfold ofL
      rw [List.getElem?_map, List.getElem?_range (by omega), Option.map_some, mn_clo (by omega)]
     have lC : ((compM (relF (mnR n)) n).map natI).length = n := by rw [List.length_map, mn_single]
     generalize ofL n (cloM (relF (mnR n)) n (relF [[7]])) = O at *
     generalize (compM (relF (mnR n)) n).map natI = C at *
     have hzn1 : IntKind.i64.wrap ((n : Int) - 1) = ((n - 1 : Nat) : Int) := by rw [wrap64 (by omega) (by omega)]; omega
     have hei := yuccaref0_EqInts (a := [7]) (b := [7]) (by decide) (by decide)
     rw [decide_eq_true rfl] at hei
     repeat' with_reducible first
      | refine s_ ?_
      | refine s_ ?_
      | refine s_ ?_
      | simp -implicitDefEqProofs only [wS, wT, wU, wV, wW, wX, wY, wC, wF, wG, wL, wM, wN, seval, Int.cast_ofNat_Int, Int.reduceLT, Int.reduceLE, Int.reduceEq, Int.reduceToNat, decide_true, decide_false, Bool.false_eq_true, g0, g3, g4, lO, lC, hzn1]
      | (refine condQ_j (fun h h_ => ?_) (fun h h_ => ?_) <;> (try simp only [wD, reduceCtorEq] at h_) <;> (try (exfalso; first | omega | exact absurd (Eq.trans (Eq.symm h_) (by assumption) : false = true) (by decide) | exact absurd (Eq.trans (Eq.symm h_) (by assumption) : true = false) (by decide) | (refine absurd ?_ h_; focus assumption) | (refine absurd h_ ?_; focus assumption))) <;> (try simp only [h]))
      | ((first | refine gdQ_iT (fun h => ?_) (fun h => ?_) | refine gdQ_iF (fun h => ?_) (fun h => ?_)) <;> have h_ := h <;> (try simp only [wD, reduceCtorEq] at h_) <;> (try (exfalso; first | omega | exact absurd (Eq.trans (Eq.symm h_) (by assumption) : false = true) (by decide) | exact absurd (Eq.trans (Eq.symm h_) (by assumption) : true = false) (by decide) | (refine absurd ?_ h_; focus assumption) | (refine absurd h_ ?_; focus assumption))) <;> (try simp only [h]))
      | (refine callQWc rfl rfl rfl ((ecalls_frz (fun j => j == 8) (E1 _ (by ((try simp only [wM]); (repeat first | rw [if_pos trivial] | rw [if_pos rfl] | rw [if_neg (by omega)])))) hcl).mono ?_); rintro v1 H1 n1 ⟨rfl, rfl, rfl⟩)
      | (refine callQWc (H := frH (fun j => j == 8) s.H) rfl wu_ rfl ((ecalls_frz (fun j => j == 8) (E2 s.H rfl) hcm).mono ?_); rintro v1 H1 n1 ⟨rfl, rfl, rfl⟩)
      | (apply ia_slQ; (focus omega); (focus with_unfolding_all exact hO))
      | (apply callQ2 (hp := hei); (focus with_unfolding_all exact er_lc1 [7]); (focus with_unfolding_all exact er_lc1 [7]))
      | (apply ia_slQ; (focus omega); (exact wd_))
      | (apply ia_mslQ; (focus omega); (exact wf_))
      | (apply ia_aslQ; (focus omega); (exact wd_))
      | (apply fil_part; (exact wu_); (exact wu_); (exact wu_); (focus ((try simp -implicitDefEqProofs only [wY]); rfl)))
      | (apply strAdd; (focus (first | omega | (simp only [wZ] <;> omega))))
      | (apply ldQ_whole)
      | (apply ldQ_sub; (exact wu_); (exact wu_); (focus ((try simp -implicitDefEqProofs only [wE, Nat.reduceAdd]); rfl)))
      | (apply ldQ_obj; (exact wd_); (exact wu_))
      | (apply ldQ_cell; (exact wu_))
      | (apply ldQ_one; (exact wu_))
      | (apply ld_ipQ; (exact wu_))
      | (apply stQ_whole; (exact wu_); (exact wu_))
      | (apply stQ_obj; (exact wf_); (exact wu_); (exact wu_); (focus (intro _; with_unfolding_all rfl)))
      | (apply stQ_one; (exact wu_); (exact wu_); (exact wu_))
      | (apply stQ_cell; (exact wu_); (exact wu_); (exact wu_); (exact wf_))
      | (apply mkQ_T; (exact wf_); (exact wf_); (focus (unfold maxLen; first | omega | (simp only [wZ] <;> omega))))
      | (apply mkQ_F; (exact wf_); (exact wf_); (focus (unfold maxLen; first | omega | (simp only [wZ] <;> omega))))
      | (apply callQ0 (hp := yuccalaw3_wakes))
      | (apply callQ2 (hp := graph_Close ?_ ?_ ?_ ?_); (exact we_); (exact we_); rotate_left; (exact wf_); (exact wf_); (exact wf_); (exact wf_))
      | (apply callQ1 (hp := graph_Comps ?_ ?_); (exact we_); rotate_left; (exact wf_); (exact wf_))
      | simp -implicitDefEqProofs (disch := omega) only [w64, if_neg]
     refine post1 rfl (Or.inr rfl) ?_
     simp -implicitDefEqProofs only [wL, seval, g0, g3, g4]
     first | refine er_bool ?_ | refine er_int ?_ | refine er_str ?_ | refine er_sl_eq ?_ | refine er_asl_eq ?_
     try (with_reducible rfl)
end Go.Proofs
