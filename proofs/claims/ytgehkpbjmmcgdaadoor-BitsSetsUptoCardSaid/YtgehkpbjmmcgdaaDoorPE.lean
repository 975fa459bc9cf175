/-
  Part of a proof that a law of the given program answers true: contracts of its functions, and the law. Holds for inputs of at most 1048576 values and letters in all.
-/
import Derived.Test.YtgehkpbjmmcgdaaDoorPA
import Derived.Test.YtgehkpbjmmcgdaaDoorPD
namespace Go.Proofs
open Go.E
/- (yucca/bits.Set).List -/
@[reducible] def e12mr0 : List Ins := [
  ⟨(some 1), none, .box 16 (.t 0), .any⟩,
  ⟨(some 2), none, .mov (.c (.sl 1 true [])), .any⟩]
@[reducible] def e12mr1 : List Ins := [
  ⟨(some 3), none, .mov (.c (.sl 1 true [])), .any⟩]
@[reducible] def e12mr2 : List Ins := [
  ⟨(some 6), none, .faddr 0 (.t 1), .any⟩,
  ⟨(some 7), none, .load true 16 (.t 6), .any⟩,
  ⟨(some 8), none, .mov (.c (.int .i64 0)), .any⟩]
@[reducible] def e12mr3 : List Ins := [
  ⟨(some 9), none, .bin .lss (.t 8) (.c (.int .i64 16)), .any⟩]
@[reducible] def e12mn4 : EC := .cond (.t 9) .skip (.exit 0)
@[reducible] def e12mr5 : List Ins := [
  ⟨(some 10), none, .mov (.t 8), .any⟩,
  ⟨(some 11), none, .idxA false 16 1 (.t 7) (.t 8), .any⟩,
  ⟨(some 4), none, .mov (.t 10), .any⟩,
  ⟨(some 5), none, .mov (.t 11), .any⟩]
@[reducible] def e12mr6 : List Ins := [
  ⟨(some 12), none, .mov (.t 5), .any⟩,
  ⟨(some 13), none, .bin .neq (.t 12) (.c (.int .u64 0)), .any⟩]
@[reducible] def e12mn7 : EC := .cond (.t 13) .skip (.exit 2)
@[reducible] def e12mn8 : EC := .seq (.reg e12mr6) e12mn7
@[reducible] def e12mr9 : List Ins := [
  ⟨(some 18), none, .mov (.t 3), .any⟩,
  ⟨(some 19), none, .mov (.t 4), .any⟩,
  ⟨(some 20), none, .bin .mul (.t 19) (.c (.int .i64 64)), .any⟩,
  ⟨(some 21), none, .mov (.t 5), .any⟩,
  ⟨(some 22), none, .call (.c (.fn 28 [])) [(.t 21)], .any⟩,
  ⟨(some 23), none, .bin .add (.t 20) (.t 22), .any⟩,
  ⟨(some 24), none, .lit false 1 false (.int .i64 0) 1 [(0, (.t 23))], .any⟩,
  ⟨(some 25), none, .append true 1 8 (.t 18) (.t 24), .any⟩,
  ⟨(some 3), none, .mov (.t 25), .any⟩]
@[reducible] def e12mn10 : EC := .block 3 (.reg e12mr9)
@[reducible] def e12mr11 : List Ins := [
  ⟨(some 14), none, .mov (.t 5), .any⟩,
  ⟨(some 15), none, .mov (.t 5), .any⟩,
  ⟨(some 16), none, .bin .sub (.t 15) (.c (.int .u64 1)), .any⟩,
  ⟨(some 17), none, .bin .and (.t 14) (.t 16), .any⟩,
  ⟨(some 5), none, .mov (.t 17), .any⟩]
@[reducible] def e12mn12 : EC := .seq e12mn10 (.reg e12mr11)
@[reducible] def e12mn13 : EC := .seq e12mn8 e12mn12
@[reducible] def e12mn14 : EC := .loop e12mn13
@[reducible] def e12mn15 : EC := .block 2 e12mn14
@[reducible] def e12mn16 : EC := .seq (.reg e12mr5) e12mn15
@[reducible] def e12mn17 : EC := .block 1 e12mn16
@[reducible] def e12mr18 : List Ins := [
  ⟨(some 26), none, .bin .add (.t 8) (.c (.int .i64 1)), .any⟩,
  ⟨(some 8), none, .mov (.t 26), .any⟩]
@[reducible] def e12mn19 : EC := .seq e12mn17 (.reg e12mr18)
@[reducible] def e12mn20 : EC := .seq e12mn4 e12mn19
@[reducible] def e12mn21 : EC := .seq (.reg e12mr3) e12mn20
@[reducible] def e12mn22 : EC := .loop e12mn21
@[reducible] def e12mn23 : EC := .block 0 e12mn22
@[reducible] def e12mn24 : EC := .seq (.reg e12mr2) e12mn23
@[reducible] def e12mr25 : List Ins := [
  ⟨(some 27), none, .mov (.t 3), .any⟩,
  ⟨(some 2), none, .mov (.t 27), .any⟩]
@[reducible] def e12mn26 : EC := .seq (.reg e12mr25) .ret
@[reducible] def e12mn27 : EC := .seq e12mn24 e12mn26
@[reducible] def e12mn28 : EC := .seq (.reg e12mr1) e12mn27
@[reducible] def e12mn29 : EC := .seq (.reg e12mr0) e12mn28
@[reducible] def e12m : EF := ⟨28, 1, [(.inl 2)], e12mn29⟩
theorem e12m_ok : compFn Tryd.prog { mu := fun t => [25].contains t } Tryd.f12 = some e12m := by kernel_rfl
end Go.Proofs

set_option linter.unusedSimpArgs false
set_option linter.unusedVariables false
namespace Go.Proofs
open Go.E

theorem callQX {P : Program} [Glob P] {id : Nat} {s : St} {K : V → St → Prop} {f : FuncId} {vs : List V} {H : Nat → Option MObj} {N : Nat} (hH : s.H = H) (hN : s.next = N) (h : ECalls P f vs H N fun v H' next' => K v { s with H := H', next := next' }) : callQ P .any id s K f vs := by
  subst hN; exact callQW hH h
/-- What is told of a list that a call makes, and that may be written over. -/
abbrev MadeInts (H : Nat → Option MObj) (next : Nat) (l : List Int) (v : V) (H' : Nat → Option MObj) (next' : Nat) : Prop :=
  next ≤ next' ∧ (∀ j, j < next → H' j = H j) ∧ GrM H' next next' 1 (l.map (V.int .i64)) v

theorem listE {m : Nat → Bool} {H : Nat → Option MObj} {next : Nat}  : ECalls Tryd.prog 12 [setC m] H next (MadeInts H next (lst m 1024)) := by
  refine ecalls_intro Tryd.func12 e12_nm e12m_ok (by show 1 ≤ 28; decide) ?_
  show ewp _ e12mn29 _ _
  repeat' with_reducible first
    | refine ewp_reg_seq ?_ | refine ewp_seq ?_ | refine ewp_reg ?_ | refine ewp_skip ?_ | refine ewp_ret ?_ | refine ewp_block ?_ | refine ewp_exit ?_ | refine xt_n ?_ | refine xt_r ?_ | refine xt_e ?_ | refine xb_n ?_ | refine xb_r ?_ | refine xb_e ?_ | refine xb_x (by decide) ?_
    | refine ewp_condQ ?_ | refine condQ_T ?_ | refine condQ_F ?_
    | simp -implicitDefEqProofs only [wS, wT, wU, wV, wW, wX, wY, wL, wM, wN, Nat.reduceEqDiff, ↓reduceIte, reduceCtorEq, Nat.reduceAdd, Int.cast_ofNat_Int, Int.reduceLT, Int.reduceLE, Int.reduceEq, Int.reduceToNat, decide_true, decide_false, Bool.false_eq_true]
    | (refine condQ_i (fun h => ?_) (fun h => ?_) <;> have h_ := h <;> (try simp only [wD, reduceCtorEq] at h_) <;> (try (exfalso; first | omega | (refine absurd ?_ h_; focus assumption) | (refine absurd h_ ?_; focus assumption))) <;> (try simp only [h]))
    | (apply boxQ_i; (focus (with_unfolding_all exact cellsW_len _)); (focus with_unfolding_all rfl))
    | (apply ldQ_whole)
    | (apply appQ_C; (focus (first | exact SrcN.sl | exact SrcN.asl | exact SrcN.str)); (focus (first | assumption | omega | (simp only [wZ]; omega) | trivial)); (focus (unfold maxLen; first | omega | (simp only [wZ]; omega))))
    | (refine app_asl ?_; simp -implicitDefEqProofs only [wM, wN, Nat.reduceEqDiff, ↓reduceIte, reduceCtorEq]; apply appT_i; (focus (first | exact SrcN.sl | exact SrcN.asl | exact SrcN.str)); (focus (first | assumption | omega | (simp only [wZ]; omega) | trivial)); (focus (unfold maxLen; first | omega | (simp only [wZ]; omega))))
    | (apply ldQ_whole)
    | (apply ldQ_obj; (focus (first | assumption | exact List.getElem?_eq_getElem (by omega) | rfl)); (focus with_unfolding_all rfl))
    | (apply ldQ_cell; (focus with_unfolding_all rfl))
    | (apply ldQ_one; (focus with_unfolding_all rfl))
    | (apply ld_ipQ; (focus with_unfolding_all rfl))
    | (apply boxQ_i; (focus with_unfolding_all rfl); (focus with_unfolding_all rfl))
    | (apply callQ1 (hp := math_bits_TrailingZeros64 ?_ ?_); (focus (first | exact er_intsL | exact er_cl | exact er_sl | exact er_asl)); rotate_left; (focus (first | assumption | omega | (simp only [wZ]; omega) | trivial)); (focus (first | assumption | omega | (simp only [wZ]; omega) | trivial)))
    | simp -implicitDefEqProofs (disch := omega) only [w64, if_neg]
  refine ewp_loopN ?nx1 (fun (k : Nat) s => s.f 7 = ?v1_7 ∧ s.f 8 = vi k ∧ (k ≤ 16) ∧ ((∃ v, s.f 3 = v ∧ GrM s.H (next + 2) s.next 1 ((lst m (64 * k)).map (V.int .i64)) v)) ∧ ((∀ j, j < next → s.H j = H j))) (fun k => 16 - k) (0) (by simp -implicitDefEqProofs only [wN, Nat.reduceAdd, Nat.zero_add]; exact Nat.le_refl _) (by refine ⟨?_, ?_, (by first | omega | (simp; done) | assumption), (by exact ⟨_, rfl, Or.inl ⟨rfl, rfl⟩⟩), (by intro j hj; simp only [wM]; rw [if_neg (by omega)])⟩ <;> first | (simp -implicitDefEqProofs only [wL, wM, wN, wX, Nat.reduceEqDiff, ↓reduceIte, reduceCtorEq, Nat.reduceAdd, Option.some.injEq] <;> first | rfl | exact ⟨_, rfl⟩ | exact ⟨_, rfl, by first | assumption | exact Gr.nil | exact Gr.tok rfl (by omega) | exact Gr.tok (by simp -implicitDefEqProofs only [wM, Nat.reduceEqDiff, ↓reduceIte, reduceCtorEq] <;> rfl) (by omega) | exact Gr.clip⟩) | rfl | exact ⟨_, rfl⟩) ?_
  intro k s hnx ⟨g7, g8, k1_0, k1_1, k1_2⟩
  obtain ⟨v3, g3, G3⟩ := k1_1
  by_cases hk : k < 16
  · have hw := word_lt m k
    have hlk := lst_len m (64 * k)
    repeat' with_reducible first
      | refine ewp_reg_seq ?_ | refine ewp_seq ?_ | refine ewp_reg ?_ | refine ewp_skip ?_ | refine ewp_ret ?_ | refine ewp_block ?_ | refine ewp_exit ?_ | refine xt_n ?_ | refine xt_r ?_ | refine xt_e ?_ | refine xb_n ?_ | refine xb_r ?_ | refine xb_e ?_ | refine xb_x (by decide) ?_
      | refine ewp_condQ ?_ | refine condQ_T ?_ | refine condQ_F ?_
      | simp -implicitDefEqProofs only [wS, wT, wU, wV, wW, wX, wY, wL, wM, wN, Nat.reduceEqDiff, ↓reduceIte, reduceCtorEq, Nat.reduceAdd, Int.cast_ofNat_Int, Int.reduceLT, Int.reduceLE, Int.reduceEq, Int.reduceToNat, decide_true, decide_false, Bool.false_eq_true, g7, g8, g3, G3.len]
      | (refine condQ_i (fun h => ?_) (fun h => ?_) <;> have h_ := h <;> (try simp only [wD, reduceCtorEq] at h_) <;> (try (exfalso; first | omega | (refine absurd ?_ h_; focus assumption) | (refine absurd h_ ?_; focus assumption))) <;> (try simp only [h]))
      | refine onS_i (ixA_1 (by omega) (cellsW_get _ (by omega))) ?_
      | (apply appQ_C; (focus (first | exact SrcN.sl | exact SrcN.asl | exact SrcN.str)); (focus (first | assumption | omega | (simp only [wZ]; omega) | trivial)); (focus (unfold maxLen; first | omega | (simp only [wZ]; omega))))
      | (refine app_asl ?_; simp -implicitDefEqProofs only [wM, wN, Nat.reduceEqDiff, ↓reduceIte, reduceCtorEq, g7, g8, g3, G3.len]; apply appT_i; (focus (first | exact SrcN.sl | exact SrcN.asl | exact SrcN.str)); (focus (first | assumption | omega | (simp only [wZ]; omega) | trivial)); (focus (unfold maxLen; first | omega | (simp only [wZ]; omega))))
      | (apply ldQ_whole)
      | (apply ldQ_obj; (focus (first | assumption | exact List.getElem?_eq_getElem (by omega) | rfl)); (focus with_unfolding_all rfl))
      | (apply ldQ_cell; (focus with_unfolding_all rfl))
      | (apply ldQ_one; (focus with_unfolding_all rfl))
      | (apply ld_ipQ; (focus with_unfolding_all rfl))
      | (apply boxQ_i; (focus with_unfolding_all rfl); (focus with_unfolding_all rfl))
      | (apply callQ1 (hp := math_bits_TrailingZeros64 ?_ ?_); (focus (first | exact er_intsL | exact er_cl | exact er_sl | exact er_asl)); rotate_left; (focus (first | assumption | omega | (simp only [wZ]; omega) | trivial)); (focus (first | assumption | omega | (simp only [wZ]; omega) | trivial)))
      | simp -implicitDefEqProofs (disch := omega) only [w64, if_neg]
    refine ewp_loopN ?nx2 (fun (p : Nat × Nat) s => s.f 4 = ?v2_4 ∧ s.f 7 = ?v2_7 ∧ s.f 8 = ?v2_8 ∧ s.f 5 = .int .u64 (p.2 : Int) ∧ (p.1 ≤ 64) ∧ (p.2 < 18446744073709551616) ∧ ((∀ b, b < 64 → p.2.testBit b = (decide (p.1 ≤ b) && m (64 * k + b)))) ∧ ((∃ v, s.f 3 = v ∧ GrM s.H (next + 2) s.next 1 ((lst m (64 * k + p.1)).map (V.int .i64)) v)) ∧ ((∀ j, j < next → s.H j = H j))) (fun p => 64 - p.1) ((0, word m k)) (by simp -implicitDefEqProofs only [wN, Nat.reduceAdd, Nat.zero_add]; exact Nat.le_refl _) (by refine ⟨?_, ?_, ?_, ?_, (by first | omega | (simp; done) | assumption), (by first | omega | (simp; done) | assumption), (by intro b hb; rw [word_bit _ _ _ hb]; simp), (by exact ⟨v3, by simp only [wL, Nat.reduceEqDiff, ↓reduceIte, g3], G3.keep rfl (by simp only [wN]; omega) (fun j h1 h2 => by simp only [wM])⟩), (by intro j hj; simp only [wM]; exact k1_2 j hj)⟩ <;> first | (simp -implicitDefEqProofs only [wL, wM, wN, wX, Nat.reduceEqDiff, ↓reduceIte, reduceCtorEq, Nat.reduceAdd, Option.some.injEq, g7, g8] <;> first | rfl | exact ⟨_, rfl⟩ | exact ⟨_, rfl, by first | assumption | exact Gr.nil | exact Gr.tok rfl (by omega) | exact Gr.tok (by simp -implicitDefEqProofs only [wM, Nat.reduceEqDiff, ↓reduceIte, reduceCtorEq] <;> rfl) (by omega) | exact Gr.clip⟩) | rfl | exact ⟨_, rfl⟩) ?_
    intro p s hnx ⟨g4, g7, g8, g5, k2_0, k2_1, k2_2, k2_3, k2_4⟩
    obtain ⟨c, u⟩ := p
    dsimp only at g5 k2_0 k2_1 k2_2 k2_3
    obtain ⟨v3, g3, G3⟩ := k2_3
    have hlc := lst_len m (64 * k + c)
    by_cases hu : u = 0
    · have hn : lst m (64 * (k + 1)) = lst m (64 * k + c) := by
        have := lst_none (m := m) (64 * k + c) (64 - c) (fun y h1 h2 => by
          have := k2_2 (y - 64 * k) (by omega)
          simp only [hu, Nat.zero_testBit] at this
          have e : 64 * k + (y - 64 * k) = y := by omega
          rw [e] at this
          have h3 : c ≤ y - 64 * k := by omega
          simpa [h3] using this.symm)
        rw [show 64 * k + c + (64 - c) = 64 * (k + 1) by omega] at this
        exact this
      subst hu
      repeat' with_reducible first
        | refine ewp_reg_seq ?_ | refine ewp_seq ?_ | refine ewp_reg ?_ | refine ewp_skip ?_ | refine ewp_ret ?_ | refine ewp_block ?_ | refine ewp_exit ?_ | refine xt_n ?_ | refine xt_r ?_ | refine xt_e ?_ | refine xb_n ?_ | refine xb_r ?_ | refine xb_e ?_ | refine xb_x (by decide) ?_
        | refine ewp_condQ ?_ | refine condQ_T ?_ | refine condQ_F ?_
        | simp -implicitDefEqProofs only [wS, wT, wU, wV, wW, wX, wY, wL, wM, wN, Nat.reduceEqDiff, ↓reduceIte, reduceCtorEq, Nat.reduceAdd, Int.cast_ofNat_Int, Int.reduceLT, Int.reduceLE, Int.reduceEq, Int.reduceToNat, decide_true, decide_false, Bool.false_eq_true, g4, g7, g8, g5, g3]
        | (refine condQ_i (fun h => ?_) (fun h => ?_) <;> have h_ := h <;> (try simp only [wD, reduceCtorEq] at h_) <;> (try (exfalso; first | omega | (refine absurd ?_ h_; focus assumption) | (refine absurd h_ ?_; focus assumption))) <;> (try simp only [h]))
        | (apply appQ_C; (focus (first | exact SrcN.sl | exact SrcN.asl | exact SrcN.str)); (focus (first | assumption | omega | (simp only [wZ]; omega) | trivial)); (focus (unfold maxLen; first | omega | (simp only [wZ]; omega))))
        | (refine app_asl ?_; simp -implicitDefEqProofs only [wM, wN, Nat.reduceEqDiff, ↓reduceIte, reduceCtorEq, g4, g7, g8, g5, g3]; apply appT_i; (focus (first | exact SrcN.sl | exact SrcN.asl | exact SrcN.str)); (focus (first | assumption | omega | (simp only [wZ]; omega) | trivial)); (focus (unfold maxLen; first | omega | (simp only [wZ]; omega))))
        | (apply ldQ_whole)
        | (apply ldQ_obj; (focus (first | assumption | exact List.getElem?_eq_getElem (by omega) | rfl)); (focus with_unfolding_all rfl))
        | (apply ldQ_cell; (focus with_unfolding_all rfl))
        | (apply ldQ_one; (focus with_unfolding_all rfl))
        | (apply ld_ipQ; (focus with_unfolding_all rfl))
        | (apply boxQ_i; (focus with_unfolding_all rfl); (focus with_unfolding_all rfl))
        | (apply callQ1 (hp := math_bits_TrailingZeros64 ?_ ?_); (focus (first | exact er_intsL | exact er_cl | exact er_sl | exact er_asl)); rotate_left; (focus (first | assumption | omega | (simp only [wZ]; omega) | trivial)); (focus (first | assumption | omega | (simp only [wZ]; omega) | trivial)))
        | simp -implicitDefEqProofs (disch := omega) only [w64, if_neg]
      refine ⟨(by first | assumption | omega | (simp -implicitDefEqProofs only [wN]; omega)), k + 1, (by omega), ?_⟩
      refine ⟨?_, ?_, ?_, ?_, ?_⟩
      iterate 2 (focus (first | (simp -implicitDefEqProofs only [wL, wM, wN, wX, Nat.reduceEqDiff, ↓reduceIte, reduceCtorEq, Nat.reduceAdd, Option.some.injEq, g4, g7, g8, g5, hn, g3] <;> first | rfl | exact ⟨_, rfl⟩ | exact ⟨_, rfl, by first | assumption | exact Gr.nil | exact Gr.tok rfl (by omega) | exact Gr.tok (by simp -implicitDefEqProofs only [wM, Nat.reduceEqDiff, ↓reduceIte, reduceCtorEq] <;> rfl) (by omega) | exact Gr.clip⟩) | rfl | exact ⟨_, rfl⟩))
      all_goals try omega
      · exact ⟨_, rfl, G3.keep (by rw [hn]) (by omega) (fun j h1 h2 => rfl)⟩
    · have ht := ctz_bits hu k2_1
      generalize hT : Lib.ctz 64 u = t at ht
      obtain ⟨t1, t2, t3, t4, t5⟩ := ht
      have hc : c ≤ t := by
        rcases Nat.lt_or_ge t c with h | h
        · have := k2_2 t t1
          rw [t2] at this
          simp [Nat.not_le.2 h] at this
        · exact h
      have hmt : m (64 * k + t) = true := by
        have := k2_2 t t1
        rw [t2] at this
        simpa [hc] using this.symm
      have hn : lst m (64 * k + (t + 1)) = lst m (64 * k + c) ++ [((64 * k + t : Nat) : Int)] := by
        rw [← Nat.add_assoc, lst_one hmt]
        congr 1
        have := lst_none (m := m) (64 * k + c) (t - c) (fun y h1 h2 => by
          have := k2_2 (y - 64 * k) (by omega)
          rw [t3 _ (by omega)] at this
          have e : 64 * k + (y - 64 * k) = y := by omega
          rw [e] at this
          have h3 : c ≤ y - 64 * k := by omega
          simpa [h3] using this.symm)
        rw [show 64 * k + c + (t - c) = 64 * k + t by omega] at this
        exact this
      have hlt : (u &&& (u - 1)) < 18446744073709551616 := Nat.and_lt_two_pow (n := 64) _ (by omega)
      have hz : ((k : Int) * 64 + (t : Int)) = ((64 * k + t : Nat) : Int) := by omega
      have hsub := wrapU1 t4 k2_1
      repeat' with_reducible first
        | refine ewp_reg_seq ?_ | refine ewp_seq ?_ | refine ewp_reg ?_ | refine ewp_skip ?_ | refine ewp_ret ?_ | refine ewp_block ?_ | refine ewp_exit ?_ | refine xt_n ?_ | refine xt_r ?_ | refine xt_e ?_ | refine xb_n ?_ | refine xb_r ?_ | refine xb_e ?_ | refine xb_x (by decide) ?_
        | refine ewp_condQ ?_ | refine condQ_T ?_ | refine condQ_F ?_
        | simp -implicitDefEqProofs only [wS, wT, wU, wV, wW, wX, wY, wL, wM, wN, Nat.reduceEqDiff, ↓reduceIte, reduceCtorEq, Nat.reduceAdd, Int.cast_ofNat_Int, Int.reduceLT, Int.reduceLE, Int.reduceEq, Int.reduceToNat, decide_true, decide_false, Bool.false_eq_true, g4, g7, g8, g5, hT, hz, hsub, g3]
        | (refine condQ_i (fun h => ?_) (fun h => ?_) <;> have h_ := h <;> (try simp only [wD, reduceCtorEq] at h_) <;> (try (exfalso; first | omega | (refine absurd ?_ h_; focus assumption) | (refine absurd h_ ?_; focus assumption))) <;> (try simp only [h]))
        | refine onS_i (u_and (by omega) (by omega)) ?_
        | (rw [hz])
        | (apply appQ_M (hg := G3); focus rfl; focus (first | rfl | (simp only [wM]; done)); focus exact SrcN.sl; focus (simp only [wZ]; omega); focus (unfold maxLen; simp only [wZ]; omega); focus (intro H1 h1 h2))
        | (apply appQ_C; (focus (first | exact SrcN.sl | exact SrcN.asl | exact SrcN.str)); (focus (first | assumption | omega | (simp only [wZ]; omega) | trivial)); (focus (unfold maxLen; first | omega | (simp only [wZ]; omega))))
        | (refine app_asl ?_; simp -implicitDefEqProofs only [wM, wN, Nat.reduceEqDiff, ↓reduceIte, reduceCtorEq, g4, g7, g8, g5, hT, hz, hsub, g3]; apply appT_i; (focus (first | exact SrcN.sl | exact SrcN.asl | exact SrcN.str)); (focus (first | assumption | omega | (simp only [wZ]; omega) | trivial)); (focus (unfold maxLen; first | omega | (simp only [wZ]; omega))))
        | (apply ldQ_whole)
        | (apply ldQ_obj; (focus (first | assumption | exact List.getElem?_eq_getElem (by omega) | rfl)); (focus with_unfolding_all rfl))
        | (apply ldQ_cell; (focus with_unfolding_all rfl))
        | (apply ldQ_one; (focus with_unfolding_all rfl))
        | (apply ld_ipQ; (focus with_unfolding_all rfl))
        | (apply boxQ_i; (focus with_unfolding_all rfl); (focus with_unfolding_all rfl))
        | (apply callQ1 (hp := math_bits_TrailingZeros64 ?_ ?_); (focus (first | exact er_intsL | exact er_cl | exact er_sl | exact er_asl)); rotate_left; (focus (first | assumption | omega | (simp only [wZ]; omega) | trivial)); (focus (first | assumption | omega | (simp only [wZ]; omega) | trivial)))
        | simp -implicitDefEqProofs (disch := omega) only [w64, if_neg]
      apply appQ_M (hg := G3)
      · rfl
      · first | rfl | (simp only [wM]; done)
      · exact SrcN.sl
      · simp only [wZ]; omega
      · unfold maxLen; simp only [wZ]; omega
      intro H1 h1 h2
      simp only [wM] at h2
      repeat' with_reducible first
        | refine ewp_reg_seq ?_ | refine ewp_seq ?_ | refine ewp_reg ?_ | refine ewp_skip ?_ | refine ewp_ret ?_ | refine ewp_block ?_ | refine ewp_exit ?_ | refine xt_n ?_ | refine xt_r ?_ | refine xt_e ?_ | refine xb_n ?_ | refine xb_r ?_ | refine xb_e ?_ | refine xb_x (by decide) ?_
        | refine ewp_condQ ?_ | refine condQ_T ?_ | refine condQ_F ?_
        | simp -implicitDefEqProofs only [wS, wT, wU, wV, wW, wX, wY, wL, wM, wN, Nat.reduceEqDiff, ↓reduceIte, reduceCtorEq, Nat.reduceAdd, Int.cast_ofNat_Int, Int.reduceLT, Int.reduceLE, Int.reduceEq, Int.reduceToNat, decide_true, decide_false, Bool.false_eq_true, g4, g7, g8, g5, g3, hsub]
        | (refine condQ_i (fun h => ?_) (fun h => ?_) <;> have h_ := h <;> (try simp only [wD, reduceCtorEq] at h_) <;> (try (exfalso; first | omega | (refine absurd ?_ h_; focus assumption) | (refine absurd h_ ?_; focus assumption))) <;> (try simp only [h]))
        | refine onS_i (u_and (by omega) (by omega)) ?_
        | (apply appQ_C; (focus (first | exact SrcN.sl | exact SrcN.asl | exact SrcN.str)); (focus (first | assumption | omega | (simp only [wZ]; omega) | trivial)); (focus (unfold maxLen; first | omega | (simp only [wZ]; omega))))
        | (refine app_asl ?_; simp -implicitDefEqProofs only [wM, wN, Nat.reduceEqDiff, ↓reduceIte, reduceCtorEq, g4, g7, g8, g5, g3, hsub]; apply appT_i; (focus (first | exact SrcN.sl | exact SrcN.asl | exact SrcN.str)); (focus (first | assumption | omega | (simp only [wZ]; omega) | trivial)); (focus (unfold maxLen; first | omega | (simp only [wZ]; omega))))
        | (apply ldQ_whole)
        | (apply ldQ_obj; (focus (first | assumption | exact List.getElem?_eq_getElem (by omega) | rfl)); (focus with_unfolding_all rfl))
        | (apply ldQ_cell; (focus with_unfolding_all rfl))
        | (apply ldQ_one; (focus with_unfolding_all rfl))
        | (apply ld_ipQ; (focus with_unfolding_all rfl))
        | (apply boxQ_i; (focus with_unfolding_all rfl); (focus with_unfolding_all rfl))
        | (apply callQ1 (hp := math_bits_TrailingZeros64 ?_ ?_); (focus (first | exact er_intsL | exact er_cl | exact er_sl | exact er_asl)); rotate_left; (focus (first | assumption | omega | (simp only [wZ]; omega) | trivial)); (focus (first | assumption | omega | (simp only [wZ]; omega) | trivial)))
        | simp -implicitDefEqProofs (disch := omega) only [w64, if_neg]
      refine ⟨(by first | assumption | omega | (simp -implicitDefEqProofs only [wN]; omega)), (t + 1, u &&& (u - 1)), (by omega), ?_⟩
      refine ⟨?_, ?_, ?_, ?_, ?_, ?_, ?_, ?_, ?_⟩
      iterate 4 (focus (first | (simp -implicitDefEqProofs only [wL, wM, wN, wX, Nat.reduceEqDiff, ↓reduceIte, reduceCtorEq, Nat.reduceAdd, Option.some.injEq, g4, g7, g8, g5, hn, g3] <;> first | rfl | exact ⟨_, rfl⟩ | exact ⟨_, rfl, by first | assumption | exact Gr.nil | exact Gr.tok rfl (by omega) | exact Gr.tok (by simp -implicitDefEqProofs only [wM, Nat.reduceEqDiff, ↓reduceIte, reduceCtorEq] <;> rfl) (by omega) | exact Gr.clip⟩) | rfl | exact ⟨_, rfl⟩))
      all_goals try omega
      · intro b hb
        rw [t5, k2_2 b hb]
        by_cases h1 : b = t
        · subst h1; simp; omega
        · by_cases h2 : t + 1 ≤ b
          · simp [h1, h2, show c ≤ b by omega]
          · have h3 := t3 b (by omega)
            rw [k2_2 b hb] at h3
            simp [h1, h2, h3]
      · refine ⟨_, rfl, Or.inr ⟨s.next + 2 + 7, ?_, ?_, by omega, by omega⟩⟩
        · rw [hn]; simp only [wZ]
        · rw [hn, ← snoc_map]; exact h1
      · intro j hj
        rw [h2 j (by omega) (by omega)]
        exact k2_4 j hj
  · skip
    obtain rfl : k = 16 := by omega
    repeat' with_reducible first
      | refine ewp_reg_seq ?_ | refine ewp_seq ?_ | refine ewp_reg ?_ | refine ewp_skip ?_ | refine ewp_ret ?_ | refine ewp_block ?_ | refine ewp_exit ?_ | refine xt_n ?_ | refine xt_r ?_ | refine xt_e ?_ | refine xb_n ?_ | refine xb_r ?_ | refine xb_e ?_ | refine xb_x (by decide) ?_
      | refine ewp_condQ ?_ | refine condQ_T ?_ | refine condQ_F ?_
      | simp -implicitDefEqProofs only [wS, wT, wU, wV, wW, wX, wY, wL, wM, wN, Nat.reduceEqDiff, ↓reduceIte, reduceCtorEq, Nat.reduceAdd, Int.cast_ofNat_Int, Int.reduceLT, Int.reduceLE, Int.reduceEq, Int.reduceToNat, decide_true, decide_false, Bool.false_eq_true, g7, g8, g3]
      | (refine condQ_i (fun h => ?_) (fun h => ?_) <;> have h_ := h <;> (try simp only [wD, reduceCtorEq] at h_) <;> (try (exfalso; first | omega | (refine absurd ?_ h_; focus assumption) | (refine absurd h_ ?_; focus assumption))) <;> (try simp only [h]))
      | (apply appQ_C; (focus (first | exact SrcN.sl | exact SrcN.asl | exact SrcN.str)); (focus (first | assumption | omega | (simp only [wZ]; omega) | trivial)); (focus (unfold maxLen; first | omega | (simp only [wZ]; omega))))
      | (refine app_asl ?_; simp -implicitDefEqProofs only [wM, wN, Nat.reduceEqDiff, ↓reduceIte, reduceCtorEq, g7, g8, g3]; apply appT_i; (focus (first | exact SrcN.sl | exact SrcN.asl | exact SrcN.str)); (focus (first | assumption | omega | (simp only [wZ]; omega) | trivial)); (focus (unfold maxLen; first | omega | (simp only [wZ]; omega))))
      | (apply ldQ_whole)
      | (apply ldQ_obj; (focus (first | assumption | exact List.getElem?_eq_getElem (by omega) | rfl)); (focus with_unfolding_all rfl))
      | (apply ldQ_cell; (focus with_unfolding_all rfl))
      | (apply ldQ_one; (focus with_unfolding_all rfl))
      | (apply ld_ipQ; (focus with_unfolding_all rfl))
      | (apply boxQ_i; (focus with_unfolding_all rfl); (focus with_unfolding_all rfl))
      | (apply callQ1 (hp := math_bits_TrailingZeros64 ?_ ?_); (focus (first | exact er_intsL | exact er_cl | exact er_sl | exact er_asl)); rotate_left; (focus (first | assumption | omega | (simp only [wZ]; omega) | trivial)); (focus (first | assumption | omega | (simp only [wZ]; omega) | trivial)))
      | simp -implicitDefEqProofs (disch := omega) only [w64, if_neg]
    refine heap1 rfl (Or.inr rfl) ?_
    simp -implicitDefEqProofs only [wL, Nat.reduceEqDiff, ↓reduceIte, reduceCtorEq, g7, g8, g3]
    exact ⟨by (try simp only [wN]); omega, fun j hj => by (try simp only [wM]); exact k1_2 j hj, G3.keep' rfl (by omega) (by (try simp only [wN]); omega) (fun j h1 h2 => by first | rfl | simp only [wM])⟩

theorem spoilM {l : List Int} {id : Nat} {H : Nat → Option MObj} {next : Nat} (hl : l.length ≤ 1099511627776) (ho : H id = some (.own 1 (l.map (V.int .i64)) false)) (hi : id < next) : ECalls Tryd.prog 17 [.msl id 1 0 l.length] H next (fun _ H' next' => next ≤ next' ∧ ∀ j, j < next → j ≠ id → H' j = H j) := by
  refine ecalls_intro Tryd.func17 e17_nm e17_ok (by show 1 ≤ 12; decide) ?_
  show ewp _ e17n11 _ _
  repeat' with_reducible first
    | refine ewp_reg_seq ?_ | refine ewp_seq ?_ | refine ewp_reg ?_ | refine ewp_skip ?_ | refine ewp_ret ?_ | refine ewp_block ?_ | refine ewp_exit ?_ | refine xt_n ?_ | refine xt_r ?_ | refine xt_e ?_ | refine xb_n ?_ | refine xb_r ?_ | refine xb_e ?_ | refine xb_x (by decide) ?_
    | refine ewp_condQ ?_ | refine condQ_T ?_ | refine condQ_F ?_
    | simp -implicitDefEqProofs only [wS, wT, wU, wV, wW, wX, wY, wL, wM, wN, Nat.reduceEqDiff, ↓reduceIte, reduceCtorEq, Nat.reduceAdd, Int.cast_ofNat_Int, Int.reduceLT, Int.reduceLE, Int.reduceEq, Int.reduceToNat, decide_true, decide_false, Bool.false_eq_true]
    | (refine condQ_i (fun h => ?_) (fun h => ?_) <;> have h_ := h <;> (try simp only [wD, reduceCtorEq] at h_) <;> (try (exfalso; first | omega | (refine absurd ?_ h_; focus assumption) | (refine absurd h_ ?_; focus assumption))) <;> (try simp only [h]))
    | (apply ia_slQ; (focus omega); (focus (first | assumption | exact List.getElem?_eq_getElem (by omega) | rfl)))
    | (apply ia_mslQ; (focus omega); (focus (first | assumption | omega | (simp only [wZ]; omega) | trivial)))
    | (apply ia_aslQ; (focus omega); (focus (first | assumption | exact List.getElem?_eq_getElem (by omega) | rfl)))
    | (apply stQ_whole; (focus with_unfolding_all rfl); (focus with_unfolding_all rfl))
    | (apply stQ_obj; (focus (first | assumption | omega | (simp only [wZ]; omega) | trivial)); (focus with_unfolding_all rfl); (focus with_unfolding_all rfl); (focus (intro _; with_unfolding_all rfl)))
    | (apply stQ_one; (focus with_unfolding_all rfl); (focus with_unfolding_all rfl); (focus with_unfolding_all rfl))
    | (apply stQ_cell; (focus with_unfolding_all rfl); (focus with_unfolding_all rfl); (focus with_unfolding_all rfl); (focus (first | assumption | omega | (simp only [wZ]; omega) | trivial)))
    | simp -implicitDefEqProofs (disch := omega) only [w64, if_neg]
  refine ewp_loopN ?nx1 (fun (k : Nat) s => s.f 0 = ?v1_0 ∧ s.f 2 = vi k ∧ (k ≤ l.length) ∧ ((∃ l' : List Int, l'.length = l.length ∧ s.H id = some (.own 1 (l'.map (V.int .i64)) false))) ∧ ((∀ j, j < next → j ≠ id → s.H j = H j))) (fun k => l.length - k) (0) (by simp -implicitDefEqProofs only [wN, Nat.reduceAdd, Nat.zero_add]; exact Nat.le_refl _) (by refine ⟨?_, ?_, (by first | omega | (simp; done) | assumption), (by exact ⟨l, rfl, by simp only [wM]; exact ho⟩), (by intro j h1 h2; simp only [wM])⟩ <;> first | (simp -implicitDefEqProofs only [wL, wM, wN, wX, Nat.reduceEqDiff, ↓reduceIte, reduceCtorEq, Nat.reduceAdd, Option.some.injEq] <;> first | rfl | exact ⟨_, rfl⟩ | exact ⟨_, rfl, by first | assumption | exact Gr.nil | exact Gr.tok rfl (by omega) | exact Gr.tok (by simp -implicitDefEqProofs only [wM, Nat.reduceEqDiff, ↓reduceIte, reduceCtorEq] <;> rfl) (by omega) | exact Gr.clip⟩) | rfl | exact ⟨_, rfl⟩) ?_
  intro k s hnx ⟨g0, g2, k1_0, k1_1, k1_2⟩
  obtain ⟨l', hl', o0⟩ := k1_1
  by_cases hk : k < l.length
  · repeat' with_reducible first
      | refine ewp_reg_seq ?_ | refine ewp_seq ?_ | refine ewp_reg ?_ | refine ewp_skip ?_ | refine ewp_ret ?_ | refine ewp_block ?_ | refine ewp_exit ?_ | refine xt_n ?_ | refine xt_r ?_ | refine xt_e ?_ | refine xb_n ?_ | refine xb_r ?_ | refine xb_e ?_ | refine xb_x (by decide) ?_
      | refine ewp_condQ ?_ | refine condQ_T ?_ | refine condQ_F ?_
      | simp -implicitDefEqProofs only [wS, wT, wU, wV, wW, wX, wY, wL, wM, wN, Nat.reduceEqDiff, ↓reduceIte, reduceCtorEq, Nat.reduceAdd, Int.cast_ofNat_Int, Int.reduceLT, Int.reduceLE, Int.reduceEq, Int.reduceToNat, decide_true, decide_false, Bool.false_eq_true, g0, g2, o0]
      | (refine condQ_i (fun h => ?_) (fun h => ?_) <;> have h_ := h <;> (try simp only [wD, reduceCtorEq] at h_) <;> (try (exfalso; first | omega | (refine absurd ?_ h_; focus assumption) | (refine absurd h_ ?_; focus assumption))) <;> (try simp only [h]))
      | (apply ia_slQ; (focus omega); (focus (first | assumption | exact List.getElem?_eq_getElem (by omega) | rfl)))
      | (apply ia_mslQ; (focus omega); (focus (first | assumption | omega | (simp only [wZ]; omega) | trivial)))
      | (apply ia_aslQ; (focus omega); (focus (first | assumption | exact List.getElem?_eq_getElem (by omega) | rfl)))
      | (apply stQ_whole; (focus with_unfolding_all rfl); (focus with_unfolding_all rfl))
      | (apply stQ_obj; (focus (first | assumption | omega | (simp only [wZ]; omega) | trivial)); (focus with_unfolding_all rfl); (focus with_unfolding_all rfl); (focus (intro _; with_unfolding_all rfl)))
      | (apply stQ_one; (focus with_unfolding_all rfl); (focus with_unfolding_all rfl); (focus with_unfolding_all rfl))
      | (apply stQ_cell; (focus with_unfolding_all rfl); (focus with_unfolding_all rfl); (focus with_unfolding_all rfl); (focus (first | assumption | omega | (simp only [wZ]; omega) | trivial)))
      | simp -implicitDefEqProofs (disch := omega) only [w64, if_neg]
    refine ⟨(by first | assumption | omega | (simp -implicitDefEqProofs only [wN]; omega)), k + 1, (by omega), ?_⟩
    refine ⟨?_, ?_, ?_, ?_, ?_⟩
    iterate 2 (focus (first | (simp -implicitDefEqProofs only [wL, wM, wN, wX, Nat.reduceEqDiff, ↓reduceIte, reduceCtorEq, Nat.reduceAdd, Option.some.injEq, g0, g2, o0] <;> first | rfl | exact ⟨_, rfl⟩ | exact ⟨_, rfl, by first | assumption | exact Gr.nil | exact Gr.tok rfl (by omega) | exact Gr.tok (by simp -implicitDefEqProofs only [wM, Nat.reduceEqDiff, ↓reduceIte, reduceCtorEq] <;> rfl) (by omega) | exact Gr.clip⟩) | rfl | exact ⟨_, rfl⟩))
    all_goals try omega
    · exact ⟨l'.set k (-77), by rw [List.length_set]; exact hl', by simp only [wM, ↓reduceIte]⟩
    · intro j h1 h2
      (try simp only [wM])
      rw [if_neg h2]
      exact k1_2 j h1 h2
  · repeat' with_reducible first
      | refine ewp_reg_seq ?_ | refine ewp_seq ?_ | refine ewp_reg ?_ | refine ewp_skip ?_ | refine ewp_ret ?_ | refine ewp_block ?_ | refine ewp_exit ?_ | refine xt_n ?_ | refine xt_r ?_ | refine xt_e ?_ | refine xb_n ?_ | refine xb_r ?_ | refine xb_e ?_ | refine xb_x (by decide) ?_
      | refine ewp_condQ ?_ | refine condQ_T ?_ | refine condQ_F ?_
      | simp -implicitDefEqProofs only [wS, wT, wU, wV, wW, wX, wY, wL, wM, wN, Nat.reduceEqDiff, ↓reduceIte, reduceCtorEq, Nat.reduceAdd, Int.cast_ofNat_Int, Int.reduceLT, Int.reduceLE, Int.reduceEq, Int.reduceToNat, decide_true, decide_false, Bool.false_eq_true, g0, g2]
      | (refine condQ_i (fun h => ?_) (fun h => ?_) <;> have h_ := h <;> (try simp only [wD, reduceCtorEq] at h_) <;> (try (exfalso; first | omega | (refine absurd ?_ h_; focus assumption) | (refine absurd h_ ?_; focus assumption))) <;> (try simp only [h]))
      | (apply ia_slQ; (focus omega); (focus (first | assumption | exact List.getElem?_eq_getElem (by omega) | rfl)))
      | (apply ia_mslQ; (focus omega); (focus (first | assumption | omega | (simp only [wZ]; omega) | trivial)))
      | (apply ia_aslQ; (focus omega); (focus (first | assumption | exact List.getElem?_eq_getElem (by omega) | rfl)))
      | (apply stQ_whole; (focus with_unfolding_all rfl); (focus with_unfolding_all rfl))
      | (apply stQ_obj; (focus (first | assumption | omega | (simp only [wZ]; omega) | trivial)); (focus with_unfolding_all rfl); (focus with_unfolding_all rfl); (focus (intro _; with_unfolding_all rfl)))
      | (apply stQ_one; (focus with_unfolding_all rfl); (focus with_unfolding_all rfl); (focus with_unfolding_all rfl))
      | (apply stQ_cell; (focus with_unfolding_all rfl); (focus with_unfolding_all rfl); (focus with_unfolding_all rfl); (focus (first | assumption | omega | (simp only [wZ]; omega) | trivial)))
      | simp -implicitDefEqProofs (disch := omega) only [w64, if_neg]
    refine heap0 rfl (Or.inl rfl) ⟨by (try simp only [wN]); omega, fun j h1 h2 => ?_⟩
    (try simp only [wM])
    exact k1_2 j h1 h2
theorem spoilN {H : Nat → Option MObj} {next : Nat}  : ECalls Tryd.prog 17 [.sl 1 true []] H next (fun _ H' next' => next ≤ next' ∧ ∀ j, j < next → H' j = H j) := by
  refine ecalls_intro Tryd.func17 e17_nm e17_ok (by show 1 ≤ 12; decide) ?_
  show ewp _ e17n11 _ _
  repeat' with_reducible first
    | refine ewp_reg_seq ?_ | refine ewp_seq ?_ | refine ewp_reg ?_ | refine ewp_skip ?_ | refine ewp_ret ?_ | refine ewp_block ?_ | refine ewp_exit ?_ | refine xt_n ?_ | refine xt_r ?_ | refine xt_e ?_ | refine xb_n ?_ | refine xb_r ?_ | refine xb_e ?_ | refine xb_x (by decide) ?_
    | refine ewp_condQ ?_ | refine condQ_T ?_ | refine condQ_F ?_
    | simp -implicitDefEqProofs only [wS, wT, wU, wV, wW, wX, wY, wL, wM, wN, Nat.reduceEqDiff, ↓reduceIte, reduceCtorEq, Nat.reduceAdd, Int.cast_ofNat_Int, Int.reduceLT, Int.reduceLE, Int.reduceEq, Int.reduceToNat, decide_true, decide_false, Bool.false_eq_true]
    | (refine condQ_i (fun h => ?_) (fun h => ?_) <;> have h_ := h <;> (try simp only [wD, reduceCtorEq] at h_) <;> (try (exfalso; first | omega | (refine absurd ?_ h_; focus assumption) | (refine absurd h_ ?_; focus assumption))) <;> (try simp only [h]))
    | (apply ia_slQ; (focus omega); (focus (first | assumption | exact List.getElem?_eq_getElem (by omega) | rfl)))
    | (apply ia_mslQ; (focus omega); (focus (first | assumption | omega | (simp only [wZ]; omega) | trivial)))
    | (apply ia_aslQ; (focus omega); (focus (first | assumption | exact List.getElem?_eq_getElem (by omega) | rfl)))
    | (apply stQ_whole; (focus with_unfolding_all rfl); (focus with_unfolding_all rfl))
    | (apply stQ_obj; (focus (first | assumption | omega | (simp only [wZ]; omega) | trivial)); (focus with_unfolding_all rfl); (focus with_unfolding_all rfl); (focus (intro _; with_unfolding_all rfl)))
    | (apply stQ_one; (focus with_unfolding_all rfl); (focus with_unfolding_all rfl); (focus with_unfolding_all rfl))
    | (apply stQ_cell; (focus with_unfolding_all rfl); (focus with_unfolding_all rfl); (focus with_unfolding_all rfl); (focus (first | assumption | omega | (simp only [wZ]; omega) | trivial)))
    | simp -implicitDefEqProofs (disch := omega) only [w64, if_neg]
  refine ewp_loopN ?nx1 (fun (k : Nat) s => s.f 0 = ?v1_0 ∧ s.f 2 = vi k ∧ (k = 0) ∧ ((∀ j, j < next → s.H j = H j))) (fun k => 0) (0) (by simp -implicitDefEqProofs only [wN, Nat.reduceAdd, Nat.zero_add]; exact Nat.le_refl _) (by refine ⟨?_, ?_, (by first | omega | (simp; done) | assumption), (by intro j h1; simp only [wM])⟩ <;> first | (simp -implicitDefEqProofs only [wL, wM, wN, wX, Nat.reduceEqDiff, ↓reduceIte, reduceCtorEq, Nat.reduceAdd, Option.some.injEq] <;> first | rfl | exact ⟨_, rfl⟩ | exact ⟨_, rfl, by first | assumption | exact Gr.nil | exact Gr.tok rfl (by omega) | exact Gr.tok (by simp -implicitDefEqProofs only [wM, Nat.reduceEqDiff, ↓reduceIte, reduceCtorEq] <;> rfl) (by omega) | exact Gr.clip⟩) | rfl | exact ⟨_, rfl⟩) ?_
  intro k s hnx ⟨g0, g2, k1_0, k1_1⟩
  subst k1_0
  repeat' with_reducible first
    | refine ewp_reg_seq ?_ | refine ewp_seq ?_ | refine ewp_reg ?_ | refine ewp_skip ?_ | refine ewp_ret ?_ | refine ewp_block ?_ | refine ewp_exit ?_ | refine xt_n ?_ | refine xt_r ?_ | refine xt_e ?_ | refine xb_n ?_ | refine xb_r ?_ | refine xb_e ?_ | refine xb_x (by decide) ?_
    | refine ewp_condQ ?_ | refine condQ_T ?_ | refine condQ_F ?_
    | simp -implicitDefEqProofs only [wS, wT, wU, wV, wW, wX, wY, wL, wM, wN, Nat.reduceEqDiff, ↓reduceIte, reduceCtorEq, Nat.reduceAdd, Int.cast_ofNat_Int, Int.reduceLT, Int.reduceLE, Int.reduceEq, Int.reduceToNat, decide_true, decide_false, Bool.false_eq_true, g0, g2]
    | (refine condQ_i (fun h => ?_) (fun h => ?_) <;> have h_ := h <;> (try simp only [wD, reduceCtorEq] at h_) <;> (try (exfalso; first | omega | (refine absurd ?_ h_; focus assumption) | (refine absurd h_ ?_; focus assumption))) <;> (try simp only [h]))
    | (apply ia_slQ; (focus omega); (focus (first | assumption | exact List.getElem?_eq_getElem (by omega) | rfl)))
    | (apply ia_mslQ; (focus omega); (focus (first | assumption | omega | (simp only [wZ]; omega) | trivial)))
    | (apply ia_aslQ; (focus omega); (focus (first | assumption | exact List.getElem?_eq_getElem (by omega) | rfl)))
    | (apply stQ_whole; (focus with_unfolding_all rfl); (focus with_unfolding_all rfl))
    | (apply stQ_obj; (focus (first | assumption | omega | (simp only [wZ]; omega) | trivial)); (focus with_unfolding_all rfl); (focus with_unfolding_all rfl); (focus (intro _; with_unfolding_all rfl)))
    | (apply stQ_one; (focus with_unfolding_all rfl); (focus with_unfolding_all rfl); (focus with_unfolding_all rfl))
    | (apply stQ_cell; (focus with_unfolding_all rfl); (focus with_unfolding_all rfl); (focus with_unfolding_all rfl); (focus (first | assumption | omega | (simp only [wZ]; omega) | trivial)))
    | simp -implicitDefEqProofs (disch := omega) only [w64, if_neg]
  refine heap0 rfl (Or.inl rfl) ⟨by (try simp only [wN]); omega, fun j h1 => ?_⟩
  (try simp only [wM])
  exact k1_1 j h1
theorem spoilE {l : List Int} {v : V} {base next : Nat} {H : Nat → Option MObj} (hl : l.length ≤ 1099511627776) (h : GrM H base next 1 (l.map (V.int .i64)) v) (hb : base ≤ next) :
    ECalls Tryd.prog 17 [v] H next (fun _ H' next' => next ≤ next' ∧ ∀ j, j < base → H' j = H j) := by
  rcases h with ⟨_, rfl⟩ | ⟨id, rfl, h1, h2, h3⟩
  · exact spoilN.mono fun _ _ _ h => ⟨h.1, fun j hj => h.2 j (by omega)⟩
  · rw [List.length_map]
    exact (spoilM hl h1 h3).mono fun _ _ _ h => ⟨h.1, fun j hj => h.2 j (by omega) (by omega)⟩

theorem yuccalaw1_BitsSets {l : List Int} {x : Int} (hl : l.length ≤ 1099511627776) : Pure Tryd.prog 3 [ints l, vi x] (.bool true) := by
  refine pure_intro Tryd.func3 e3_nm e3_ok (by show 2 ≤ 44; decide) ?_
  show ewp _ e3n25 _ _
  have l1 : (intsN l 80).length ≤ 80 := (intsN_len l 80).1
  have s1 := setF_len (intsN l 80)
  have hx : (decide (0 ≤ x) && decide (x < 1024) && memS (intsN l 80) x.toNat) = decide (x ∈ setF (intsN l 80)) := by
    rw [Bool.eq_iff_iff]
    simp only [Bool.and_eq_true, decide_eq_true_eq, (setF_spec _).2, memS]
    constructor
    · rintro ⟨⟨h1, h2⟩, h3, h4⟩
      exact ⟨by rwa [show ((x.toNat : Nat) : Int) = x by omega] at h4, h1, h2⟩
    · rintro ⟨h1, h2, h3⟩
      exact ⟨⟨h2, h3⟩, by omega, by rwa [show ((x.toNat : Nat) : Int) = x by omega]⟩
  have sl : lst (memS (intsN l 80)) 1024 = setF (intsN l 80) := lst_memS _
  repeat' with_reducible first
    | refine ewp_reg_seq ?_ | refine ewp_seq ?_ | refine ewp_reg ?_ | refine ewp_skip ?_ | refine ewp_ret ?_ | refine ewp_block ?_ | refine ewp_exit ?_ | refine xt_n ?_ | refine xt_r ?_ | refine xt_e ?_ | refine xb_n ?_ | refine xb_r ?_ | refine xb_e ?_ | refine xb_x (by decide) ?_
    | refine ewp_condQ ?_ | refine condQ_T ?_ | refine condQ_F ?_
    | refine L_gdQ ?_ | refine gdQ_TT ?_ | refine gdQ_FF ?_ | refine gdQ_TF ?_ | refine gdQ_FT ?_ | refine gdQ_u ?_
    | simp -implicitDefEqProofs only [wS, wT, wU, wV, wW, wX, wY, wL, wM, wN, Nat.reduceEqDiff, ↓reduceIte, reduceCtorEq, Nat.reduceAdd, Int.cast_ofNat_Int, Int.reduceLT, Int.reduceLE, Int.reduceEq, Int.reduceToNat, decide_true, decide_false, Bool.false_eq_true, hx, sl, cnt_memS]
    | (refine condQ_i (fun h => ?_) (fun h => ?_) <;> have h_ := h <;> (try simp only [wD, reduceCtorEq] at h_) <;> (try (exfalso; first | omega | (refine absurd ?_ h_; focus assumption) | (refine absurd h_ ?_; focus assumption))) <;> (try simp only [h]))
    | ((first | refine gdQ_iT (fun h => ?_) (fun h => ?_) | refine gdQ_iF (fun h => ?_) (fun h => ?_)) <;> have h_ := h <;> (try simp only [wD, reduceCtorEq] at h_) <;> (try (exfalso; first | omega | (refine absurd ?_ h_; focus assumption) | (refine absurd h_ ?_; focus assumption))) <;> (try simp only [h]))
    | (refine callQW rfl (listE.mono ?_); rintro v H1 n1 ⟨q1, q2, q3⟩; simp only [wM, wN, Nat.reduceAdd] at q1 q2 q3; rw [sl] at q3)
    | (refine callQW (by simp only [wM]; rfl) ((spoilE (by omega) q3 (by simp only [wN]; omega)).mono ?_); rintro v2 H2 n2 ⟨q4, q5⟩; simp only [wN] at q4)
    | (apply callQB2 (hp := yuccaref0_EqInts ?_ ?_); focus (refine q3.er ?_ rfl; simp only [wM]); focus exact er_cl; focus (with_unfolding_all rfl); focus exact Flat.bool _; rotate_left; focus omega; focus omega)
    | (rw [q2]; rotate_left; focus omega)
    | (rw [q5]; rotate_left; focus omega)
    | (apply ldQ_whole)
    | (apply ldQ_obj; (focus (first | assumption | exact List.getElem?_eq_getElem (by omega) | rfl)); (focus with_unfolding_all rfl))
    | (apply ldQ_cell; (focus with_unfolding_all rfl))
    | (apply ldQ_one; (focus with_unfolding_all rfl))
    | (apply ld_ipQ; (focus with_unfolding_all rfl))
    | (apply stQ_whole; (focus with_unfolding_all rfl); (focus with_unfolding_all rfl))
    | (apply stQ_obj; (focus (first | assumption | omega | (simp only [wZ]; omega) | trivial)); (focus with_unfolding_all rfl); (focus with_unfolding_all rfl); (focus (intro _; with_unfolding_all rfl)))
    | (apply stQ_one; (focus with_unfolding_all rfl); (focus with_unfolding_all rfl); (focus with_unfolding_all rfl))
    | (apply stQ_cell; (focus with_unfolding_all rfl); (focus with_unfolding_all rfl); (focus with_unfolding_all rfl); (focus (first | assumption | omega | (simp only [wZ]; omega) | trivial)))
    | (apply callQ0 (hp := yuccalaw1_wakes))
    | (apply callQ2 (hp := yuccalaw0_Ints ?_ ?_); (focus (first | exact er_intsL | exact er_cl | exact er_sl | exact er_asl)); (focus (first | exact er_intsL | exact er_cl | exact er_sl | exact er_asl)); rotate_left; (focus (first | assumption | omega | (simp only [wZ]; omega) | trivial)); (focus (first | assumption | omega | (simp only [wZ]; omega) | trivial)))
    | (apply callQ1 (hp := yuccaref1_Set ?_); (focus (first | exact er_intsL | exact er_cl | exact er_sl | exact er_asl)); rotate_left; (focus (first | assumption | omega | (simp only [wZ]; omega) | trivial)))
    | (apply callQ1 (hp := bits_Of ?_); (focus (first | exact er_intsL | exact er_cl | exact er_sl | exact er_asl)); rotate_left; (focus (first | assumption | omega | (simp only [wZ]; omega) | trivial)))
    | (apply callQ1 (hp := bits_Set_List); (focus (first | exact er_intsL | exact er_cl | exact er_sl | exact er_asl)))
    | (apply callQ2 (hp := yuccaref0_EqInts ?_ ?_); (focus (first | exact er_intsL | exact er_cl | exact er_sl | exact er_asl)); (focus (first | exact er_intsL | exact er_cl | exact er_sl | exact er_asl)); rotate_left; (focus (first | assumption | omega | (simp only [wZ]; omega) | trivial)); (focus (first | assumption | omega | (simp only [wZ]; omega) | trivial)))
    | (apply callQ1 (hp := bits_Set_Len); (focus (first | exact er_intsL | exact er_cl | exact er_sl | exact er_asl)))
    | (apply callQ2 (hp := bits_Set_Has); (focus (first | exact er_intsL | exact er_cl | exact er_sl | exact er_asl)); (focus (first | exact er_intsL | exact er_cl | exact er_sl | exact er_asl)))
    | (apply callQ2 (hp := yuccaref0_Has ?_); (focus (first | exact er_intsL | exact er_cl | exact er_sl | exact er_asl)); (focus (first | exact er_intsL | exact er_cl | exact er_sl | exact er_asl)); rotate_left; (focus (first | assumption | omega | (simp only [wZ]; omega) | trivial)))
    | simp -implicitDefEqProofs (disch := omega) only [w64, if_neg]
  apply callQB2 (hp := yuccaref0_EqInts ?_ ?_)
  · refine q3.er ?_ rfl; simp only [wM]
  · exact er_cl
  · with_unfolding_all rfl
  · exact Flat.bool _
  rotate_left
  · omega
  · omega
  repeat' with_reducible first
    | refine ewp_reg_seq ?_ | refine ewp_seq ?_ | refine ewp_reg ?_ | refine ewp_skip ?_ | refine ewp_ret ?_ | refine ewp_block ?_ | refine ewp_exit ?_ | refine xt_n ?_ | refine xt_r ?_ | refine xt_e ?_ | refine xb_n ?_ | refine xb_r ?_ | refine xb_e ?_ | refine xb_x (by decide) ?_
    | refine ewp_condQ ?_ | refine condQ_T ?_ | refine condQ_F ?_
    | refine L_gdQ ?_ | refine gdQ_TT ?_ | refine gdQ_FF ?_ | refine gdQ_TF ?_ | refine gdQ_FT ?_ | refine gdQ_u ?_
    | simp -implicitDefEqProofs only [wS, wT, wU, wV, wW, wX, wY, wL, wM, wN, Nat.reduceEqDiff, ↓reduceIte, reduceCtorEq, Nat.reduceAdd, Int.cast_ofNat_Int, Int.reduceLT, Int.reduceLE, Int.reduceEq, Int.reduceToNat, decide_true, decide_false, Bool.false_eq_true, hx, sl, cnt_memS]
    | (refine condQ_i (fun h => ?_) (fun h => ?_) <;> have h_ := h <;> (try simp only [wD, reduceCtorEq] at h_) <;> (try (exfalso; first | omega | (refine absurd ?_ h_; focus assumption) | (refine absurd h_ ?_; focus assumption))) <;> (try simp only [h]))
    | ((first | refine gdQ_iT (fun h => ?_) (fun h => ?_) | refine gdQ_iF (fun h => ?_) (fun h => ?_)) <;> have h_ := h <;> (try simp only [wD, reduceCtorEq] at h_) <;> (try (exfalso; first | omega | (refine absurd ?_ h_; focus assumption) | (refine absurd h_ ?_; focus assumption))) <;> (try simp only [h]))
    | (refine callQW rfl (listE.mono ?_); rintro v H1 n1 ⟨q1, q2, q3⟩; simp only [wM, wN, Nat.reduceAdd] at q1 q2 q3; rw [sl] at q3)
    | (refine callQW (by simp only [wM]; rfl) ((spoilE (by omega) q3 (by simp only [wN]; omega)).mono ?_); rintro v2 H2 n2 ⟨q4, q5⟩; simp only [wN] at q4)
    | (apply callQB2 (hp := yuccaref0_EqInts ?_ ?_); focus (refine q3.er ?_ rfl; simp only [wM]); focus exact er_cl; focus (with_unfolding_all rfl); focus exact Flat.bool _; rotate_left; focus omega; focus omega)
    | (rw [q2]; rotate_left; focus omega)
    | (rw [q5]; rotate_left; focus omega)
    | (apply ldQ_whole)
    | (apply ldQ_obj; (focus (first | assumption | exact List.getElem?_eq_getElem (by omega) | rfl)); (focus with_unfolding_all rfl))
    | (apply ldQ_cell; (focus with_unfolding_all rfl))
    | (apply ldQ_one; (focus with_unfolding_all rfl))
    | (apply ld_ipQ; (focus with_unfolding_all rfl))
    | (apply stQ_whole; (focus with_unfolding_all rfl); (focus with_unfolding_all rfl))
    | (apply stQ_obj; (focus (first | assumption | omega | (simp only [wZ]; omega) | trivial)); (focus with_unfolding_all rfl); (focus with_unfolding_all rfl); (focus (intro _; with_unfolding_all rfl)))
    | (apply stQ_one; (focus with_unfolding_all rfl); (focus with_unfolding_all rfl); (focus with_unfolding_all rfl))
    | (apply stQ_cell; (focus with_unfolding_all rfl); (focus with_unfolding_all rfl); (focus with_unfolding_all rfl); (focus (first | assumption | omega | (simp only [wZ]; omega) | trivial)))
    | (apply callQ0 (hp := yuccalaw1_wakes))
    | (apply callQ2 (hp := yuccalaw0_Ints ?_ ?_); (focus (first | exact er_intsL | exact er_cl | exact er_sl | exact er_asl)); (focus (first | exact er_intsL | exact er_cl | exact er_sl | exact er_asl)); rotate_left; (focus (first | assumption | omega | (simp only [wZ]; omega) | trivial)); (focus (first | assumption | omega | (simp only [wZ]; omega) | trivial)))
    | (apply callQ1 (hp := yuccaref1_Set ?_); (focus (first | exact er_intsL | exact er_cl | exact er_sl | exact er_asl)); rotate_left; (focus (first | assumption | omega | (simp only [wZ]; omega) | trivial)))
    | (apply callQ1 (hp := bits_Of ?_); (focus (first | exact er_intsL | exact er_cl | exact er_sl | exact er_asl)); rotate_left; (focus (first | assumption | omega | (simp only [wZ]; omega) | trivial)))
    | (apply callQ1 (hp := bits_Set_List); (focus (first | exact er_intsL | exact er_cl | exact er_sl | exact er_asl)))
    | (apply callQ2 (hp := yuccaref0_EqInts ?_ ?_); (focus (first | exact er_intsL | exact er_cl | exact er_sl | exact er_asl)); (focus (first | exact er_intsL | exact er_cl | exact er_sl | exact er_asl)); rotate_left; (focus (first | assumption | omega | (simp only [wZ]; omega) | trivial)); (focus (first | assumption | omega | (simp only [wZ]; omega) | trivial)))
    | (apply callQ1 (hp := bits_Set_Len); (focus (first | exact er_intsL | exact er_cl | exact er_sl | exact er_asl)))
    | (apply callQ2 (hp := bits_Set_Has); (focus (first | exact er_intsL | exact er_cl | exact er_sl | exact er_asl)); (focus (first | exact er_intsL | exact er_cl | exact er_sl | exact er_asl)))
    | (apply callQ2 (hp := yuccaref0_Has ?_); (focus (first | exact er_intsL | exact er_cl | exact er_sl | exact er_asl)); (focus (first | exact er_intsL | exact er_cl | exact er_sl | exact er_asl)); rotate_left; (focus (first | assumption | omega | (simp only [wZ]; omega) | trivial)))
    | simp -implicitDefEqProofs (disch := omega) only [w64, if_neg]
  have q3' := q3.keep (next' := n1 + 20 + 2) rfl (by omega) (fun _ _ _ => rfl)
  refine callQX (H := H1) (N := n1 + 20 + 2) (by simp only [wM]) (by simp only [wN]) ((spoilE (by omega) q3' (by omega)).mono ?_)
  rintro v2 H2 n2 ⟨q4, q5⟩
  repeat' with_reducible first
    | refine ewp_reg_seq ?_ | refine ewp_seq ?_ | refine ewp_reg ?_ | refine ewp_skip ?_ | refine ewp_ret ?_ | refine ewp_block ?_ | refine ewp_exit ?_ | refine xt_n ?_ | refine xt_r ?_ | refine xt_e ?_ | refine xb_n ?_ | refine xb_r ?_ | refine xb_e ?_ | refine xb_x (by decide) ?_
    | refine ewp_condQ ?_ | refine condQ_T ?_ | refine condQ_F ?_
    | refine L_gdQ ?_ | refine gdQ_TT ?_ | refine gdQ_FF ?_ | refine gdQ_TF ?_ | refine gdQ_FT ?_ | refine gdQ_u ?_
    | simp -implicitDefEqProofs only [wS, wT, wU, wV, wW, wX, wY, wL, wM, wN, Nat.reduceEqDiff, ↓reduceIte, reduceCtorEq, Nat.reduceAdd, Int.cast_ofNat_Int, Int.reduceLT, Int.reduceLE, Int.reduceEq, Int.reduceToNat, decide_true, decide_false, Bool.false_eq_true, hx, sl, cnt_memS]
    | (refine condQ_i (fun h => ?_) (fun h => ?_) <;> have h_ := h <;> (try simp only [wD, reduceCtorEq] at h_) <;> (try (exfalso; first | omega | (refine absurd ?_ h_; focus assumption) | (refine absurd h_ ?_; focus assumption))) <;> (try simp only [h]))
    | ((first | refine gdQ_iT (fun h => ?_) (fun h => ?_) | refine gdQ_iF (fun h => ?_) (fun h => ?_)) <;> have h_ := h <;> (try simp only [wD, reduceCtorEq] at h_) <;> (try (exfalso; first | omega | (refine absurd ?_ h_; focus assumption) | (refine absurd h_ ?_; focus assumption))) <;> (try simp only [h]))
    | (refine callQW rfl (listE.mono ?_); rintro v H1 n1 ⟨q1, q2, q3⟩; simp only [wM, wN, Nat.reduceAdd] at q1 q2 q3; rw [sl] at q3)
    | (refine callQW (by simp only [wM]; rfl) ((spoilE (by omega) q3 (by simp only [wN]; omega)).mono ?_); rintro v2 H2 n2 ⟨q4, q5⟩; simp only [wN] at q4)
    | (apply callQB2 (hp := yuccaref0_EqInts ?_ ?_); focus (refine q3.er ?_ rfl; simp only [wM]); focus exact er_cl; focus (with_unfolding_all rfl); focus exact Flat.bool _; rotate_left; focus omega; focus omega)
    | (rw [q2]; rotate_left; focus omega)
    | (rw [q5]; rotate_left; focus omega)
    | (apply ldQ_whole)
    | (apply ldQ_obj; (focus (first | assumption | exact List.getElem?_eq_getElem (by omega) | rfl)); (focus with_unfolding_all rfl))
    | (apply ldQ_cell; (focus with_unfolding_all rfl))
    | (apply ldQ_one; (focus with_unfolding_all rfl))
    | (apply ld_ipQ; (focus with_unfolding_all rfl))
    | (apply stQ_whole; (focus with_unfolding_all rfl); (focus with_unfolding_all rfl))
    | (apply stQ_obj; (focus (first | assumption | omega | (simp only [wZ]; omega) | trivial)); (focus with_unfolding_all rfl); (focus with_unfolding_all rfl); (focus (intro _; with_unfolding_all rfl)))
    | (apply stQ_one; (focus with_unfolding_all rfl); (focus with_unfolding_all rfl); (focus with_unfolding_all rfl))
    | (apply stQ_cell; (focus with_unfolding_all rfl); (focus with_unfolding_all rfl); (focus with_unfolding_all rfl); (focus (first | assumption | omega | (simp only [wZ]; omega) | trivial)))
    | (apply callQ0 (hp := yuccalaw1_wakes))
    | (apply callQ2 (hp := yuccalaw0_Ints ?_ ?_); (focus (first | exact er_intsL | exact er_cl | exact er_sl | exact er_asl)); (focus (first | exact er_intsL | exact er_cl | exact er_sl | exact er_asl)); rotate_left; (focus (first | assumption | omega | (simp only [wZ]; omega) | trivial)); (focus (first | assumption | omega | (simp only [wZ]; omega) | trivial)))
    | (apply callQ1 (hp := yuccaref1_Set ?_); (focus (first | exact er_intsL | exact er_cl | exact er_sl | exact er_asl)); rotate_left; (focus (first | assumption | omega | (simp only [wZ]; omega) | trivial)))
    | (apply callQ1 (hp := bits_Of ?_); (focus (first | exact er_intsL | exact er_cl | exact er_sl | exact er_asl)); rotate_left; (focus (first | assumption | omega | (simp only [wZ]; omega) | trivial)))
    | (apply callQ1 (hp := bits_Set_List); (focus (first | exact er_intsL | exact er_cl | exact er_sl | exact er_asl)))
    | (apply callQ2 (hp := yuccaref0_EqInts ?_ ?_); (focus (first | exact er_intsL | exact er_cl | exact er_sl | exact er_asl)); (focus (first | exact er_intsL | exact er_cl | exact er_sl | exact er_asl)); rotate_left; (focus (first | assumption | omega | (simp only [wZ]; omega) | trivial)); (focus (first | assumption | omega | (simp only [wZ]; omega) | trivial)))
    | (apply callQ1 (hp := bits_Set_Len); (focus (first | exact er_intsL | exact er_cl | exact er_sl | exact er_asl)))
    | (apply callQ2 (hp := bits_Set_Has); (focus (first | exact er_intsL | exact er_cl | exact er_sl | exact er_asl)); (focus (first | exact er_intsL | exact er_cl | exact er_sl | exact er_asl)))
    | (apply callQ2 (hp := yuccaref0_Has ?_); (focus (first | exact er_intsL | exact er_cl | exact er_sl | exact er_asl)); (focus (first | exact er_intsL | exact er_cl | exact er_sl | exact er_asl)); rotate_left; (focus (first | assumption | omega | (simp only [wZ]; omega) | trivial)))
    | simp -implicitDefEqProofs (disch := omega) only [w64, if_neg]
  apply callQB2 (hp := yuccaref0_EqInts ?_ ?_)
  · refine q3.er ?_ rfl; simp only [wM]
  · exact er_cl
  · with_unfolding_all rfl
  · exact Flat.bool _
  rotate_left
  · omega
  · omega
  repeat' with_reducible first
    | refine ewp_reg_seq ?_ | refine ewp_seq ?_ | refine ewp_reg ?_ | refine ewp_skip ?_ | refine ewp_ret ?_ | refine ewp_block ?_ | refine ewp_exit ?_ | refine xt_n ?_ | refine xt_r ?_ | refine xt_e ?_ | refine xb_n ?_ | refine xb_r ?_ | refine xb_e ?_ | refine xb_x (by decide) ?_
    | refine ewp_condQ ?_ | refine condQ_T ?_ | refine condQ_F ?_
    | refine L_gdQ ?_ | refine gdQ_TT ?_ | refine gdQ_FF ?_ | refine gdQ_TF ?_ | refine gdQ_FT ?_ | refine gdQ_u ?_
    | simp -implicitDefEqProofs only [wS, wT, wU, wV, wW, wX, wY, wL, wM, wN, Nat.reduceEqDiff, ↓reduceIte, reduceCtorEq, Nat.reduceAdd, Int.cast_ofNat_Int, Int.reduceLT, Int.reduceLE, Int.reduceEq, Int.reduceToNat, decide_true, decide_false, Bool.false_eq_true, hx, sl, cnt_memS]
    | (refine condQ_i (fun h => ?_) (fun h => ?_) <;> have h_ := h <;> (try simp only [wD, reduceCtorEq] at h_) <;> (try (exfalso; first | omega | (refine absurd ?_ h_; focus assumption) | (refine absurd h_ ?_; focus assumption))) <;> (try simp only [h]))
    | ((first | refine gdQ_iT (fun h => ?_) (fun h => ?_) | refine gdQ_iF (fun h => ?_) (fun h => ?_)) <;> have h_ := h <;> (try simp only [wD, reduceCtorEq] at h_) <;> (try (exfalso; first | omega | (refine absurd ?_ h_; focus assumption) | (refine absurd h_ ?_; focus assumption))) <;> (try simp only [h]))
    | (refine callQW rfl (listE.mono ?_); rintro v H1 n1 ⟨q1, q2, q3⟩; simp only [wM, wN, Nat.reduceAdd] at q1 q2 q3; rw [sl] at q3)
    | (refine callQW (by simp only [wM]; rfl) ((spoilE (by omega) q3 (by simp only [wN]; omega)).mono ?_); rintro v2 H2 n2 ⟨q4, q5⟩; simp only [wN] at q4)
    | (apply callQB2 (hp := yuccaref0_EqInts ?_ ?_); focus (refine q3.er ?_ rfl; simp only [wM]); focus exact er_cl; focus (with_unfolding_all rfl); focus exact Flat.bool _; rotate_left; focus omega; focus omega)
    | (rw [q2]; rotate_left; focus omega)
    | (rw [q5]; rotate_left; focus omega)
    | (apply ldQ_whole)
    | (apply ldQ_obj; (focus (first | assumption | exact List.getElem?_eq_getElem (by omega) | rfl)); (focus with_unfolding_all rfl))
    | (apply ldQ_cell; (focus with_unfolding_all rfl))
    | (apply ldQ_one; (focus with_unfolding_all rfl))
    | (apply ld_ipQ; (focus with_unfolding_all rfl))
    | (apply stQ_whole; (focus with_unfolding_all rfl); (focus with_unfolding_all rfl))
    | (apply stQ_obj; (focus (first | assumption | omega | (simp only [wZ]; omega) | trivial)); (focus with_unfolding_all rfl); (focus with_unfolding_all rfl); (focus (intro _; with_unfolding_all rfl)))
    | (apply stQ_one; (focus with_unfolding_all rfl); (focus with_unfolding_all rfl); (focus with_unfolding_all rfl))
    | (apply stQ_cell; (focus with_unfolding_all rfl); (focus with_unfolding_all rfl); (focus with_unfolding_all rfl); (focus (first | assumption | omega | (simp only [wZ]; omega) | trivial)))
    | (apply callQ0 (hp := yuccalaw1_wakes))
    | (apply callQ2 (hp := yuccalaw0_Ints ?_ ?_); (focus (first | exact er_intsL | exact er_cl | exact er_sl | exact er_asl)); (focus (first | exact er_intsL | exact er_cl | exact er_sl | exact er_asl)); rotate_left; (focus (first | assumption | omega | (simp only [wZ]; omega) | trivial)); (focus (first | assumption | omega | (simp only [wZ]; omega) | trivial)))
    | (apply callQ1 (hp := yuccaref1_Set ?_); (focus (first | exact er_intsL | exact er_cl | exact er_sl | exact er_asl)); rotate_left; (focus (first | assumption | omega | (simp only [wZ]; omega) | trivial)))
    | (apply callQ1 (hp := bits_Of ?_); (focus (first | exact er_intsL | exact er_cl | exact er_sl | exact er_asl)); rotate_left; (focus (first | assumption | omega | (simp only [wZ]; omega) | trivial)))
    | (apply callQ1 (hp := bits_Set_List); (focus (first | exact er_intsL | exact er_cl | exact er_sl | exact er_asl)))
    | (apply callQ2 (hp := yuccaref0_EqInts ?_ ?_); (focus (first | exact er_intsL | exact er_cl | exact er_sl | exact er_asl)); (focus (first | exact er_intsL | exact er_cl | exact er_sl | exact er_asl)); rotate_left; (focus (first | assumption | omega | (simp only [wZ]; omega) | trivial)); (focus (first | assumption | omega | (simp only [wZ]; omega) | trivial)))
    | (apply callQ1 (hp := bits_Set_Len); (focus (first | exact er_intsL | exact er_cl | exact er_sl | exact er_asl)))
    | (apply callQ2 (hp := bits_Set_Has); (focus (first | exact er_intsL | exact er_cl | exact er_sl | exact er_asl)); (focus (first | exact er_intsL | exact er_cl | exact er_sl | exact er_asl)))
    | (apply callQ2 (hp := yuccaref0_Has ?_); (focus (first | exact er_intsL | exact er_cl | exact er_sl | exact er_asl)); (focus (first | exact er_intsL | exact er_cl | exact er_sl | exact er_asl)); rotate_left; (focus (first | assumption | omega | (simp only [wZ]; omega) | trivial)))
    | simp -implicitDefEqProofs (disch := omega) only [w64, if_neg]
  refine post1 rfl (Or.inr rfl) ?_
  simp -implicitDefEqProofs only [wL, Nat.reduceEqDiff, ↓reduceIte, reduceCtorEq]
  first | refine er_bool ?_ | refine er_int ?_ | refine er_str ?_ | refine er_sl_eq ?_ | refine er_asl_eq ?_
  try (with_reducible rfl)
end Go.Proofs
