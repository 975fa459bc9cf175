/-
  Part of a proof that a law of the given program answers true: contracts of its functions, and the law. Holds for inputs of at most 1048576 values and letters in all.
-/
import Derived.Test.YtpnfbnlhjdnnpaaPI
namespace Go.Proofs
open Go.E
@[reducible] def e4br67 : List Ins := [
  ⟨(some 87), none, .lit false 1 false (.int .i64 0) 0 [], .n⟩,
  ⟨(some 88), none, .mov (.t 7), .n⟩,
  ⟨(some 89), none, .mov (.t 15), .n⟩,
  ⟨(some 90), none, .slc 1 (.t 88) none (some (.t 89)) none, .n⟩,
  ⟨(some 91), none, .append false 1 8 (.t 87) (.t 90), .w⟩,
  ⟨(some 92), none, .mov (.t 7), .n⟩,
  ⟨(some 93), none, .mov (.t 15), .n⟩,
  ⟨(some 94), none, .bin .add (.t 93) (.c (.int .i64 1)), .n⟩,
  ⟨(some 95), none, .slc 1 (.t 92) (some (.t 94)) none none, .n⟩,
  ⟨(some 96), none, .append false 1 8 (.t 91) (.t 95), .w⟩,
  ⟨(some 16), none, .mov (.t 96), .n⟩]
@[reducible] def e4bn70 : EC := .seq (.reg e4br67) e4n69
@[reducible] def e4bn71 : EC := .seq (.reg e4r66) e4bn70
@[reducible] def e4bn72 : EC := .seq e4n65 e4bn71
@[reducible] def e4bn73 : EC := .seq e4n60 e4bn72
@[reducible] def e4bn74 : EC := .seq (.reg e4r56) e4bn73
@[reducible] def e4bn75 : EC := .seq e4n55 e4bn74
@[reducible] def e4bn76 : EC := .seq (.reg e4r38) e4bn75
@[reducible] def e4bn77 : EC := .seq e4n37 e4bn76
@[reducible] def e4bn78 : EC := .seq (.reg e4r20) e4bn77
@[reducible] def e4bn79 : EC := .seq e4n19 e4bn78
@[reducible] def e4bn80 : EC := .seq (.reg e4r7) e4bn79
@[reducible] def e4bn81 : EC := .seq (.reg e4r6) e4bn80
@[reducible] def e4bn82 : EC := .seq e4n5 e4bn81
@[reducible] def e4bn83 : EC := .seq (.reg e4r0) e4bn82
@[reducible] def e4b : EF := ⟨101, 3, [(.inl 6)], e4bn83⟩
theorem e4b_ok : compFn Try.prog { mu := fun t => [22, 30].contains t, cl := fun r i => ([(29, 4, Cls.w), (29, 9, Cls.w)].find? fun x => x.1 == r && x.2.1 == i).map (·.2.2) } Try.f4 = some e4b := by kernel_rfl
end Go.Proofs

set_option linter.unusedSimpArgs false
set_option linter.unusedVariables false
set_option maxHeartbeats 4000000
set_option maxRecDepth 20000
namespace Go.Proofs
open Go.E

theorem appQ_Ow {cls : Cls} {id : Nat} {s : St} {K : V → St → Prop} {z bytes : Nat} {vy : V} {xs ys : List V} (hcl : (cls == .t) = false) (hs : srcV s z vy = some ys)
    (hb : (xs.length + ys.length) * bytes ≤ 140737488355328) (hl : xs.length + ys.length ≤ maxLen)
    (hk : K (.asl id (xs.length + ys.length) z (xs ++ ys)) (s.setO id (some (.tok (xs.length + ys.length))))) : appQ cls id s K false z bytes (.sl z true xs) vy := by
  unfold appQ
  rw [hs]
  refine ⟨fun e => (by subst e; cases hcl), ?_⟩
  have e : appendS id s false z (.sl z true xs) ys = some (.asl id (xs.length + ys.length) z (xs ++ ys), s.setO id (some (.tok (xs.length + ys.length))), xs.length + ys.length) := by simp [appendS]
  rw [e]
  exact ⟨hb, hl, hk⟩
theorem appQ_Tw {cls : Cls} {id : Nat} {s : St} {K : V → St → Prop} {z bytes i f : Nat} {vy : V} {xs ys : List V} (hcl : (cls == .t) = false) (hT : s.H i = some (.tok f)) (hs : srcV s z vy = some ys)
    (hb : (xs.length + ys.length) * bytes ≤ 140737488355328) (hl : xs.length + ys.length ≤ maxLen)
    (hk : K (.asl id (xs.length + ys.length) z (xs ++ ys)) ((s.setO i none).setO id (some (.tok (xs.length + ys.length))))) : appQ cls id s K false z bytes (.asl i f z xs) vy := by
  unfold appQ
  rw [hs]
  refine ⟨fun e => (by subst e; cases hcl), ?_⟩
  have e : appendS id s false z (.asl i f z xs) ys = some (.asl id (xs.length + ys.length) z (xs ++ ys), (s.setO i none).setO id (some (.tok (xs.length + ys.length))), xs.length + ys.length) := by simp [appendS, hT]
  rw [e]
  exact ⟨hb, hl, hk⟩
theorem srcV_m {s : St} {id off len : Nat} {w : List Int} {ro : Bool} (h : s.H id = some (.own 1 (w.map (V.int .i64)) ro)) (hl : off + len ≤ w.length) : srcV s 1 (.msl id 1 off len) = some (((w.drop off).take len).map (V.int .i64)) := by
  unfold srcV
  simp only [h, if_true]
  rw [if_pos ⟨trivial, by rw [List.length_map]; exact hl⟩, List.map_take, List.map_drop]
theorem slQ_mhi {z id off len : Nat} {k : IntKind} {i : Int} {K : V → Prop} (h0 : 0 ≤ i) (h : i.toNat ≤ len) (hk : K (.msl id z off i.toNat)) : onS (sliceV z (.msl id z off len) none (some (.int k i)) none) K :=
  onS_i (by simp [sliceV, boundsV, idxOf, h0, h]) hk
theorem slQ_mlo {z id off len : Nat} {k : IntKind} {i : Int} {K : V → Prop} (h0 : 0 ≤ i) (h : i.toNat ≤ len) (hk : K (.msl id z (off + i.toNat) (len - i.toNat))) : onS (sliceV z (.msl id z off len) (some (.int k i)) none none) K :=
  onS_i (by simp [sliceV, boundsV, idxOf, h0, h]) hk
theorem sumsEnd {s0 : St} {a : Nat} {at_ : Int} {iw i9 i10 : Nat} {w v : List Int} {vv : V} {GE GH : Grammar} {want : Int} (ha : 1 ≤ a ∧ a ≤ 12) (hwant : want = if 2 < a then 2 else 1) (f0 : s0.f 0 = vi a) (f1 : s0.f 1 = vi at_) (f7 : s0.f 7 = .msl iw 1 0 w.length) (f12 : s0.f 12 = vv) (f9 : s0.f 9 = .ptr i9 0 0) (f10 : s0.f 10 = .ptr i10 0 0)
    (h7 : s0.H iw = some (.own 1 (w.map (V.int .i64)) false)) (h9 : s0.H i9 = some (.own 5 [GE.V] false)) (h10 : s0.H i10 = some (.own 5 [GH.V] false)) (l7 : iw < s0.next) (l10 : i10 < s0.next) (hw : 0 < w.length ∧ w.length ≤ 24) (hv : Er true s0.H vv (.sl 1 false (v.map (V.int .i64))))
    (hE : Pure Try.prog 13 [GE.V, vi 1001, .sl 1 false (v.map (V.int .i64))] (vi want)) (hH : Pure Try.prog 13 [GH.V, vi 1001, .sl 1 false (w.map (V.int .i64))] (vi 1))
    (hC : ∀ k, k < w.length → Pure Try.prog 13 [GH.V, vi 1001, .sl 1 false ((w.take k ++ w.drop (k + 1)).map (V.int .i64))] (vi 0)) : ewp Try.prog e4bn74 (PurePost e4b (.bool true)) s0 := by
  obtain ⟨k, hk⟩ : ∃ k : Nat, at_ % (w.length : Int) = k := ⟨(at_ % (w.length : Int)).toNat, by have := Int.emod_nonneg at_ (b := (w.length : Int)) (by omega); omega⟩
  have hkl : k < w.length := by have := Int.emod_lt_of_pos at_ (b := (w.length : Int)) (by omega); omega
  have hzk : IntKind.i64.wrap ((k + 1 : Nat) : Int) = ((k + 1 : Nat) : Int) := wrap64 (by omega) (by omega)
  have hC := hC k hkl
  by_cases h2 : 2 < a
  · rw [if_pos h2] at hwant
    subst hwant
    repeat' with_reducible first
      | refine ewp_reg_seq ?_ | refine ewp_seq ?_ | refine ewp_reg ?_ | refine xt_n ?_ | refine ewp_condQ ?_
      | simp -implicitDefEqProofs only [wA, Nat.reduceEqDiff, ↓reduceIte, reduceCtorEq, Nat.reduceAdd, Int.cast_ofNat_Int, Int.reduceLT, Int.reduceLE, Int.reduceEq, Int.reduceToNat, decide_true, decide_false, Bool.false_eq_true, f0, f1, f7, f9, f10, f12, h9, h10, hk, hzk]
      | (refine condQ_i (fun h => ?_) (fun h => ?_) <;> have h_ := h <;> (try simp only [wD, reduceCtorEq] at h_) <;> (try (exfalso; first | omega | exact bf h_ (by assumption) | exact bt h_ (by assumption) | (refine absurd ?_ h_; focus assumption) | (refine absurd h_ ?_; focus assumption))) <;> (try simp only [h]))
      | (apply ldQ_whole)
    refine callQB3 (hp := hE) er_cl er_cl ?_ rfl (Flat.int _ _) ?_
    · simp only [wM]; exact hv
    repeat' with_reducible first
      | refine L_gdQ ?_ | refine gdQ_FF ?_
      | simp -implicitDefEqProofs only [wA, Nat.reduceEqDiff, ↓reduceIte, reduceCtorEq, Nat.reduceAdd, Int.cast_ofNat_Int, Int.reduceLT, Int.reduceLE, Int.reduceEq, Int.reduceToNat, decide_true, decide_false, Bool.false_eq_true, f0, f1, f7, f9, f10, f12, h9, h10, hk, hzk]
      | (apply ldQ_whole)
    refine callQB3 (hp := hH) er_cl er_cl (er_mI (w := w) (ro := false) ?_ rfl) rfl (Flat.int _ _) ?_
    · simp only [wM]; exact h7
    repeat' with_reducible first
      | refine ewp_reg_seq ?_ | refine ewp_skip ?_ | refine xt_n ?_ | refine ewp_condQ ?_ | refine condQ_F ?_ | refine L_gdQ ?_ | refine gdQ_FF ?_
      | simp -implicitDefEqProofs only [wA, Nat.reduceEqDiff, ↓reduceIte, reduceCtorEq, Nat.reduceAdd, Int.cast_ofNat_Int, Int.reduceLT, Int.reduceLE, Int.reduceEq, Int.reduceToNat, decide_true, decide_false, Bool.false_eq_true, f0, f1, f7, f9, f10, f12, h9, h10, hk, hzk]
      | (apply slQ_mhi; (focus omega); (focus omega))
      | (apply callQ2 (hp := yuccaref0_Within ?_ ?_); (focus (first | exact er_intsL | exact er_cl | exact er_sl | exact er_asl)); (focus (first | exact er_intsL | exact er_cl | exact er_sl | exact er_asl)); rotate_left; (focus (first | assumption | omega | (simp only [wZ]; omega) | trivial)); (focus (first | assumption | omega | (simp only [wZ]; omega) | trivial)))
    refine appQ_Ow rfl (srcV_m (w := w) (ro := false) ?_ (by omega)) (by simp only [List.length_map, List.length_take, List.length_drop, List.length_nil, List.length_append]; omega) (by unfold maxLen; simp only [List.length_map, List.length_take, List.length_drop, List.length_nil, List.length_append]; omega) ?_
    · simp only [wM]; exact h7
    repeat' with_reducible first
      | simp -implicitDefEqProofs only [wA, Nat.reduceEqDiff, ↓reduceIte, reduceCtorEq, Nat.reduceAdd, Int.cast_ofNat_Int, Int.reduceLT, Int.reduceLE, Int.reduceEq, Int.reduceToNat, decide_true, decide_false, Bool.false_eq_true, f0, f1, f7, f9, f10, f12, h9, h10, hk, hzk]
      | (apply slQ_mlo; (focus omega); (focus omega))
    refine appQ_Tw rfl ?_ (srcV_m (w := w) (ro := false) ?_ (by omega)) (by simp only [List.length_map, List.length_take, List.length_drop, List.length_nil, List.length_append]; omega) (by unfold maxLen; simp only [List.length_map, List.length_take, List.length_drop, List.length_nil, List.length_append]; omega) ?_
    · simp only [wM]; repeat first | rw [if_pos trivial] | rw [if_pos rfl] | rw [if_neg (by omega)]
    · simp only [wM]; repeat first | rw [if_pos trivial] | rw [if_pos rfl] | rw [if_neg (by omega)]
      exact h7
    have h10' : i10 < s0.next := l10
    repeat' with_reducible first
      | refine ewp_reg_seq ?_
      | simp -implicitDefEqProofs only [wA, Nat.reduceEqDiff, ↓reduceIte, reduceCtorEq, Nat.reduceAdd, Int.cast_ofNat_Int, Int.reduceLT, Int.reduceLE, Int.reduceEq, Int.reduceToNat, decide_true, decide_false, Bool.false_eq_true, f0, f1, f7, f9, f10, f12, h9, h10, if_neg, hk, hzk]
      | (apply ldQ_whole)
      | simp -implicitDefEqProofs (disch := omega) only [w64, if_neg]
    refine callQ3 (hp := hC) er_cl er_cl (er_asl_eq ?_) ?_
    · have e : (w.drop (k + 1)).take (w.length - (k + 1)) = w.drop (k + 1) := List.take_of_length_le (by rw [List.length_drop]; omega)
      simp only [Int.toNat_natCast, Nat.zero_add, List.drop_zero, List.nil_append, List.map_append, e]
    repeat' with_reducible first
      | refine ewp_ret ?_
      | simp -implicitDefEqProofs only [wA, Nat.reduceEqDiff, ↓reduceIte, reduceCtorEq, Nat.reduceAdd, Int.cast_ofNat_Int, Int.reduceLT, Int.reduceLE, Int.reduceEq, Int.reduceToNat, decide_true, decide_false, Bool.false_eq_true, f0]
    all_goals refine post1 rfl (Or.inr rfl) ?_
    all_goals (try simp -implicitDefEqProofs only [wL, Nat.reduceEqDiff, ↓reduceIte, reduceCtorEq])
    all_goals (first | refine er_bool ?_ | refine er_int ?_ | refine er_str ?_ | refine er_sl_eq ?_ | refine er_asl_eq ?_)
    all_goals (try (with_reducible rfl))
  · rw [if_neg h2] at hwant
    subst hwant
    repeat' with_reducible first
      | refine ewp_reg_seq ?_ | refine ewp_seq ?_ | refine ewp_skip ?_ | refine xt_n ?_ | refine ewp_condQ ?_
      | simp -implicitDefEqProofs only [wA, Nat.reduceEqDiff, ↓reduceIte, reduceCtorEq, Nat.reduceAdd, Int.cast_ofNat_Int, Int.reduceLT, Int.reduceLE, Int.reduceEq, Int.reduceToNat, decide_true, decide_false, Bool.false_eq_true, f0, f1, f7, f9, f10, f12, h9, h10, hk, hzk]
      | (refine condQ_i (fun h => ?_) (fun h => ?_) <;> have h_ := h <;> (try simp only [wD, reduceCtorEq] at h_) <;> (try (exfalso; first | omega | exact bf h_ (by assumption) | exact bt h_ (by assumption) | (refine absurd ?_ h_; focus assumption) | (refine absurd h_ ?_; focus assumption))) <;> (try simp only [h]))
      | (apply ldQ_whole)
    refine callQB3 (hp := hE) er_cl er_cl ?_ rfl (Flat.int _ _) ?_
    · simp only [wM]; exact hv
    repeat' with_reducible first
      | refine L_gdQ ?_ | refine gdQ_FF ?_
      | simp -implicitDefEqProofs only [wA, Nat.reduceEqDiff, ↓reduceIte, reduceCtorEq, Nat.reduceAdd, Int.cast_ofNat_Int, Int.reduceLT, Int.reduceLE, Int.reduceEq, Int.reduceToNat, decide_true, decide_false, Bool.false_eq_true, f0, f1, f7, f9, f10, f12, h9, h10, hk, hzk]
      | (apply ldQ_whole)
    refine callQB3 (hp := hH) er_cl er_cl (er_mI (w := w) (ro := false) ?_ rfl) rfl (Flat.int _ _) ?_
    · simp only [wM]; exact h7
    repeat' with_reducible first
      | refine ewp_reg_seq ?_ | refine ewp_skip ?_ | refine xt_n ?_ | refine ewp_condQ ?_ | refine condQ_F ?_ | refine L_gdQ ?_ | refine gdQ_FF ?_
      | simp -implicitDefEqProofs only [wA, Nat.reduceEqDiff, ↓reduceIte, reduceCtorEq, Nat.reduceAdd, Int.cast_ofNat_Int, Int.reduceLT, Int.reduceLE, Int.reduceEq, Int.reduceToNat, decide_true, decide_false, Bool.false_eq_true, f0, f1, f7, f9, f10, f12, h9, h10, hk, hzk]
      | (apply slQ_mhi; (focus omega); (focus omega))
      | (apply callQ2 (hp := yuccaref0_Within ?_ ?_); (focus (first | exact er_intsL | exact er_cl | exact er_sl | exact er_asl)); (focus (first | exact er_intsL | exact er_cl | exact er_sl | exact er_asl)); rotate_left; (focus (first | assumption | omega | (simp only [wZ]; omega) | trivial)); (focus (first | assumption | omega | (simp only [wZ]; omega) | trivial)))
    refine appQ_Ow rfl (srcV_m (w := w) (ro := false) ?_ (by omega)) (by simp only [List.length_map, List.length_take, List.length_drop, List.length_nil, List.length_append]; omega) (by unfold maxLen; simp only [List.length_map, List.length_take, List.length_drop, List.length_nil, List.length_append]; omega) ?_
    · simp only [wM]; exact h7
    repeat' with_reducible first
      | simp -implicitDefEqProofs only [wA, Nat.reduceEqDiff, ↓reduceIte, reduceCtorEq, Nat.reduceAdd, Int.cast_ofNat_Int, Int.reduceLT, Int.reduceLE, Int.reduceEq, Int.reduceToNat, decide_true, decide_false, Bool.false_eq_true, f0, f1, f7, f9, f10, f12, h9, h10, hk, hzk]
      | (apply slQ_mlo; (focus omega); (focus omega))
    refine appQ_Tw rfl ?_ (srcV_m (w := w) (ro := false) ?_ (by omega)) (by simp only [List.length_map, List.length_take, List.length_drop, List.length_nil, List.length_append]; omega) (by unfold maxLen; simp only [List.length_map, List.length_take, List.length_drop, List.length_nil, List.length_append]; omega) ?_
    · simp only [wM]; repeat first | rw [if_pos trivial] | rw [if_pos rfl] | rw [if_neg (by omega)]
    · simp only [wM]; repeat first | rw [if_pos trivial] | rw [if_pos rfl] | rw [if_neg (by omega)]
      exact h7
    have h10' : i10 < s0.next := l10
    repeat' with_reducible first
      | refine ewp_reg_seq ?_
      | simp -implicitDefEqProofs only [wA, Nat.reduceEqDiff, ↓reduceIte, reduceCtorEq, Nat.reduceAdd, Int.cast_ofNat_Int, Int.reduceLT, Int.reduceLE, Int.reduceEq, Int.reduceToNat, decide_true, decide_false, Bool.false_eq_true, f0, f1, f7, f9, f10, f12, h9, h10, if_neg, hk, hzk]
      | (apply ldQ_whole)
      | simp -implicitDefEqProofs (disch := omega) only [w64, if_neg]
    refine callQ3 (hp := hC) er_cl er_cl (er_asl_eq ?_) ?_
    · have e : (w.drop (k + 1)).take (w.length - (k + 1)) = w.drop (k + 1) := List.take_of_length_le (by rw [List.length_drop]; omega)
      simp only [Int.toNat_natCast, Nat.zero_add, List.drop_zero, List.nil_append, List.map_append, e]
    repeat' with_reducible first
      | refine ewp_ret ?_
      | simp -implicitDefEqProofs only [wA, Nat.reduceEqDiff, ↓reduceIte, reduceCtorEq, Nat.reduceAdd, Int.cast_ofNat_Int, Int.reduceLT, Int.reduceLE, Int.reduceEq, Int.reduceToNat, decide_true, decide_false, Bool.false_eq_true, f0]
    all_goals refine post1 rfl (Or.inr rfl) ?_
    all_goals (try simp -implicitDefEqProofs only [wL, Nat.reduceEqDiff, ↓reduceIte, reduceCtorEq])
    all_goals (first | refine er_bool ?_ | refine er_int ?_ | refine er_str ?_ | refine er_sl_eq ?_ | refine er_asl_eq ?_)
    all_goals (try (with_reducible rfl))
end Go.Proofs


set_option maxHeartbeats 4000000
set_option maxRecDepth 20000
namespace Go.Proofs
open Go.E

/-- n + 1 things and signs between. -/
def altS (x p : Int) : Nat → List Int
  | 0 => [x]
  | n + 1 => altS x p n ++ [p, x]
theorem altS_len (x p : Int) (n : Nat) : (altS x p n).length = 2 * n + 1 := by
  induction n with
  | zero => rfl
  | succ n ih => unfold altS; rw [List.length_append, ih]; simp; omega
theorem altS_w (x p : Int) (n : Nat) : AltW (altS x p n) (n + 1) x p := by
  refine ⟨by rw [altS_len]; omega, ?_⟩
  induction n with
  | zero => intro k hk; have e : k = 0 := by omega
            subst e; rfl
  | succ n ih =>
    intro k hk
    unfold altS
    by_cases h : k < 2 * n + 1
    · rw [List.getElem?_append_left (by rw [altS_len]; exact h)]; exact ih k (by omega)
    · rw [List.getElem?_append_right (by rw [altS_len]; omega), altS_len]
      by_cases h2 : k = 2 * n + 1
      · subst h2; rw [if_neg (by omega)]; simp
      · have e : k = 2 * n + 2 := by omega
        subst e; rw [if_pos (by omega), show 2 * n + 2 - (2 * n + 1) = 1 by omega]; rfl
theorem altS_flip (n : Nat) (x p : Int) : (altS x p n).map (fun t => 7 - t) = altS (7 - x) (7 - p) n := by
  induction n with
  | zero => rfl
  | succ n ih => unfold altS; rw [List.map_append, ih]; rfl
theorem altS_sum {x p : Int} (hxp : x ≠ p) (n : Nat) : wsum (wgtS x p) (altS x p n) = 1 := by
  induction n with
  | zero => simp [altS, wsum, wgtS]
  | succ n ih =>
    unfold wsum at *
    unfold altS
    rw [List.map_append, List.sum_append, ih]
    simp [wgtS, Ne.symm hxp]
theorem altS_mem {x p t : Int} {n : Nat} (h : t ∈ altS x p n) : t = x ∨ t = p := by
  induction n with
  | zero => simp [altS] at h; exact Or.inl h
  | succ n ih =>
    unfold altS at h
    rcases List.mem_append.1 h with h | h
    · exact ih h
    · simp at h; omega
/-- What is left when one is cut out. -/
theorem cut_sum {x p : Int} (hxp : x ≠ p) (n k : Nat) (hk : k < (altS x p n).length) : wsum (wgtS x p) ((altS x p n).take k ++ (altS x p n).drop (k + 1)) ≠ 1 := by
  have h := altS_sum hxp n
  have hm := altS_mem (List.getElem_mem hk)
  have e : altS x p n = (altS x p n).take k ++ (altS x p n)[k] :: (altS x p n).drop (k + 1) := by rw [← List.drop_eq_getElem_cons hk, List.take_append_drop]
  generalize hT : (altS x p n).take k = A at *
  generalize hD : (altS x p n).drop (k + 1) = B at *
  generalize hC : (altS x p n)[k] = c at *
  rw [e] at h
  unfold wsum at *
  simp only [List.map_append, List.map_cons, List.sum_append, List.sum_cons] at *
  rcases hm with rfl | rfl
  · simp only [wgtS, if_true] at h ⊢; omega
  · have : wgtS x c c = -1 := by unfold wgtS; rw [if_neg (Ne.symm hxp), if_pos rfl]
    rw [this] at h; omega
/-- The first ones turned over. -/
def flipP (q : Nat) (w : List Int) : List Int := (w.take q).map (fun t => 7 - t) ++ w.drop q
theorem flipP_len (q : Nat) (w : List Int) : (flipP q w).length = w.length := by unfold flipP; simp; omega
theorem flipP_0 (w : List Int) : flipP 0 w = w := by simp [flipP]
theorem flipP_all (w : List Int) : flipP w.length w = w.map (fun t => 7 - t) := by simp [flipP]
theorem flipP_get {q : Nat} {w : List Int} (h : q < w.length) : (flipP q w)[q]? = some w[q] := by
  unfold flipP
  rw [List.getElem?_append_right (by simp; omega)]
  simp [Nat.min_eq_left (Nat.le_of_lt h), h]
theorem flipP_set {q : Nat} {w : List Int} (h : q < w.length) : (flipP q w).set q (7 - w[q]) = flipP (q + 1) w := by
  unfold flipP
  rw [List.set_append_right _ _ (by simp; omega)]
  have e : q - ((w.take q).map (fun t => 7 - t)).length = 0 := by simp; omega
  rw [e, List.drop_eq_getElem_cons h, List.set_cons_zero, List.take_add_one, List.getElem?_eq_getElem h, List.map_append, List.append_assoc]
  rfl

/-- What counting tells of the words. -/
theorem want_E {a : Nat} (ha : a ≤ 11) : Pure Try.prog 13 [(gramS (srcOf tE)).V, vi 1001, .sl 1 false ((altS 4 3 a).map (V.int .i64))] (vi (if 2 < a + 1 then 2 else 1)) := by
  have := cnt_E (w := altS 4 3 a) (n := a + 1) (by omega) (altS_w 4 3 a) (by rw [altS_len]; omega)
  by_cases h : 2 < a + 1
  · rw [if_pos h]; rw [if_neg (by omega)] at this; exact this
  · rw [if_neg h]; rw [if_pos (by omega)] at this; exact this
theorem one_L {a : Nat} (ha : a ≤ 11) : Pure Try.prog 13 [(gramS (srcOf tL)).V, vi 1001, .sl 1 false ((altS 4 3 a).map (V.int .i64))] (vi 1) := cnt_L (n := a + 1) (by omega) (altS_w 4 3 a) (by rw [altS_len]; omega)
theorem one_R {a : Nat} (ha : a ≤ 11) : Pure Try.prog 13 [(gramS (srcOf tR)).V, vi 1001, .sl 1 false ((altS 3 4 a).map (V.int .i64))] (vi 1) := cnt_R (n := a + 1) (by omega) (altS_w 3 4 a) (by rw [altS_len]; omega)
theorem none_L {a : Nat} (ha : a ≤ 11) (k : Nat) (hk : k < (altS 4 3 a).length) : Pure Try.prog 13 [(gramS (srcOf tL)).V, vi 1001, .sl 1 false (((altS 4 3 a).take k ++ (altS 4 3 a).drop (k + 1)).map (V.int .i64))] (vi 0) :=
  cnt_L0 (by have := altS_len 4 3 a; simp only [List.length_append, List.length_take, List.length_drop]; omega) (cut_sum (by decide) a k hk)
theorem none_R {a : Nat} (ha : a ≤ 11) (k : Nat) (hk : k < (altS 3 4 a).length) : Pure Try.prog 13 [(gramS (srcOf tR)).V, vi 1001, .sl 1 false (((altS 3 4 a).take k ++ (altS 3 4 a).drop (k + 1)).map (V.int .i64))] (vi 0) :=
  cnt_R0 (by have := altS_len 3 4 a; simp only [List.length_append, List.length_take, List.length_drop]; omega) (cut_sum (by decide) a k hk)

theorem yuccalaw14_ManySums {n at_ : Int} {left : Bool} : Pure Try.prog 4 [vi n, vi at_, .bool left] (.bool true) := by
  refine pure_intro Try.func4 e4_nm e4b_ok (by show 3 ≤ 101; decide) ?_
  have hw := wakes_pure
  obtain ⟨a, ha⟩ : ∃ a : Nat, n % 12 = a := ⟨(n % 12).toNat, by omega⟩
  have ha2 : a ≤ 11 := by omega
  have hza : IntKind.i64.wrap (1 + (a : Int)) = ((a + 1 : Nat) : Int) := by rw [wrap64 (by omega) (by omega)]; omega
  have wE := want_E ha2; have wL1 := one_L ha2; have wR1 := one_R ha2; have wL0 := none_L ha2; have wR0 := none_R ha2
  have oE := of_E; have oL := of_L; have oR := of_R
  generalize hg1 : (gramS (srcOf tE)) = GE at *
  generalize hg2 : (gramS (srcOf tL)) = GL at *
  generalize hg3 : (gramS (srcOf tR)) = GR at *
  clear hg1 hg2 hg3
  show ewp _ (.seq (.reg e4r0) (.seq e4n5 (.seq (.reg e4r6) (.seq (.reg e4r7) (.seq e4n19 (.seq (.reg e4r20) (.seq e4n37 (.seq (.reg e4r38) (.seq e4n55 e4bn74))))))))) _ _
  have tail := @sumsEnd
  generalize e4bn74 = F at tail
  repeat' with_reducible first
    | refine ewp_reg_seq ?_ | refine ewp_seq ?_ | refine ewp_skip ?_ | refine ewp_block ?_ | refine xt_n ?_ | refine ewp_condQ ?_ | refine condQ_F ?_
    | simp -implicitDefEqProofs only [wA, Nat.reduceEqDiff, ↓reduceIte, reduceCtorEq, Nat.reduceAdd, Int.cast_ofNat_Int, Int.reduceLT, Int.reduceLE, Int.reduceEq, Int.reduceToNat, decide_true, decide_false, Bool.false_eq_true, ha, hza]
    | (apply callQ0 (hp := hw))
    | (apply callQ2 (hp := yuccaref0_Within ?_ ?_); (focus (first | exact er_intsL | exact er_cl | exact er_sl | exact er_asl)); (focus (first | exact er_intsL | exact er_cl | exact er_sl | exact er_asl)); rotate_left; (focus (first | assumption | omega | (simp only [wZ]; omega) | trivial)); (focus (first | assumption | omega | (simp only [wZ]; omega) | trivial)))
  refine ewp_loopN ?nx1 (fun (p : Nat × Nat) s => s.f 0 = ?v1_0 ∧ s.f 1 = ?v1_1 ∧ s.f 2 = ?v1_2 ∧ s.f 7 = .msl p.2 1 0 (2 * p.1 + 1) ∧ s.f 8 = vi ((p.1 + 1 : Nat) : Int) ∧ (p.1 ≤ a) ∧ ((s.H p.2 = some (.own 1 ((altS 4 3 p.1).map (V.int .i64)) false))) ∧ (p.2 < s.next)) (fun p => a - p.1) ((0, 7)) (by simp -implicitDefEqProofs only [wN, Nat.reduceAdd, Nat.zero_add]; exact Nat.le_refl _) (by refine ⟨?_, ?_, ?_, ?_, ?_, (by first | omega | (simp; done) | assumption), (by simp only [wM]; rfl), (by simp only [wN]; omega)⟩ <;> first | (simp -implicitDefEqProofs only [wL, wM, wN, wX, Nat.reduceEqDiff, ↓reduceIte, reduceCtorEq, Nat.reduceAdd, Option.some.injEq] <;> first | rfl | exact ⟨_, rfl⟩ | exact ⟨_, rfl, by first | assumption | exact Gr.nil | exact Gr.tok rfl (by omega) | exact Gr.tok (by simp -implicitDefEqProofs only [wM, Nat.reduceEqDiff, ↓reduceIte, reduceCtorEq] <;> rfl) (by omega) | exact Gr.clip⟩) | rfl | exact ⟨_, rfl⟩) ?_
  intro p s hnx ⟨g0, g1, g2, g7, g8, k1_0, k1_1, k1_2⟩
  obtain ⟨m, iw⟩ := p
  dsimp only at *
  have hzm : IntKind.i64.wrap ((m + 1 + 1 : Nat) : Int) = ((m + 1 + 1 : Nat) : Int) := wrap64 (by omega) (by omega)
  have hL := altS_len 4 3 m
  by_cases hm : m < a
  · have hL2 : ((altS 4 3 m).map (V.int .i64)).length = 2 * m + 1 := by rw [List.length_map, hL]
    have hLn : 2 * m + 1 + 2 = 2 * (m + 1) + 1 := by omega
    have hap : (altS 4 3 m).map (V.int .i64) ++ [V.int .i64 3, V.int .i64 4] = (altS 4 3 (m + 1)).map (V.int .i64) := by
      show _ = (altS 4 3 m ++ [3, 4]).map (V.int .i64)
      rw [List.map_append]; rfl
    repeat' with_reducible first
      | refine ewp_reg_seq ?_ | refine ewp_seq ?_ | refine ewp_reg ?_ | refine ewp_skip ?_ | refine ewp_block ?_ | refine xt_n ?_ | refine ewp_condQ ?_
      | simp -implicitDefEqProofs only [wA, Nat.reduceEqDiff, ↓reduceIte, reduceCtorEq, Nat.reduceAdd, Int.cast_ofNat_Int, Int.reduceLT, Int.reduceLE, Int.reduceEq, Int.reduceToNat, decide_true, decide_false, Bool.false_eq_true, g0, g1, g2, g7, g8, hzm]
      | (refine condQ_i (fun h => ?_) (fun h => ?_) <;> have h_ := h <;> (try simp only [wD, reduceCtorEq] at h_) <;> (try (exfalso; first | omega | exact bf h_ (by assumption) | exact bt h_ (by assumption) | (refine absurd ?_ h_; focus assumption) | (refine absurd h_ ?_; focus assumption))) <;> (try simp only [h]))
    refine appQ_msl (es := (altS 4 3 m).map (V.int .i64)) rfl (by simp only [wM]; exact k1_1) hL2.symm SrcN.sl (by rw [hL2]; simp; omega) (by unfold maxLen; rw [hL2]; simp; omega) ?_
    rw [hL2, hap]
    repeat' with_reducible first
      | refine ewp_reg ?_ | refine xt_n ?_ | refine xb_n ?_
      | simp -implicitDefEqProofs only [wA, Nat.reduceEqDiff, ↓reduceIte, reduceCtorEq, Nat.reduceAdd, Int.cast_ofNat_Int, Int.reduceLT, Int.reduceLE, Int.reduceEq, Int.reduceToNat, decide_true, decide_false, Bool.false_eq_true, g0, g1, g2, g7, g8, hzm]
    refine ⟨by omega, (m + 1, s.next + 3 + 2), by dsimp only; omega, trivial, trivial, trivial, by dsimp only; rw [hLn], rfl, by dsimp only; omega, by dsimp only; rw [if_pos rfl], by dsimp only; omega⟩
  · have em : m = a := by omega
    subst em
    cases left with
    | true =>
      repeat' with_reducible first
        | refine ewp_reg_seq ?_ | refine ewp_seq ?_ | refine ewp_skip ?_ | refine ewp_exit ?_ | refine xt_n ?_ | refine xt_e ?_ | refine xb_e ?_ | refine ewp_condQ ?_ | refine condQ_F ?_
        | simp -implicitDefEqProofs only [wA, Nat.reduceEqDiff, ↓reduceIte, reduceCtorEq, Nat.reduceAdd, Int.cast_ofNat_Int, Int.reduceLT, Int.reduceLE, Int.reduceEq, Int.reduceToNat, decide_true, decide_false, Bool.false_eq_true, g0, g1, g2, g7, g8]
        | (apply callQ1 (hp := oE); (focus (first | exact er_cl | exact er_sl)))
        | (apply callQ1 (hp := oL); (focus (first | exact er_cl | exact er_sl)))
        | (apply fil_part; (focus with_unfolding_all rfl); (focus with_unfolding_all rfl); (focus with_unfolding_all rfl); (focus ((try simp -implicitDefEqProofs only [wY]); rfl)))
        | (apply stQ_whole; (focus with_unfolding_all rfl); (focus with_unfolding_all rfl))
        | simp -implicitDefEqProofs (disch := omega) only [w64, if_neg]
      exact tail (a := m + 1) (at_ := at_) (iw := iw) (i9 := s.next + 3 + 4) (i10 := s.next + 3 + 5) (w := altS 4 3 m) (v := altS 4 3 m) (GE := GE) (GH := GL) (by omega) rfl (by simp -implicitDefEqProofs only [wL, Nat.reduceEqDiff, ↓reduceIte, reduceCtorEq, g0, g1, g2, g7, hL]) (by simp -implicitDefEqProofs only [wL, Nat.reduceEqDiff, ↓reduceIte, reduceCtorEq, g0, g1, g2, g7, hL]) (by simp -implicitDefEqProofs only [wL, Nat.reduceEqDiff, ↓reduceIte, reduceCtorEq, g0, g1, g2, g7, hL]) rfl (by simp -implicitDefEqProofs only [wL, Nat.reduceEqDiff, ↓reduceIte, reduceCtorEq, g0, g1, g2, g7, hL]) (by simp -implicitDefEqProofs only [wL, Nat.reduceEqDiff, ↓reduceIte, reduceCtorEq, g0, g1, g2, g7, hL]) (by (simp only [wM]; (repeat first | rw [if_pos trivial] | rw [if_pos rfl] | rw [if_pos (by omega)] | rw [if_neg (by omega)])); exact k1_1) (by (simp only [wM]; (repeat first | rw [if_pos trivial] | rw [if_pos rfl] | rw [if_pos (by omega)] | rw [if_neg (by omega)]))) (by (simp only [wM]; (repeat first | rw [if_pos trivial] | rw [if_pos rfl] | rw [if_pos (by omega)] | rw [if_neg (by omega)]))) (by simp only [wN]; omega) (by simp only [wN]; omega) (by omega) (er_mI (ro := false) (by (simp only [wM]; (repeat first | rw [if_pos trivial] | rw [if_pos rfl] | rw [if_pos (by omega)] | rw [if_neg (by omega)])); exact k1_1) (by omega)) wE wL1 wL0
    | false =>
      have hmem : ∀ q (h : q < (altS 4 3 m).length), (altS 4 3 m)[q] = 4 ∨ (altS 4 3 m)[q] = 3 := fun q h => altS_mem (List.getElem_mem h)
      have hfl : (altS 4 3 m).map (fun t => 7 - t) = altS 3 4 m := altS_flip m 4 3
      have hL3 := altS_len 3 4 m
      obtain ⟨i9, e9⟩ : ∃ i9, i9 = s.next + 3 + 4 := ⟨_, rfl⟩
      obtain ⟨i10, e10⟩ : ∃ i10, i10 = s.next + 3 + 5 := ⟨_, rfl⟩
      repeat' with_reducible first
        | refine ewp_reg_seq ?_ | refine ewp_seq ?_ | refine ewp_block ?_ | refine ewp_exit ?_ | refine xt_n ?_ | refine xt_e ?_ | refine xb_e ?_ | refine ewp_condQ ?_ | refine condQ_T ?_ | refine condQ_F ?_
        | simp -implicitDefEqProofs only [wA, Nat.reduceEqDiff, ↓reduceIte, reduceCtorEq, Nat.reduceAdd, Int.cast_ofNat_Int, Int.reduceLT, Int.reduceLE, Int.reduceEq, Int.reduceToNat, decide_true, decide_false, Bool.false_eq_true, g0, g1, g2, g7, g8]
        | (apply callQ1 (hp := oE); (focus (first | exact er_cl | exact er_sl)))
        | (apply callQ1 (hp := oL); (focus (first | exact er_cl | exact er_sl)))
        | (apply callQ1 (hp := oR); (focus (first | exact er_cl | exact er_sl)))
        | (apply fil_part; (focus with_unfolding_all rfl); (focus with_unfolding_all rfl); (focus with_unfolding_all rfl); (focus ((try simp -implicitDefEqProofs only [wY]); rfl)))
        | (apply stQ_whole; (focus with_unfolding_all rfl); (focus with_unfolding_all rfl))
        | simp -implicitDefEqProofs (disch := omega) only [w64, if_neg]
      rw [← e9, ← e10]
      refine ewp_loopN ?nx2 (fun (q : Nat) s => s.f 0 = ?v2_0 ∧ s.f 1 = ?v2_1 ∧ s.f 2 = ?v2_2 ∧ s.f 7 = ?v2_7 ∧ s.f 9 = ?v2_9 ∧ s.f 10 = ?v2_10 ∧ s.f 11 = vi q ∧ (q ≤ 2 * m + 1) ∧ ((s.H iw = some (.own 1 ((flipP q (altS 4 3 m)).map (V.int .i64)) false))) ∧ ((s.H i9 = some (.own 5 [GE.V] false))) ∧ ((s.H i10 = some (.own 5 [GR.V] false)))) (fun q => 2 * m + 1 - q) (0) (by simp -implicitDefEqProofs only [wN, Nat.reduceAdd, Nat.zero_add]; exact Nat.le_refl _) (by refine ⟨?_, ?_, ?_, ?_, ?_, ?_, ?_, (by first | omega | (simp; done) | assumption), (by (simp only [wM]; (repeat first | rw [if_pos trivial] | rw [if_pos rfl] | rw [if_pos (by omega)] | rw [if_neg (by omega)])); rw [flipP_0]; exact k1_1), (by (simp only [wM]; (repeat first | rw [if_pos trivial] | rw [if_pos rfl] | rw [if_pos (by omega)] | rw [if_neg (by omega)])); first | done | assumption), (by (simp only [wM]; (repeat first | rw [if_pos trivial] | rw [if_pos rfl] | rw [if_pos (by omega)] | rw [if_neg (by omega)])); first | done | assumption)⟩ <;> first | (simp -implicitDefEqProofs only [wL, wM, wN, wX, Nat.reduceEqDiff, ↓reduceIte, reduceCtorEq, Nat.reduceAdd, Option.some.injEq, g0, g1, g2, g7, g8] <;> first | rfl | exact ⟨_, rfl⟩ | exact ⟨_, rfl, by first | assumption | exact Gr.nil | exact Gr.tok rfl (by omega) | exact Gr.tok (by simp -implicitDefEqProofs only [wM, Nat.reduceEqDiff, ↓reduceIte, reduceCtorEq] <;> rfl) (by omega) | exact Gr.clip⟩) | rfl | exact ⟨_, rfl⟩) ?_
      intro q s hnx ⟨g0, g1, g2, g7, g9, g10, g11, k2_0, k2_1, k2_2, k2_3⟩
      have hzq : IntKind.i64.wrap ((q + 1 : Nat) : Int) = ((q + 1 : Nat) : Int) := wrap64 (by omega) (by omega)
      by_cases hq : q < 2 * m + 1
      · have hq2 : q < (altS 4 3 m).length := by omega
        have hg := flipP_get hq2
        have hst := flipP_set hq2
        have hfq := flipP_len q (altS 4 3 m)
        have hmq := hmem q hq2
        generalize (altS 4 3 m)[q] = x at *
        have hz7 : IntKind.i64.wrap (7 - x) = 7 - x := wrap64 (by omega) (by omega)
        repeat' with_reducible first
          | refine ewp_reg_seq ?_ | refine ewp_seq ?_ | refine ewp_reg ?_ | refine ewp_skip ?_ | refine ewp_block ?_ | refine xt_n ?_ | refine xb_n ?_ | refine ewp_condQ ?_
          | simp -implicitDefEqProofs only [wA, Nat.reduceEqDiff, ↓reduceIte, reduceCtorEq, Nat.reduceAdd, Int.cast_ofNat_Int, Int.reduceLT, Int.reduceLE, Int.reduceEq, Int.reduceToNat, decide_true, decide_false, Bool.false_eq_true, g0, g1, g2, g7, g9, g10, g11, hzq, k2_1, hz7, hst]
          | (refine condQ_i (fun h => ?_) (fun h => ?_) <;> have h_ := h <;> (try simp only [wD, reduceCtorEq] at h_) <;> (try (exfalso; first | omega | exact bf h_ (by assumption) | exact bt h_ (by assumption) | (refine absurd ?_ h_; focus assumption) | (refine absurd h_ ?_; focus assumption))) <;> (try simp only [h]))
          | (apply ia_mslQ; (focus omega); (focus (first | assumption | omega | (simp only [wZ]; omega) | trivial)))
          | (apply ldQ_obj; (focus (first | assumption | exact List.getElem?_eq_getElem (by omega) | rfl)); (focus with_unfolding_all rfl))
          | (apply stQ_obj; (focus (first | assumption | omega | (simp only [wZ]; omega) | trivial)); (focus with_unfolding_all rfl); (focus with_unfolding_all rfl); (focus (intro _; with_unfolding_all rfl)))
          | simp -implicitDefEqProofs (disch := omega) only [w64, if_neg]
        refine ⟨by omega, q + 1, by omega, trivial, trivial, trivial, trivial, trivial, trivial, rfl, by omega, rfl, k2_2, k2_3⟩
      · have eq : q = (altS 4 3 m).length := by omega
        subst eq
        rw [flipP_all, hfl] at k2_1
        repeat' with_reducible first
          | refine ewp_reg_seq ?_ | refine ewp_seq ?_ | refine ewp_block ?_ | refine ewp_exit ?_ | refine xt_n ?_ | refine xt_e ?_ | refine xb_e ?_ | refine ewp_condQ ?_ | refine condQ_T ?_
          | simp -implicitDefEqProofs only [wA, Nat.reduceEqDiff, ↓reduceIte, reduceCtorEq, Nat.reduceAdd, Int.cast_ofNat_Int, Int.reduceLT, Int.reduceLE, Int.reduceEq, Int.reduceToNat, decide_true, decide_false, Bool.false_eq_true, g0, g1, g2, g7, g9, g10, g11]
          | (refine condQ_i (fun h => ?_) (fun h => ?_) <;> have h_ := h <;> (try simp only [wD, reduceCtorEq] at h_) <;> (try (exfalso; first | omega | exact bf h_ (by assumption) | exact bt h_ (by assumption) | (refine absurd ?_ h_; focus assumption) | (refine absurd h_ ?_; focus assumption))) <;> (try simp only [h]))
        refine ewp_loopN ?nx3 (fun (q : Nat) s => s.f 0 = ?v3_0 ∧ s.f 1 = ?v3_1 ∧ s.f 7 = ?v3_7 ∧ s.f 9 = ?v3_9 ∧ s.f 10 = ?v3_10 ∧ (∃ v, s.f 12 = v ∧ Gr s.H s.next 1 (((altS 4 3 m).take q).map (V.int .i64)) v) ∧ s.f 13 = vi q ∧ (q ≤ 2 * m + 1) ∧ ((s.H iw = some (.own 1 ((altS 3 4 m).map (V.int .i64)) false))) ∧ ((s.H i9 = some (.own 5 [GE.V] false))) ∧ ((s.H i10 = some (.own 5 [GR.V] false)))) (fun q => 2 * m + 1 - q) (0) (by simp -implicitDefEqProofs only [wN, Nat.reduceAdd, Nat.zero_add]; exact Nat.le_refl _) (by refine ⟨?_, ?_, ?_, ?_, ?_, ?_, ?_, (by first | omega | (simp; done) | assumption), (by (simp only [wM]; (repeat first | rw [if_pos trivial] | rw [if_pos rfl] | rw [if_pos (by omega)] | rw [if_neg (by omega)])); assumption), (by (simp only [wM]; (repeat first | rw [if_pos trivial] | rw [if_pos rfl] | rw [if_pos (by omega)] | rw [if_neg (by omega)])); first | done | assumption), (by (simp only [wM]; (repeat first | rw [if_pos trivial] | rw [if_pos rfl] | rw [if_pos (by omega)] | rw [if_neg (by omega)])); first | done | assumption)⟩ <;> first | (simp -implicitDefEqProofs only [wL, wM, wN, wX, Nat.reduceEqDiff, ↓reduceIte, reduceCtorEq, Nat.reduceAdd, Option.some.injEq, g0, g1, g2, g7, g9, g10, g11] <;> first | rfl | exact ⟨_, rfl⟩ | exact ⟨_, rfl, by first | assumption | exact Gr.nil | exact Gr.tok rfl (by omega) | exact Gr.tok (by simp -implicitDefEqProofs only [wM, Nat.reduceEqDiff, ↓reduceIte, reduceCtorEq] <;> rfl) (by omega) | exact Gr.clip⟩) | rfl | exact ⟨_, rfl⟩) ?_
        intro q s hnx ⟨g0, g1, g7, g9, g10, ⟨v12, g12, G12⟩, g13, k3_0, k3_1, k3_2, k3_3⟩
        have hzq : IntKind.i64.wrap ((q + 1 : Nat) : Int) = ((q + 1 : Nat) : Int) := wrap64 (by omega) (by omega)
        have hlt : ((altS 4 3 m).take q).length = q := by rw [List.length_take]; omega
        by_cases hq : q < 2 * m + 1
        · have hq2 : q < (altS 4 3 m).length := by omega
          have hmq := hmem q hq2
          have hg : (altS 3 4 m)[q]? = some (7 - (altS 4 3 m)[q]) := by rw [← hfl, List.getElem?_map, List.getElem?_eq_getElem hq2]; rfl
          have htk : (altS 4 3 m).take (q + 1) = (altS 4 3 m).take q ++ [(altS 4 3 m)[q]] := by rw [List.take_add_one, List.getElem?_eq_getElem hq2]; rfl
          generalize (altS 4 3 m)[q] = x at *
          have hz7 : IntKind.i64.wrap (7 - (7 - x)) = x := by rw [wrap64 (by omega) (by omega)]; omega
          repeat' with_reducible first
            | refine ewp_reg_seq ?_ | refine ewp_seq ?_ | refine ewp_reg ?_ | refine ewp_skip ?_ | refine ewp_block ?_ | refine xt_n ?_ | refine xb_n ?_ | refine ewp_condQ ?_
            | simp -implicitDefEqProofs only [wA, Nat.reduceEqDiff, ↓reduceIte, reduceCtorEq, Nat.reduceAdd, Int.cast_ofNat_Int, Int.reduceLT, Int.reduceLE, Int.reduceEq, Int.reduceToNat, decide_true, decide_false, Bool.false_eq_true, g0, g1, g7, g9, g10, g12, g13, hzq, k3_1, hz7, hlt, G12.len]
            | (refine condQ_i (fun h => ?_) (fun h => ?_) <;> have h_ := h <;> (try simp only [wD, reduceCtorEq] at h_) <;> (try (exfalso; first | omega | exact bf h_ (by assumption) | exact bt h_ (by assumption) | (refine absurd ?_ h_; focus assumption) | (refine absurd h_ ?_; focus assumption))) <;> (try simp only [h]))
            | (apply ia_mslQ; (focus omega); (focus (first | assumption | omega | (simp only [wZ]; omega) | trivial)))
            | (apply appQ_G (hg := G12); (focus (first | rfl | (simp -implicitDefEqProofs only [wM]; done))); (focus (first | exact SrcN.sl | exact SrcN.asl | exact SrcN.gr G12 | exact SrcN.str)); (focus (first | assumption | omega | (simp only [wZ]; omega) | trivial)); (focus (unfold maxLen; first | omega | (simp only [wZ]; omega))))
            | (apply ldQ_obj; (focus (first | assumption | exact List.getElem?_eq_getElem (by omega) | rfl)); (focus with_unfolding_all rfl))
            | simp -implicitDefEqProofs (disch := omega) only [w64, if_neg]
          refine ⟨by omega, q + 1, by omega, trivial, trivial, trivial, trivial, trivial, ⟨_, rfl, ?_⟩, rfl, by omega, G12.dropO k3_1, G12.dropO k3_2, G12.dropO k3_3⟩
          rw [htk]
          exact Gr.tok (by simp only [wM]; rw [if_pos trivial]) (by omega)
        · have eq : q = (altS 4 3 m).length := by omega
          subst eq
          rw [List.take_length] at G12
          repeat' with_reducible first
            | refine ewp_reg_seq ?_ | refine ewp_seq ?_ | refine ewp_exit ?_ | refine xt_n ?_ | refine xt_e ?_ | refine xb_e ?_ | refine ewp_condQ ?_
            | simp -implicitDefEqProofs only [wA, Nat.reduceEqDiff, ↓reduceIte, reduceCtorEq, Nat.reduceAdd, Int.cast_ofNat_Int, Int.reduceLT, Int.reduceLE, Int.reduceEq, Int.reduceToNat, decide_true, decide_false, Bool.false_eq_true, g0, g1, g7, g9, g10, g12, g13, G12.len]
            | (refine condQ_i (fun h => ?_) (fun h => ?_) <;> have h_ := h <;> (try simp only [wD, reduceCtorEq] at h_) <;> (try (exfalso; first | omega | exact bf h_ (by assumption) | exact bt h_ (by assumption) | (refine absurd ?_ h_; focus assumption) | (refine absurd h_ ?_; focus assumption))) <;> (try simp only [h]))
          exact tail (a := m + 1) (at_ := at_) (iw := iw) (i9 := i9) (i10 := i10) (w := altS 3 4 m) (v := altS 4 3 m) (GE := GE) (GH := GR) (by omega) rfl (by simp -implicitDefEqProofs only [wL, Nat.reduceEqDiff, ↓reduceIte, reduceCtorEq, g0, g1, g2, g7, g9, g10, g12, hL3]) (by simp -implicitDefEqProofs only [wL, Nat.reduceEqDiff, ↓reduceIte, reduceCtorEq, g0, g1, g2, g7, g9, g10, g12, hL3]) (by simp -implicitDefEqProofs only [wL, Nat.reduceEqDiff, ↓reduceIte, reduceCtorEq, g0, g1, g2, g7, g9, g10, g12, hL3]) rfl (by simp -implicitDefEqProofs only [wL, Nat.reduceEqDiff, ↓reduceIte, reduceCtorEq, g0, g1, g2, g7, g9, g10, g12, hL3]) (by simp -implicitDefEqProofs only [wL, Nat.reduceEqDiff, ↓reduceIte, reduceCtorEq, g0, g1, g2, g7, g9, g10, g12, hL3]) (by (simp only [wM]; (repeat first | rw [if_pos trivial] | rw [if_pos rfl] | rw [if_pos (by omega)] | rw [if_neg (by omega)])); exact k3_1) (by (simp only [wM]; (repeat first | rw [if_pos trivial] | rw [if_pos rfl] | rw [if_pos (by omega)] | rw [if_neg (by omega)])); exact k3_2) (by (simp only [wM]; (repeat first | rw [if_pos trivial] | rw [if_pos rfl] | rw [if_pos (by omega)] | rw [if_neg (by omega)])); exact k3_3) (by simp only [wN]; omega) (by simp only [wN]; omega) (by omega) (by simp -implicitDefEqProofs only [wL, Nat.reduceEqDiff, ↓reduceIte, reduceCtorEq, g0, g1, g2, g7, g9, g10, g12, hL3]; exact G12.er rfl) wE wR1 wR0
end Go.Proofs
