/-
  Part of a proof that a law of the given program answers true: contracts of its functions, and the law. Holds for inputs of at most 1048576 values and letters in all.
-/
import Derived.Test.YtpnfbnlhjdnnpaaDoorXXA
set_option linter.unusedSimpArgs false
set_option linter.unusedVariables false
set_option maxHeartbeats 4000000
set_option maxRecDepth 20000
namespace Go.Proofs
open Go.E
theorem minQ {P : Program} [Glob P] {cls : Cls} {id : Nat} {s : St} {K : V → St → Prop} {a b : Opd} {x y r : Int} (hr : (if y < x then y else x) = r) (ha : ev s a = .int .i64 x) (hb : ev s b = .int .i64 y) (hk : K (.int .i64 r) s) : stepOp P cls id s K (.minmax false [a, b]) := by
 rw [st_minmax]
 show onS (minmaxV false [ev s a, ev s b]) _
 rw [ha, hb]
 simp only [minmaxV, List.foldlM_cons, List.foldlM_nil, if_true]
 show onS (some (V.int .i64 (if y < x then y else x))) _
 rw [hr]; exact hk
theorem erA (i : Nat) {b : Bool} {H : Nat → Option MObj} : Er b H (.agg [.sl 6 true [.agg [.str (110 :: digS (i + 1)), .bool false, .int .i64 0, .int .i64 0, .str [], .int .i64 0], .agg [.str [UInt8.ofNat (97 + i)], .bool true, .int .i64 0, .int .i64 0, .str [], .int .i64 0]], .str [], .bool false, .int .i64 0, .int .i64 0, .int .i64 0]) (chA i).V :=
 ErL.agg (.cons (ErL.sl (.cons er_cl (.cons er_cl .nil))) (.cons (.str _) (.cons (.bool _) (.cons (.int _ _) (.cons (.int _ _) (.cons (.int _ _) .nil))))))
theorem erN {b : Bool} {H : Nat → Option MObj} : Er b H (.agg [.sl 6 true [], .str [], .bool false, .int .i64 0, .int .i64 0, .int .i64 0]) ({} : Alt).V :=
 ErL.agg (.cons (ErL.sl .nil) (.cons (.str _) (.cons (.bool _) (.cons (.int _ _) (.cons (.int _ _) (.cons (.int _ _) .nil))))))
theorem erZ (n : Nat) {b : Bool} {H : Nat → Option MObj} : Er b H (.agg [.str (110 :: digS n), .sl 6 true [.agg [.sl 6 true [.agg [.str [122], .bool true, .int .i64 0, .int .i64 0, .str [], .int .i64 0]], .str [], .bool false, .int .i64 0, .int .i64 0, .int .i64 0]], .int .i64 0]) (chZR n).V :=
 ErL.agg (.cons (.str _) (.cons (ErL.sl (.cons (ErL.agg (.cons (ErL.sl (.cons er_cl .nil)) (.cons (.str _) (.cons (.bool _) (.cons (.int _ _) (.cons (.int _ _) (.cons (.int _ _) .nil))))))) .nil)) (.cons (.int _ _) .nil)))
theorem growV (e : List Bool) {n : Nat} (hn : n ≤ 12) : Pure Tryd.prog 44 [(gramS (chainS e n)).V, .bool false] (.sl 1 false (bolC (gramS (chainS e n)).nons.length (EC e n))) := by
 obtain ⟨E, h, hp⟩ := vain_grow (token := false) (gok (gram_ch e hn).1)
 rw [(growC e hn).uniq h]; exact hp
theorem ofV_ch (e : List Bool) {n : Nat} (hn : n ≤ 12) : Pure Tryd.prog 17 [(gramS (chainS e n)).V] (.sl 1 false ((ofL (n + 2) (SC e n)).map intsV)) := by
 have := first_Of (gok (gram_ch e hn).1) (growV e hn) (firstC e hn)
 rw [(gram_ch e hn).2.2.2] at this
 exact this
theorem gramV (e : List Bool) {n : Nat} (hn : n ≤ 12) : Pure Tryd.prog 11 [(chainS e n).V] (.tup [(gramS (chainS e n)).V, .bool true]) := by
 have := yuccaref16_Grammar (fits_ch e hn) (fun _ => small_ch e hn)
 rw [(gram_ch e hn).1] at this
 exact this
theorem yuccalaw12_FirstChain {e : List Bool} (hl : e.length ≤ 1099511627776) : Pure Tryd.prog 5 [.sl 1 false (e.map V.bool)] (.bool true) := by
 refine pure_intro Tryd.func5 e5_nm e5_ok (by show 1 ≤ 124; decide) ?_
 show ewp _ e5n69 _ _
 have hw := yuccalaw12_wakes
 obtain ⟨n, hn⟩ : ∃ n : Nat, n = min e.length 12 := ⟨_, rfl⟩
 have hn12 : n ≤ 12 := by omega
 have hmin : (if (12 : Int) < (e.length : Int) then (12 : Int) else (e.length : Int)) = (n : Int) := by split <;> omega
 repeat' with_reducible first
  | refine ewp_reg_seq ?_ | refine ewp_seq ?_ | refine ewp_skip ?_ | refine ewp_block ?_ | refine xt_n ?_ | refine ewp_condQ ?_ | refine condQ_F ?_
  | simp -implicitDefEqProofs only [wA, Nat.reduceEqDiff, ↓reduceIte, reduceCtorEq, Nat.reduceAdd, Int.cast_ofNat_Int, Int.reduceLT, Int.reduceLE, Int.reduceEq, Int.reduceToNat, decide_true, decide_false, Bool.false_eq_true]
  | (apply callQ0 (hp := hw))
  | (apply minQ hmin; (exact wu_); (exact wu_))
 refine ewp_loopN ?nx1 (fun (i : Nat) s => s.f 0 = ?v1_0 ∧ s.f 3 = ?v1_3 ∧ s.f 4 = ?v1_4 ∧ s.f 5 = vi i ∧ (i ≤ n) ∧ ((∃ v es, s.H 7 = some (MObj.own 4 [.agg [.str [], .sl 4 true [], v, .str []]] false) ∧ Gr s.H s.next 3 es v ∧ ErPL es ((chainL e i).map Rule.V)))) (fun i => n - i) (0) wj_ (by refine ⟨?_, ?_, ?_, ?_, (by first | omega | (simp; done) | assumption), (by exact ⟨_, [], by (simp only [wM]; (repeat first | rw [if_pos trivial] | rw [if_pos rfl] | rw [if_neg (by omega)])), Gr.nil, .nil⟩)⟩ <;> first | (simp -implicitDefEqProofs only [wL, wM, wN, wX, Nat.reduceEqDiff, ↓reduceIte, reduceCtorEq, Nat.reduceAdd, Option.some.injEq] <;> first | rfl | exact ⟨_, rfl⟩ | exact ⟨_, rfl, by first | assumption | exact Gr.nil | exact Gr.tok rfl (by omega) | exact Gr.tok (by simp -implicitDefEqProofs only [wM, Nat.reduceEqDiff, ↓reduceIte, reduceCtorEq] <;> rfl) (by omega) | exact Gr.clip⟩) | rfl | exact ⟨_, rfl⟩) ?_
 intro i s hnx ⟨g0, g3, g4, g5, k1_0, k1_1⟩
 obtain ⟨v, es, h7, hG, hE⟩ := k1_1
 have hzi : IntKind.i64.wrap ((i + 1 : Nat) : Int) = ((i + 1 : Nat) : Int) := wrap64 (by omega) (by omega)
 have hle : es.length = i := by have := hE.len; simp [chainL] at this; omega
 have hne : gid v ≠ some 7 := hG.ne (fun f e => by rw [h7] at e; cases e)
 by_cases hi : i < n
 · have hd1 := yuccaref0_Digits (n := i) (by omega)
   have hd2 := yuccaref0_Digits (n := i + 1) (by omega)
   have hz97 : IntKind.i64.wrap (97 + (i : Int)) = 97 + (i : Int) := wrap64 (by omega) (by omega)
   have hz8 : IntKind.u8.wrap (97 + (i : Int)) = 97 + (i : Int) := by unfold IntKind.wrap; simp [IntKind.bits, IntKind.signed]; omega
   have hs1 : ([110] : List UInt8).length + (digS i).length ≤ 9223372036854775807 := by have := (chS_ok' (i := i) (by omega)).1.1; simp at this ⊢; omega
   have hs2 : ([110] : List UInt8).length + (digS (i + 1)).length ≤ 9223372036854775807 := by have := (chS_ok' (i := i + 1) (by omega)).1.1; simp at this ⊢; omega
   have htn : (97 + (i : Int)).toNat = 97 + i := by omega
   have hgd : e.getD i false = e[i] := by rw [List.getD_eq_getElem?_getD, List.getElem?_eq_getElem (by omega)]; rfl
   have hei : e[i]? = some e[i] := List.getElem?_eq_getElem (by omega)
   generalize hbb : e[i] = b at hgd hei
   repeat' with_reducible first
    | refine ewp_reg_seq ?_ | refine ewp_seq ?_ | refine ewp_reg ?_ | refine ewp_skip ?_ | refine ewp_block ?_ | refine xt_n ?_ | refine xb_n ?_ | refine ewp_condQ ?_
    | simp -implicitDefEqProofs only [wA, Nat.reduceEqDiff, ↓reduceIte, reduceCtorEq, Nat.reduceAdd, Int.cast_ofNat_Int, Int.reduceLT, Int.reduceLE, Int.reduceEq, Int.reduceToNat, decide_true, decide_false, Bool.false_eq_true, g0, g3, g4, g5, hzi, hz97, hz8, h7, htn, dropG_ne hne]
    | (refine condQ_i (fun h => ?_) (fun h => ?_) <;> have h_ := h <;> (try simp only [wD, reduceCtorEq] at h_) <;> (try exact wb_) <;> (try simp only [h]))
    | (refine strAdd hs1 ?_)
    | (refine strAdd hs2 ?_)
    | (apply by2_1; (focus omega); (focus omega))
    | (apply callQ1 (hp := hd1); (focus exact er_cl))
    | (apply callQ1 (hp := hd2); (focus exact er_cl))
    | (apply ia_slQ; (focus omega); (focus with_unfolding_all exact hei))
    | (apply appQ_G rfl (hG.mono (Nat.le_refl _) (fun id h1 h2 => by (try simp only [wM]); (repeat rw [if_neg (by omega)]))); (focus (first | exact SrcN.sl | exact SrcN.asl)); (focus (simp only [wZ]; omega)); (focus (unfold maxLen; simp only [wZ]; omega)))
    | (apply appQ_C; (focus (first | exact SrcN.sl | exact SrcN.asl | exact SrcN.str)); (exact wf_); (focus (unfold maxLen; first | omega | (simp only [wZ]; omega))))
    | (apply fil_part; (exact wu_); (exact wu_); (exact wu_); (focus ((try simp -implicitDefEqProofs only [wY]); rfl)))
    | (apply bld_nil)
    | (apply bld_part; (exact wu_); (exact wu_); (exact wu_); (focus ((try simp -implicitDefEqProofs only [wE, Nat.reduceAdd]); rfl)))
    | (apply ldQ_whole)
    | (apply ldQ_cell; (exact wu_))
    | (apply stQ_whole; (exact wu_); (exact wu_))
    | (apply stQ_cell; (exact wu_); (exact wu_); (exact wu_); (exact wf_))
    | simp -implicitDefEqProofs (disch := omega) only [w64, if_neg]
   all_goals
    refine ⟨by ((try simp only [wN]); omega), i + 1, by omega, trivial, trivial, trivial, rfl, by omega, _, _, rfl, Gr.tok (fin := es.length + 1) wc_ (by ((try simp only [wN]); omega)), ?_⟩
    rw [chainL_succ, List.map_append]
    refine hE.snoc ?_
    unfold chR
    rw [hgd]
    first
     | (rw [show b = true by simpa [hbb] using h_]; exact ErL.agg (.cons (.str _) (.cons (ErL.asl (.cons (erA i) (.cons erN .nil))) (.cons (.int _ _) .nil))))
     | (rw [show b = false by simpa [hbb] using h_]; exact ErL.agg (.cons (.str _) (.cons (ErL.sl (.cons (erA i) .nil)) (.cons (.int _ _) .nil))))
 · obtain rfl : i = n := by omega
   have hd := yuccaref0_Digits (n := i) (by omega)
   have hs := (chS_ok' (i := i) (by omega)).1.1
   have hs1 : ([110] : List UInt8).length + (digS i).length ≤ 9223372036854775807 := by simp at hs ⊢; omega
   have hgr := gramV e hn12
   have hof := ofV_ch e hn12
   have hE2 : ErPL (es ++ [.agg [.str (110 :: digS i), .sl 6 true [.agg [.sl 6 true [.agg [.str [122], .bool true, .int .i64 0, .int .i64 0, .str [], .int .i64 0]], .str [], .bool false, .int .i64 0, .int .i64 0, .int .i64 0]], .int .i64 0]]) ((chainS e i).rules.map Rule.V) := by
    rw [show (chainS e i).rules = chainL e i ++ [chZR i] from rfl, List.map_append]
    exact hE.snoc (erZ i)
   have hol := ofL_len (i + 2) (SC e i)
   generalize gramS (chainS e i) = g at *
   have hz2 : IntKind.i64.wrap ((i : Int) + 2) = ((i + 2 : Nat) : Int) := by rw [wrap64 (by omega) (by omega)]; omega
   have hz3 : IntKind.i64.wrap (3 + (i : Int)) = 3 + (i : Int) := wrap64 (by omega) (by omega)
   repeat' with_reducible first
    | refine ewp_reg_seq ?_ | refine ewp_seq ?_ | refine ewp_skip ?_ | refine ewp_block ?_ | refine ewp_exit ?_ | refine xt_n ?_ | refine xt_e ?_ | refine xb_e ?_ | refine ewp_condQ ?_ | refine condQ_F ?_ | refine L_gdQ ?_ | refine gdQ_FF ?_
    | simp -implicitDefEqProofs only [wA, Nat.reduceEqDiff, ↓reduceIte, reduceCtorEq, Nat.reduceAdd, Int.cast_ofNat_Int, Int.reduceLT, Int.reduceLE, Int.reduceEq, Int.reduceToNat, decide_true, decide_false, Bool.false_eq_true, g0, g3, g4, g5, hz2, hz3, hol, h7, dropG_ne hne]
    | (refine strAdd hs1 ?_)
    | (apply callQ1 (hp := hd); (focus exact er_cl))
    | (apply appQ_G rfl (hG.mono (Nat.le_refl _) (fun id h1 h2 => by (try simp only [wM]); (repeat rw [if_neg (by omega)]))); (focus (first | exact SrcN.sl | exact SrcN.asl)); (focus (simp only [wZ]; omega)); (focus (unfold maxLen; simp only [wZ]; omega)))
    | (apply callQ1 (hp := hgr); (focus exact ErL.agg (.cons (.str _) (.cons (ErL.sl .nil) (.cons (ErL.asl hE2.up) (.cons (.str _) .nil))))))
    | (apply callQ1 (hp := hof); (focus exact er_cl))
    | (apply fil_part; (exact wu_); (exact wu_); (exact wu_); (focus ((try simp -implicitDefEqProofs only [wY]); rfl)))
    | (apply bld_nil)
    | (apply bld_part; (exact wu_); (exact wu_); (exact wu_); (focus ((try simp -implicitDefEqProofs only [wE, Nat.reduceAdd]); rfl)))
    | (apply ldQ_whole)
    | (apply ldQ_cell; (exact wu_))
    | (apply stQ_whole; (exact wu_); (exact wu_))
    | (apply stQ_cell; (exact wu_); (exact wu_); (exact wu_); (exact wf_))
   have hw0 := wantL_last e hn12 (k := i + 1) (by omega)
   refine ewp_loopN ?nx2 (fun (k : Nat) s => s.f 0 = ?v2_0 ∧ s.f 3 = ?v2_3 ∧ s.f 9 = ?v2_9 ∧ s.f 11 = V.int .i64 ((i : Int) - (k : Int)) ∧ (k ≤ i + 1) ∧ ((∃ v, s.f 10 = v ∧ ∀ b H, Er b H v (.sl 1 false ((wantL e i (i + 1 - k)).map (V.int .i64)))))) (fun k => i + 1 - k) (0) wj_ (by refine ⟨?_, ?_, ?_, ?_, (by first | omega | (simp; done) | assumption), (by exact ⟨_, by (simp -implicitDefEqProofs only [wL, Nat.reduceEqDiff, ↓reduceIte, reduceCtorEq]); rfl, fun b H => by rw [show i + 1 - 0 = i + 1 from rfl, hw0]; exact er_sl⟩)⟩ <;> first | (simp -implicitDefEqProofs only [wL, wM, wN, wX, Nat.reduceEqDiff, ↓reduceIte, reduceCtorEq, Nat.reduceAdd, Option.some.injEq, g0, g3, g4, g5] <;> first | rfl | exact ⟨_, rfl⟩ | exact ⟨_, rfl, by first | assumption | exact Gr.nil | exact Gr.tok rfl (by omega) | exact Gr.tok (by simp -implicitDefEqProofs only [wM, Nat.reduceEqDiff, ↓reduceIte, reduceCtorEq] <;> rfl) (by omega) | exact Gr.clip⟩) | rfl | exact ⟨_, rfl⟩) ?_
   intro k s hnx ⟨g0, g3, g9, g11, k2_0, k2_1⟩
   obtain ⟨v10, g10, hv10⟩ := k2_1
   have hzk : IntKind.i64.wrap ((i : Int) - (k : Int) - 1) = (i : Int) - ((k + 1 : Nat) : Int) := by rw [wrap64 (by omega) (by omega)]; omega
   by_cases hk : k ≤ i
   · obtain ⟨j, hj⟩ : ∃ j, i = j + k := ⟨i - k, by omega⟩
     have hji : (i : Int) - (k : Int) = (j : Int) := by omega
     rw [hji] at g11 hzk
     rw [show i + 1 - k = j + 1 by omega] at hv10
     have hzj : IntKind.i64.wrap ((j : Int) + 1) = ((j + 1 : Nat) : Int) := by rw [wrap64 (by omega) (by omega)]; omega
     have hzw : IntKind.i64.wrap ((j + 1 : Nat) : Int) = ((j + 1 : Nat) : Int) := wrap64 (by omega) (by omega)
     have hz3j : IntKind.i64.wrap (3 + (j : Int)) = 3 + (j : Int) := wrap64 (by omega) (by omega)
     have hgo := ofL_ch e (n := i) (k := j) (by omega)
     have hwl := wantL_len e i j
     have hwl1 := wantL_len e i (j + 1)
     have hei := yuccaref0_EqInts (a := wantL e i j) (b := wantL e i j) (by omega) (by omega)
     rw [decide_eq_true rfl] at hei
     by_cases hc : j + 1 < i
     · have hgb : e[j + 1]? = some e[j + 1] := List.getElem?_eq_getElem (by omega)
       have hgd : e.getD (j + 1) false = e[j + 1] := by rw [List.getD_eq_getElem?_getD, hgb]; rfl
       have hst := wantL_step e hn12 (i := j) (by omega)
       rw [hgd] at hst
       have hput := yuccaref0_Put (l := wantL e i (j + 1)) (x := 3 + (j : Int)) (by omega)
       have hcut : ((j + 1 : Nat) : Int) < (i : Int) := by omega
       have hcut2 : (j : Int) < (i : Int) := by omega
       generalize hbb : e[j + 1] = b at hgb hst
       cases b
       · rw [if_neg (by simp)] at hst
         repeat' with_reducible first
          | refine ewp_reg_seq ?_ | refine ewp_seq ?_ | refine ewp_reg ?_ | refine ewp_skip ?_ | refine ewp_block ?_ | refine xt_n ?_ | refine xb_n ?_ | refine ewp_condQ ?_ | refine condQ_F ?_ | refine L_gdQ ?_ | refine gdQ_TT ?_
          | simp -implicitDefEqProofs only [wA, Nat.reduceEqDiff, ↓reduceIte, reduceCtorEq, Nat.reduceAdd, Int.cast_ofNat_Int, Int.reduceLT, Int.reduceLE, Int.reduceEq, Int.reduceToNat, decide_true, decide_false, Bool.false_eq_true, g0, g3, g9, g11, hji, hzk, hzj, hzw, hz3j, g10]
          | (refine condQ_i (fun h => ?_) (fun h => ?_) <;> have h_ := h <;> (try simp only [wD, reduceCtorEq] at h_) <;> (try exact wb_) <;> (try simp only [h]))
          | ((first | refine gdQ_iT (fun h => ?_) (fun h => ?_) | refine gdQ_iF (fun h => ?_) (fun h => ?_)) <;> have h_ := h <;> (try simp only [wD, reduceCtorEq] at h_) <;> (try exact wb_) <;> (try simp only [h]))
          | (apply ia_slQ; (focus omega); (focus with_unfolding_all exact hgb))
          | (apply ia_slQ; (focus omega); (focus with_unfolding_all exact hgo))
          | (apply callQ2 (hp := hei); (focus exact er_cl); (focus rw [hst]; exact hv10 _ _))
         all_goals exact ⟨by ((try simp only [wN]); omega), k + 1, by omega, trivial, trivial, trivial, rfl, by omega, v10, rfl, fun b H => by rw [show i + 1 - (k + 1) = j by omega, hst]; exact hv10 b H⟩
       · rw [if_pos ⟨hc, rfl⟩] at hst
         repeat' with_reducible first
          | refine ewp_reg_seq ?_ | refine ewp_seq ?_ | refine ewp_reg ?_ | refine ewp_skip ?_ | refine ewp_block ?_ | refine xt_n ?_ | refine xb_n ?_ | refine ewp_condQ ?_ | refine condQ_T ?_ | refine condQ_F ?_ | refine L_gdQ ?_ | refine gdQ_TT ?_
          | simp -implicitDefEqProofs only [wA, Nat.reduceEqDiff, ↓reduceIte, reduceCtorEq, Nat.reduceAdd, Int.cast_ofNat_Int, Int.reduceLT, Int.reduceLE, Int.reduceEq, Int.reduceToNat, decide_true, decide_false, Bool.false_eq_true, g0, g3, g9, g11, hji, hzk, hzj, hzw, hz3j, g10]
          | (refine condQ_i (fun h => ?_) (fun h => ?_) <;> have h_ := h <;> (try simp only [wD, reduceCtorEq] at h_) <;> (try exact wb_) <;> (try simp only [h]))
          | ((first | refine gdQ_iT (fun h => ?_) (fun h => ?_) | refine gdQ_iF (fun h => ?_) (fun h => ?_)) <;> have h_ := h <;> (try simp only [wD, reduceCtorEq] at h_) <;> (try exact wb_) <;> (try simp only [h]))
          | (apply ia_slQ; (focus omega); (focus with_unfolding_all exact hgb))
          | (apply ia_slQ; (focus omega); (focus with_unfolding_all exact hgo))
          | (apply callQ2 (hp := hput); (focus exact hv10 _ _); (focus exact er_cl))
          | (apply callQ2 (hp := hei); (focus exact er_cl); (focus rw [hst]; exact er_cl))
         all_goals exact ⟨by ((try simp only [wN]); omega), k + 1, by omega, trivial, trivial, trivial, rfl, by omega, _, rfl, fun b H => by rw [show i + 1 - (k + 1) = j by omega, hst]; exact er_cl⟩
     · have hst : wantL e i j = wantL e i (j + 1) := by
        by_cases hji2 : j < i
        · rw [wantL_step e hn12 hji2, if_neg (by omega)]
        · rw [wantL_last e hn12 (by omega), wantL_last e hn12 (by omega)]
       repeat' with_reducible first
        | refine ewp_reg_seq ?_ | refine ewp_seq ?_ | refine ewp_reg ?_ | refine ewp_skip ?_ | refine ewp_block ?_ | refine xt_n ?_ | refine xb_n ?_ | refine ewp_condQ ?_ | refine condQ_F ?_ | refine L_gdQ ?_ | refine gdQ_TT ?_ | refine gdQ_FT ?_
        | simp -implicitDefEqProofs only [wA, Nat.reduceEqDiff, ↓reduceIte, reduceCtorEq, Nat.reduceAdd, Int.cast_ofNat_Int, Int.reduceLT, Int.reduceLE, Int.reduceEq, Int.reduceToNat, decide_true, decide_false, Bool.false_eq_true, g0, g3, g9, g11, hji, hzk, hzj, hzw, hz3j, g10]
        | (refine condQ_i (fun h => ?_) (fun h => ?_) <;> have h_ := h <;> (try simp only [wD, reduceCtorEq] at h_) <;> (try exact wb_) <;> (try simp only [h]))
        | ((first | refine gdQ_iT (fun h => ?_) (fun h => ?_) | refine gdQ_iF (fun h => ?_) (fun h => ?_)) <;> have h_ := h <;> (try simp only [wD, reduceCtorEq] at h_) <;> (try exact wb_) <;> (try simp only [h]))
        | (apply ia_slQ; (focus omega); (focus with_unfolding_all exact hgo))
        | (apply callQ2 (hp := hei); (focus exact er_cl); (focus rw [hst]; exact hv10 _ _))
       all_goals exact ⟨by ((try simp only [wN]); omega), k + 1, by omega, trivial, trivial, trivial, rfl, by omega, v10, rfl, fun b H => by rw [show i + 1 - (k + 1) = j by omega, hst]; exact hv10 b H⟩
   · obtain rfl : k = i + 1 := by omega
     have hneg : ¬ ((0 : Int) ≤ (i : Int) - ((i + 1 : Nat) : Int)) := by omega
     repeat' with_reducible first
      | refine ewp_reg_seq ?_ | refine ewp_seq ?_ | refine ewp_ret ?_ | refine ewp_exit ?_ | refine xt_n ?_ | refine xt_e ?_ | refine xb_e ?_ | refine ewp_condQ ?_
      | simp -implicitDefEqProofs only [wA, Nat.reduceEqDiff, ↓reduceIte, reduceCtorEq, Nat.reduceAdd, Int.cast_ofNat_Int, Int.reduceLT, Int.reduceLE, Int.reduceEq, Int.reduceToNat, decide_true, decide_false, Bool.false_eq_true, g0, g3, g9, g11, g10]
      | (refine condQ_i (fun h => ?_) (fun h => ?_) <;> have h_ := h <;> (try simp only [wD, reduceCtorEq] at h_) <;> (try exact wb_) <;> (try simp only [h]))
     all_goals refine post1 rfl (Or.inr rfl) ?_
     all_goals (try simp -implicitDefEqProofs only [wL, Nat.reduceEqDiff, ↓reduceIte, reduceCtorEq, g0, g3, g9, g11])
     all_goals (first | refine er_bool ?_ | refine er_int ?_ | refine er_str ?_ | refine er_sl_eq ?_ | refine er_asl_eq ?_)
     all_goals (try (with_reducible rfl))
end Go.Proofs
