/-
  Part of a proof that a law of the given program answers true: contracts of its functions, and the law. Holds for inputs of at most 1048576 values and letters in all.
-/
import Derived.Test.YtpnfbnlhjdnnpaaDoorLD
set_option linter.unusedSimpArgs false
set_option linter.unusedVariables false
set_option maxHeartbeats 4000000
set_option maxRecDepth 20000
namespace Go.Proofs
open Go.E
abbrev e4r0 := [iA 3 (.box 5 (.t 0)), iA 6 (.mov (.c (.bool false)))]
abbrev e4r1 := [iA 17 (.call (.c (.fn 8 [])) []), iA 18 (.un .not (.t 17))]
abbrev e4r2 := [iA 6 (.mov (.c (.bool false)))]
abbrev e4n3 : EC := .seq (.reg e4r2) .ret
abbrev e4n4 : EC := .cond (.t 18) e4n3 .skip
abbrev e4n5 : EC := .seq (.reg e4r1) e4n4
abbrev e4r6 := [iA 20 (.load true 5 (.t 3)), iA 21 (.call (.c (.fn 10 [])) [(.t 20)]), iA 22 (.call (.c (.fn 11 [])) [(.t 21)]), iA 19 (.mov (.t 22)), iA 23 (.ext (.t 19) 0), iA 24 (.ext (.t 19) 1), iA 7 (.alloc 5 (.agg [(.sl 6 true []), (.sl 2 true []), (.sl 6 true []), (.str []), (.str [])])), ⟨none, none, .store 5 (.t 7) (.t 23), .any⟩, iA 8 (.mov (.t 24))]
abbrev e4r7 := [iA 25 (.mov (.t 8)), iA 26 (.un .not (.t 25))]
abbrev e4r8 := [iA 6 (.mov (.c (.bool false)))]
abbrev e4n9 : EC := .seq (.reg e4r8) .ret
abbrev e4n10 : EC := .cond (.t 26) e4n9 .skip
abbrev e4n11 : EC := .seq (.reg e4r7) e4n10
abbrev e4r12 := [iR 27 (.load true 5 (.t 7)), iN 28 (.mov (.t 1)), iR 29 (.call (.c (.fn 20 [])) [(.t 27), (.t 28)]), iR 30 (.load true 5 (.t 7)), iN 31 (.mov (.t 2)), iR 32 (.call (.c (.fn 20 [])) [(.t 30), (.t 31)]), iN 1 (.mov (.t 29)), iN 2 (.mov (.t 32))]
abbrev e4r13 := [iA 34 (.load true 5 (.t 7)), iA 35 (.mov (.t 1)), iA 36 (.call (.c (.fn 13 [])) [(.t 34), (.t 35)]), iA 33 (.mov (.t 36)), iA 37 (.ext (.t 33) 0), iA 38 (.ext (.t 33) 1), iA 9 (.mov (.t 37)), iA 10 (.mov (.t 38))]
abbrev e4r14 := [iA 40 (.load true 5 (.t 7)), iA 41 (.mov (.t 2)), iA 42 (.call (.c (.fn 13 [])) [(.t 40), (.t 41)]), iA 39 (.mov (.t 42)), iA 43 (.ext (.t 39) 0), iA 44 (.ext (.t 39) 1), iA 11 (.mov (.t 43)), iA 12 (.mov (.t 44))]
abbrev e4r15 := [iR 46 (.load true 5 (.t 7)), iN 47 (.lit false 1 false (.int .i64 0) 0 []), iN 48 (.mov (.t 1)), ⟨(some 49), none, .append false 1 8 (.t 47) (.t 48), .t⟩, iN 50 (.mov (.t 2)), ⟨(some 51), none, .append false 1 8 (.t 49) (.t 50), .t⟩, iR 52 (.call (.c (.fn 13 [])) [(.t 46), (.t 51)]), iN 45 (.mov (.t 52)), iN 53 (.ext (.t 45) 0), iN 54 (.ext (.t 45) 1), iN 13 (.mov (.t 53)), iN 14 (.mov (.t 54))]
abbrev e4r16 := [iA 55 (.lit false 1 false (.int .i64 0) 0 []), iA 56 (.mov (.t 9)), iA 57 (.append false 1 8 (.t 55) (.t 56)), iA 15 (.mov (.t 57))]
abbrev e4r17 := [iA 16 (.mov (.c (.int .i64 0)))]
abbrev e4r18 := [iA 58 (.mov (.t 10)), iA 59 (.mov (.t 58)), ⟨(some 60), (some (59, true)), .mov (.t 16), .any⟩, ⟨(some 61), (some (59, true)), .mov (.t 11), .any⟩, ⟨(some 62), (some (59, true)), .len (.t 61), .any⟩, ⟨(some 63), (some (59, true)), .bin .lss (.t 60) (.t 62), .any⟩, iA 64 (.pick (.t 59) (.t 63) (.c (.bool false)))]
abbrev e4n19 : EC := .cond (.t 64) .skip (.exit 0)
abbrev e4n20 : EC := .seq (.reg e4r18) e4n19
abbrev e4r21 := [iA 67 (.mov (.t 15)), iA 68 (.mov (.t 11)), iA 69 (.mov (.t 16)), iA 70 (.iaddr 1 (.t 68) (.t 69)), iA 71 (.load false 1 (.t 70)), iA 72 (.call (.c (.fn 21 [])) [(.t 67), (.t 71)]), iA 15 (.mov (.t 72))]
abbrev e4n22 : EC := .block 1 (.reg e4r21)
abbrev e4r23 := [iA 65 (.mov (.t 16)), iA 66 (.bin .add (.t 65) (.c (.int .i64 1))), iA 16 (.mov (.t 66))]
abbrev e4n24 : EC := .seq e4n22 (.reg e4r23)
abbrev e4n25 : EC := .seq e4n20 e4n24
abbrev e4n26 : EC := .loop e4n25
abbrev e4n27 : EC := .block 0 e4n26
abbrev e4n28 : EC := .seq (.reg e4r17) e4n27
abbrev e4r29 := [iA 73 (.mov (.t 14)), iA 74 (.mov (.t 10)), iA 75 (.mov (.t 74)), ⟨(some 76), (some (75, true)), .mov (.t 12), .any⟩, iA 77 (.pick (.t 75) (.t 76) (.c (.bool false))), iA 78 (.eqb false (.t 73) (.t 77)), iA 79 (.mov (.t 78)), ⟨(some 80), (some (79, true)), .mov (.t 13), .any⟩, ⟨(some 81), (some (79, true)), .mov (.t 15), .any⟩, ⟨(some 82), (some (79, true)), .call (.c (.fn 19 [])) [(.t 80), (.t 81)], .any⟩, iA 83 (.pick (.t 79) (.t 82) (.c (.bool false))), iA 6 (.mov (.t 83))]
abbrev e4n30 : EC := .seq (.reg e4r29) .ret
abbrev e4n31 : EC := .seq e4n28 e4n30
abbrev e4n32 : EC := .seq (.reg e4r16) e4n31
abbrev e4n33 : EC := .seq (.reg e4r15) e4n32
abbrev e4n34 : EC := .seq (.reg e4r14) e4n33
abbrev e4n35 : EC := .seq (.reg e4r13) e4n34
abbrev e4n36 : EC := .seq (.reg e4r12) e4n35
abbrev e4n37 : EC := .seq e4n11 e4n36
abbrev e4n38 : EC := .seq (.reg e4r6) e4n37
abbrev e4n39 : EC := .seq e4n5 e4n38
abbrev e4n40 : EC := .seq (.reg e4r0) e4n39
abbrev e4 : EF := ⟨84, 3, [(.inl 6)], e4n40⟩
theorem e4_ok : compFn Tryd.prog {} Tryd.f4 = some e4 := by kernel_rfl
theorem e4_nm : (Tryd.f4.name == "runtime.NumGoroutine") = false := by kernel_rfl
theorem yuccalaw12_FirstSplits {x : GrI} {l m : List Int} (hb1 : x.rules.length ≤ 1099511627776) (hb2 : ∀ l ∈ x.rules, l.length ≤ 1099511627776) (hib : x.inner.length ≤ 1099511627776) (hlb : x.levels.length ≤ 1099511627776) (hl : l.length ≤ 1099511627776) (hm : m.length ≤ 1099511627776) : Pure Tryd.prog 4 [x.V, .sl 1 false (l.map (V.int .i64)), .sl 1 false (m.map (V.int .i64))] (.bool true) := by
 refine pure_intro Tryd.func4 e4_nm e4_ok (by show 3 ≤ 84; decide) ?_
 show ewp _ e4n40 _ _
 have hw := yuccalaw12_wakes
 have hsrc := yuccalaw0_Source (x := x) hb1 hb2 hib hlb
 have hgr := gramI x
 have hg := gok (sourceS_ok x)
 obtain ⟨E, hE, hvg⟩ := vain_grow (token := false) hg
 obtain ⟨S, hS⟩ := first_ex hg hvg
 have htk := hg.tk
 have hP := plainS_ok (nt := (gramS (sourceS x)).toks.length) (nn := (gramS (sourceS x)).nons.length) (by omega) l
 have hQ := plainS_ok (nt := (gramS (sourceS x)).toks.length) (nn := (gramS (sourceS x)).nons.length) (by omega) m
 have hpl := yuccalaw12_plain (l := l) hg hl
 have hpm := yuccalaw12_plain (l := m) hg hm
 have l1 := plainS_len (gramS (sourceS x)).toks.length (gramS (sourceS x)).nons.length l
 have l2 := plainS_len (gramS (sourceS x)).toks.length (gramS (sourceS x)).nons.length m
 generalize hPe : plainS (gramS (sourceS x)).toks.length (gramS (sourceS x)).nons.length l = P at *
 generalize hQe : plainS (gramS (sourceS x)).toks.length (gramS (sourceS x)).nons.length m = R at *
 have h1 := first_List (l := P) hg hvg hS (by omega)
 have h2 := first_List (l := R) hg hvg hS (by omega)
 have h3 := first_List (l := P ++ R) hg hvg hS (by rw [List.length_append]; omega)
 rw [first_split hP hQ] at h3
 have c1 := firstL_len (gramS (sourceS x)).toks.length (gramS (sourceS x)).nons.length S E P
 have c2 := firstL_len (gramS (sourceS x)).toks.length (gramS (sourceS x)).nons.length S E R
 generalize (firstL (gramS (sourceS x)).toks.length (gramS (sourceS x)).nons.length S E P).1 = A at *
 generalize (firstL (gramS (sourceS x)).toks.length (gramS (sourceS x)).nons.length S E R).1 = B at *
 generalize (firstL (gramS (sourceS x)).toks.length (gramS (sourceS x)).nons.length S E P).2 = p at *
 generalize (firstL (gramS (sourceS x)).toks.length (gramS (sourceS x)).nons.length S E R).2 = q at *
 generalize gramS (sourceS x) = g at *
 dsimp only at h3
 have hfl := foldPut_len B A
 have hei := yuccaref0_EqInts (a := if p = true then B.foldl putL A else A) (b := if p = true then B.foldl putL A else A) (by split <;> omega) (by split <;> omega)
 rw [decide_eq_true rfl] at hei
 have hW : ∀ b H, Er b H (.sl 1 false ((if p = true then B.foldl putL A else A).map (V.int .i64))) (ints (if p = true then B.foldl putL A else A)) := fun b H => er_cl
 generalize hWe : (if p = true then B.foldl putL A else A) = W at *
 repeat' with_reducible first
  | refine ewp_reg_seq ?_ | refine ewp_seq ?_ | refine ewp_skip ?_ | refine ewp_block ?_ | refine xt_n ?_ | refine ewp_condQ ?_ | refine condQ_F ?_
  | simp -implicitDefEqProofs only [wA, Nat.reduceEqDiff, ↓reduceIte, reduceCtorEq, Nat.reduceAdd, Int.cast_ofNat_Int, Int.reduceLT, Int.reduceLE, Int.reduceEq, Int.reduceToNat, decide_true, decide_false, Bool.false_eq_true]
  | (apply callQ0 (hp := hw))
  | (apply callQ1 (hp := hsrc); (focus exact er_cl))
  | (apply callQ1 (hp := hgr); (focus exact src_er _))
  | (apply callQ2 (hp := hpl); (focus exact er_cl); (focus exact er_cl))
  | (apply callQ2 (hp := hpm); (focus exact er_cl); (focus exact er_cl))
  | (apply callQ2 (hp := h1); (focus exact er_cl); (focus exact er_cl))
  | (apply callQ2 (hp := h2); (focus exact er_cl); (focus exact er_cl))
  | (apply callQ2 (hp := h3); (focus exact er_cl); (focus exact er_aints))
  | (apply appQ_C; (focus (first | exact SrcN.sl | exact SrcN.asl | exact SrcN.str)); (exact wf_); (focus (unfold maxLen; first | omega | (simp only [wZ]; omega))))
  | (refine app_asl ?_; simp -implicitDefEqProofs only [wM, wN, Nat.reduceEqDiff, ↓reduceIte, reduceCtorEq]; apply appT_i; (focus (first | exact SrcN.sl | exact SrcN.asl | exact SrcN.str)); (exact wf_); (focus (unfold maxLen; first | omega | (simp only [wZ]; omega))))
  | (apply ldQ_whole)
  | (apply stQ_whole; (exact wu_); (exact wu_))
  | (apply boxQ_i; (exact wu_); (exact wu_))
 refine ewp_loopN ?nx1 (fun (i : Nat) s => s.f 10 = ?v1_10 ∧ s.f 11 = ?v1_11 ∧ s.f 12 = ?v1_12 ∧ s.f 13 = ?v1_13 ∧ s.f 14 = ?v1_14 ∧ s.f 16 = vi i ∧ (i ≤ B.length) ∧ ((p = false → i = 0)) ∧ ((∃ v, s.f 15 = v ∧ ∀ b H, Er b H v (.sl 1 false (((B.take i).foldl putL A).map (V.int .i64)))))) (fun i => B.length - i) (0) wj_ (by refine ⟨?_, ?_, ?_, ?_, ?_, ?_, (by first | omega | (simp; done) | assumption), (by first | omega | (simp; done) | assumption), (by exact ⟨_, by (simp -implicitDefEqProofs only [wL, Nat.reduceEqDiff, ↓reduceIte, reduceCtorEq]); rfl, fun b H => er_aints⟩)⟩ <;> first | (simp -implicitDefEqProofs only [wL, wM, wN, wX, Nat.reduceEqDiff, ↓reduceIte, reduceCtorEq, Nat.reduceAdd, Option.some.injEq] <;> first | rfl | exact ⟨_, rfl⟩ | exact ⟨_, rfl, by first | assumption | exact Gr.nil | exact Gr.tok rfl (by omega) | exact Gr.tok (by simp -implicitDefEqProofs only [wM, Nat.reduceEqDiff, ↓reduceIte, reduceCtorEq] <;> rfl) (by omega) | exact Gr.clip⟩) | rfl | exact ⟨_, rfl⟩) ?_
 intro i s hnx ⟨g10, g11, g12, g13, g14, g16, k1_0, k1_1, k1_2⟩
 obtain ⟨v, g15, hv⟩ := k1_2
 have hz : IntKind.i64.wrap ((i + 1 : Nat) : Int) = ((i + 1 : Nat) : Int) := wrap64 (by omega) (by omega)
 cases p with
 | true =>
   rw [if_pos rfl] at hWe
   by_cases hi : i < B.length
   · have hgi : B[i]? = some B[i] := List.getElem?_eq_getElem hi
     have hst : (B.take (i + 1)).foldl putL A = putL ((B.take i).foldl putL A) B[i] := by rw [List.take_add_one, hgi, List.foldl_append]; rfl
     have hfl2 := foldPut_len (B.take i) A
     rw [List.length_take] at hfl2
     have hpu := yuccaref0_Put (l := (B.take i).foldl putL A) (x := B[i]) (by omega)
     generalize B[i] = y at *
     repeat' with_reducible first
      | refine ewp_reg_seq ?_ | refine ewp_seq ?_ | refine ewp_reg ?_ | refine ewp_skip ?_ | refine ewp_block ?_ | refine xt_n ?_ | refine xb_n ?_ | refine ewp_condQ ?_ | refine L_gdQ ?_ | refine gdQ_TT ?_
      | simp -implicitDefEqProofs only [wA, Nat.reduceEqDiff, ↓reduceIte, reduceCtorEq, Nat.reduceAdd, Int.cast_ofNat_Int, Int.reduceLT, Int.reduceLE, Int.reduceEq, Int.reduceToNat, decide_true, decide_false, Bool.false_eq_true, g10, g11, g12, g13, g14, g16, g15, hz]
      | (refine condQ_i (fun h => ?_) (fun h => ?_) <;> have h_ := h <;> (try simp only [wD, reduceCtorEq] at h_) <;> (try exact wb_) <;> (try simp only [h]))
      | (apply ia_slQ; (focus omega); (focus with_unfolding_all exact hgi))
      | (apply callQ2 (hp := hpu); (focus exact hv _ _); (focus exact er_cl))
     refine ⟨wk_, i + 1, (by omega), ?_⟩
     refine ⟨?_, ?_, ?_, ?_, ?_, ?_, ?_, ?_, ?_⟩
     iterate 6 (focus (first | (simp -implicitDefEqProofs only [wL, wM, wN, wX, Nat.reduceEqDiff, ↓reduceIte, reduceCtorEq, Nat.reduceAdd, Option.some.injEq, g10, g11, g12, g13, g14, g16] <;> first | rfl | exact ⟨_, rfl⟩ | exact ⟨_, rfl, by first | assumption | exact Gr.nil | exact Gr.tok rfl (by omega) | exact Gr.tok (by simp -implicitDefEqProofs only [wM, Nat.reduceEqDiff, ↓reduceIte, reduceCtorEq] <;> rfl) (by omega) | exact Gr.clip⟩) | rfl | exact ⟨_, rfl⟩))
     all_goals try omega
     · intro e; cases e
     · exact ⟨_, rfl, fun b H => by rw [hst]; exact er_cl⟩
   · rw [List.take_of_length_le (by omega), hWe] at hv
     cases q with
     | true =>
       repeat' with_reducible first
        | refine ewp_reg_seq ?_ | refine ewp_seq ?_ | refine ewp_ret ?_ | refine ewp_exit ?_ | refine xt_n ?_ | refine xt_e ?_ | refine xb_e ?_ | refine ewp_condQ ?_ | refine L_gdQ ?_ | refine gdQ_TT ?_
        | simp -implicitDefEqProofs only [wA, Nat.reduceEqDiff, ↓reduceIte, reduceCtorEq, Nat.reduceAdd, Int.cast_ofNat_Int, Int.reduceLT, Int.reduceLE, Int.reduceEq, Int.reduceToNat, decide_true, decide_false, Bool.false_eq_true, g10, g11, g12, g13, g14, g16, g15, hz]
        | (refine condQ_i (fun h => ?_) (fun h => ?_) <;> have h_ := h <;> (try simp only [wD, reduceCtorEq] at h_) <;> (try exact wb_) <;> (try simp only [h]))
        | (apply callQ2 (hp := hei); (focus exact er_cl); (focus exact hv _ _))
       all_goals refine post1 rfl (Or.inr rfl) ?_
       all_goals (try simp -implicitDefEqProofs only [wL, Nat.reduceEqDiff, ↓reduceIte, reduceCtorEq, g10, g11, g12, g13, g14, g16])
       all_goals (first | refine er_bool ?_ | refine er_int ?_ | refine er_str ?_ | refine er_sl_eq ?_ | refine er_asl_eq ?_)
       all_goals (try (with_reducible rfl))
     | false =>
       repeat' with_reducible first
        | refine ewp_reg_seq ?_ | refine ewp_seq ?_ | refine ewp_ret ?_ | refine ewp_exit ?_ | refine xt_n ?_ | refine xt_e ?_ | refine xb_e ?_ | refine ewp_condQ ?_ | refine L_gdQ ?_ | refine gdQ_TT ?_
        | simp -implicitDefEqProofs only [wA, Nat.reduceEqDiff, ↓reduceIte, reduceCtorEq, Nat.reduceAdd, Int.cast_ofNat_Int, Int.reduceLT, Int.reduceLE, Int.reduceEq, Int.reduceToNat, decide_true, decide_false, Bool.false_eq_true, g10, g11, g12, g13, g14, g16, g15, hz]
        | (refine condQ_i (fun h => ?_) (fun h => ?_) <;> have h_ := h <;> (try simp only [wD, reduceCtorEq] at h_) <;> (try exact wb_) <;> (try simp only [h]))
        | (apply callQ2 (hp := hei); (focus exact er_cl); (focus exact hv _ _))
       all_goals refine post1 rfl (Or.inr rfl) ?_
       all_goals (try simp -implicitDefEqProofs only [wL, Nat.reduceEqDiff, ↓reduceIte, reduceCtorEq, g10, g11, g12, g13, g14, g16])
       all_goals (first | refine er_bool ?_ | refine er_int ?_ | refine er_str ?_ | refine er_sl_eq ?_ | refine er_asl_eq ?_)
       all_goals (try (with_reducible rfl))
 | false =>
   rw [if_neg (by decide)] at hWe
   have h0 := k1_1 rfl
   subst h0
   rw [List.take_zero, List.foldl_nil, hWe] at hv
   repeat' with_reducible first
    | refine ewp_reg_seq ?_ | refine ewp_seq ?_ | refine ewp_ret ?_ | refine ewp_exit ?_ | refine xt_n ?_ | refine xt_e ?_ | refine xb_e ?_ | refine ewp_condQ ?_ | refine condQ_F ?_ | refine L_gdQ ?_ | refine gdQ_TT ?_ | refine gdQ_FT ?_
    | simp -implicitDefEqProofs only [wA, Nat.reduceEqDiff, ↓reduceIte, reduceCtorEq, Nat.reduceAdd, Int.cast_ofNat_Int, Int.reduceLT, Int.reduceLE, Int.reduceEq, Int.reduceToNat, decide_true, decide_false, Bool.false_eq_true, g10, g11, g12, g13, g14, g16, g15]
    | (apply callQ2 (hp := hei); (focus exact er_cl); (focus exact hv _ _))
   all_goals refine post1 rfl (Or.inr rfl) ?_
   all_goals (try simp -implicitDefEqProofs only [wL, Nat.reduceEqDiff, ↓reduceIte, reduceCtorEq, g10, g11, g12, g13, g14, g16])
   all_goals (first | refine er_bool ?_ | refine er_int ?_ | refine er_str ?_ | refine er_sl_eq ?_ | refine er_asl_eq ?_)
   all_goals (try (with_reducible rfl))
end Go.Proofs
