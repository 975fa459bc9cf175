/-
  Part of a proof that a law of the given program answers true: contracts of its functions, and the law. Holds for inputs of at most 1048576 values and letters in all.
-/
import Derived.Test.YtpnfbnlhjdnnpaaDoorLF
set_option linter.unusedSimpArgs false
set_option linter.unusedVariables false
set_option maxHeartbeats 4000000
set_option maxRecDepth 20000
namespace Go.Proofs
open Go.E
theorem rulW_len {nt nn : Nat} {S : Nat → Nat → Bool} {E : Nat → Bool} {n : Nat} (l : List GPr) : (rulW nt nn S E n l).length ≤ 1024 * l.length := by
 have : ∀ (l : List GPr) (acc : List Int), (l.foldl (fun acc p => if p.left = (n : Int) then (firstL nt nn S E p.right).1.foldl putL acc else acc) acc).length ≤ acc.length + 1024 * l.length := by
  intro l
  induction l with
  | nil => intro acc; simp
  | cons p r ih =>
    intro acc
    rw [List.foldl_cons, List.length_cons]
    have h1 := foldPut_len (firstL nt nn S E p.right).1 acc
    have h2 := firstL_len nt nn S E p.right
    by_cases hp : p.left = (n : Int)
    · rw [if_pos hp]; have := ih ((firstL nt nn S E p.right).1.foldl putL acc); omega
    · rw [if_neg hp]; have := ih acc; omega
 have := this l []
 unfold rulW; simpa using this
theorem yuccalaw12_FirstRules {x : GrI} (hb1 : x.rules.length ≤ 1099511627776) (hb2 : ∀ l ∈ x.rules, l.length ≤ 1099511627776) (hib : x.inner.length ≤ 1099511627776) (hlb : x.levels.length ≤ 1099511627776) : Pure Tryd.prog 6 [x.V] (.bool true) := by
 refine pure_intro Tryd.func6 e6_nm e6_ok (by show 1 ≤ 121; decide) ?_
 show ewp _ e6n76 _ _
 have hw := yuccalaw12_wakes
 have hsrc := yuccalaw0_Source (x := x) hb1 hb2 hib hlb
 have hgr := gramI x
 have hg := gok (sourceS_ok x)
 obtain ⟨E, hE, hvg⟩ := vain_grow (token := false) hg
 obtain ⟨S, hS⟩ := first_ex hg hvg
 have hof := first_Of hg hvg hS
 have hnu := vain_Nullable hg hvg
 generalize gramS (sourceS x) = g at *
 have hnl := hg.nn2; have hpl := hg.pl2
 have hol := ofL_len g.nons.length S
 have hwl := whichL_len g.nons.length E true
 repeat' with_reducible first
  | refine ewp_reg_seq ?_ | refine ewp_seq ?_ | refine ewp_skip ?_ | refine ewp_block ?_ | refine xt_n ?_ | refine ewp_condQ ?_ | refine condQ_F ?_ | refine L_gdQ ?_ | refine gdQ_FF ?_
  | simp -implicitDefEqProofs only [wA, Nat.reduceEqDiff, ↓reduceIte, reduceCtorEq, Nat.reduceAdd, Int.cast_ofNat_Int, Int.reduceLT, Int.reduceLE, Int.reduceEq, Int.reduceToNat, decide_true, decide_false, Bool.false_eq_true, hol]
  | (apply callQ0 (hp := hw))
  | (apply callQ1 (hp := hsrc); (focus exact er_cl))
  | (apply callQ1 (hp := hgr); (focus exact src_er _))
  | (apply callQ1 (hp := hof); (focus exact er_cl))
  | (apply callQ1 (hp := hnu); (focus exact er_cl))
  | (apply ldQ_whole)
  | (apply ldQ_cell; (exact wu_))
  | (apply stQ_whole; (exact wu_); (exact wu_))
  | (apply boxQ_i; (exact wu_); (exact wu_))
 refine ewp_loopN ?nx1 (fun (n : Nat) s => s.f 3 = ?v1_3 ∧ s.f 5 = ?v1_5 ∧ s.f 6 = ?v1_6 ∧ s.H 10 = some (MObj.own 5 [g.V] false) ∧ s.f 7 = vi n ∧ (n ≤ g.nons.length)) (fun n => g.nons.length - n) (0) wj_ (by refine ⟨?_, ?_, ?_, ?_, ?_, (by first | omega | (simp; done) | assumption)⟩ <;> first | (simp -implicitDefEqProofs only [wL, wM, wN, wX, Nat.reduceEqDiff, ↓reduceIte, reduceCtorEq, Nat.reduceAdd, Option.some.injEq] <;> first | rfl | exact ⟨_, rfl⟩ | exact ⟨_, rfl, by first | assumption | exact Gr.nil | exact Gr.tok rfl (by omega) | exact Gr.tok (by simp -implicitDefEqProofs only [wM, Nat.reduceEqDiff, ↓reduceIte, reduceCtorEq] <;> rfl) (by omega) | exact Gr.clip⟩) | rfl | exact ⟨_, rfl⟩) ?_
 intro n s hnx ⟨g3, g5, g6, o0, g7, k1_0⟩
 have hz : IntKind.i64.wrap ((n + 1 : Nat) : Int) = ((n + 1 : Nat) : Int) := wrap64 (by omega) (by omega)
 by_cases hn : n < g.nons.length
 · obtain ⟨ha1, ha2⟩ := rulW_all hg hE hS hn
   have h1n := first_List (l := [1000 + (n : Int)]) hg hvg hS (by simp)
   rw [first_one hn] at h1n
   dsimp only at h1n
   have hgo : (ofL g.nons.length S)[n]? = some (lst (S n) 1024) := by simp [ofL, hn]
   have hll := lst_len (S n) 1024
   have hei := yuccaref0_EqInts (a := lst (S n) 1024) (b := lst (S n) 1024) (by omega) (by omega)
   have hhas := yuccaref0_Has (a := whichL g.nons.length E true) (x := 1000 + (n : Int)) (by omega)
   have hhe : decide ((1000 + (n : Int)) ∈ whichL g.nons.length E true) = E n := by rw [Bool.eq_iff_iff, decide_eq_true_eq, whichL_mem hn]
   rw [hhe] at hhas
   rw [decide_eq_true rfl] at hei
   have hz2 : IntKind.i64.wrap (1000 + (n : Int)) = 1000 + (n : Int) := wrap64 (by omega) (by omega)
   repeat' with_reducible first
    | refine ewp_reg_seq ?_ | refine ewp_seq ?_ | refine ewp_skip ?_ | refine ewp_block ?_ | refine xt_n ?_ | refine ewp_condQ ?_
    | simp -implicitDefEqProofs only [wA, Nat.reduceEqDiff, ↓reduceIte, reduceCtorEq, Nat.reduceAdd, Int.cast_ofNat_Int, Int.reduceLT, Int.reduceLE, Int.reduceEq, Int.reduceToNat, decide_true, decide_false, Bool.false_eq_true, g3, g5, g6, g7, o0, hz]
    | (refine condQ_i (fun h => ?_) (fun h => ?_) <;> have h_ := h <;> (try simp only [wD, reduceCtorEq] at h_) <;> (try exact wb_) <;> (try simp only [h]))
    | (apply ldQ_cell; (exact wu_))
   refine ewp_loopN ?nx2 (fun (j : Nat) s => s.f 3 = ?v2_3 ∧ s.f 5 = ?v2_5 ∧ s.f 6 = ?v2_6 ∧ s.f 7 = ?v2_7 ∧ s.H 10 = some (MObj.own 5 [g.V] false) ∧ s.f 10 = vi j ∧ (j ≤ g.prods.length) ∧ ((∃ v, s.f 8 = v ∧ ∀ b H, Er b H v (.sl 1 false ((rulW g.toks.length g.nons.length S E n (g.prods.take j)).map (V.int .i64))))) ∧ (s.f 9 = V.bool (rulE g.toks.length g.nons.length S E n (g.prods.take j)) )) (fun j => g.prods.length - j) (0) wj_ (by refine ⟨?_, ?_, ?_, ?_, ?_, ?_, (by first | omega | (simp; done) | assumption), (by exact ⟨_, by (simp -implicitDefEqProofs only [wL, Nat.reduceEqDiff, ↓reduceIte, reduceCtorEq]); rfl, fun b H => er_sl⟩), (by (try simp -implicitDefEqProofs only [wL, wM, wN, Nat.reduceEqDiff, ↓reduceIte, reduceCtorEq, g3, g5, g6, g7, o0]); rfl)⟩ <;> first | (simp -implicitDefEqProofs only [wL, wM, wN, wX, Nat.reduceEqDiff, ↓reduceIte, reduceCtorEq, Nat.reduceAdd, Option.some.injEq, g3, g5, g6, g7, o0] <;> first | rfl | exact ⟨_, rfl⟩ | exact ⟨_, rfl, by first | assumption | exact Gr.nil | exact Gr.tok rfl (by omega) | exact Gr.tok (by simp -implicitDefEqProofs only [wM, Nat.reduceEqDiff, ↓reduceIte, reduceCtorEq] <;> rfl) (by omega) | exact Gr.clip⟩) | rfl | exact ⟨_, rfl⟩) ?_
   intro j s hnx ⟨g3, g5, g6, g7, o0, g10, k2_0, k2_1, g9⟩
   obtain ⟨v8, g8, hv8⟩ := k2_1
   have hzj : IntKind.i64.wrap ((j + 1 : Nat) : Int) = ((j + 1 : Nat) : Int) := wrap64 (by omega) (by omega)
   by_cases hj : j < g.prods.length
   · have hgj : g.prods[j]? = some g.prods[j] := List.getElem?_eq_getElem hj
     have hmem := List.getElem_mem hj
     have htk : g.prods.take (j + 1) = g.prods.take j ++ [g.prods[j]] := by rw [List.take_add_one, hgj]; rfl
     obtain ⟨lf, hl1, hl2⟩ := hg.left _ hmem
     have hrl := hg.rlen _ hmem
     have hW := rulW_snoc g.toks.length g.nons.length S E n (g.prods.take j) g.prods[j]
     have hEE := rulE_snoc g.toks.length g.nons.length S E n (g.prods.take j) g.prods[j]
     rw [← htk] at hW hEE
     have hwl0 := rulW_len (nt := g.toks.length) (nn := g.nons.length) (S := S) (E := E) (n := n) (g.prods.take j)
     rw [List.length_take] at hwl0
     generalize g.prods[j] = p at *
     obtain ⟨pl, pr, pc, pco, pa, pat⟩ := p
     dsimp only at hl1 hrl hW hEE
     subst hl1
     by_cases hln : lf = n
     · subst hln
       rw [if_pos rfl] at hW hEE
       have hli := first_List (l := pr) hg hvg hS (by omega)
       have hfl := firstL_len g.toks.length g.nons.length S E pr
       generalize (firstL g.toks.length g.nons.length S E pr).1 = A at *
       generalize (firstL g.toks.length g.nons.length S E pr).2 = q at *
       generalize rulW g.toks.length g.nons.length S E lf (g.prods.take j) = W0 at *
       generalize rulE g.toks.length g.nons.length S E lf (g.prods.take j) = E0 at *
       repeat' with_reducible first
        | refine ewp_reg_seq ?_ | refine ewp_seq ?_ | refine ewp_skip ?_ | refine ewp_block ?_ | refine xt_n ?_ | refine ewp_condQ ?_ | refine condQ_F ?_
        | simp -implicitDefEqProofs only [wA, Nat.reduceEqDiff, ↓reduceIte, reduceCtorEq, Nat.reduceAdd, Int.cast_ofNat_Int, Int.reduceLT, Int.reduceLE, Int.reduceEq, Int.reduceToNat, decide_true, decide_false, Bool.false_eq_true, g3, g5, g6, g7, g10, g9, o0, hz, hzj]
        | (refine condQ_i (fun h => ?_) (fun h => ?_) <;> have h_ := h <;> (try simp only [wD, reduceCtorEq] at h_) <;> (try exact wb_) <;> (try simp only [h]))
        | (apply ia_slQ; (focus omega); (focus with_unfolding_all exact hgj))
        | (apply callQ2 (hp := hli); (focus exact er_cl); (focus exact er_cl))
        | (apply ldQ_whole)
        | (apply ldQ_cell; (exact wu_))
        | (apply ld_ipQ; (exact wu_))
       refine ewp_loopN ?nx3 (fun (i : Nat) s => s.f 3 = ?v3_3 ∧ s.f 5 = ?v3_5 ∧ s.f 6 = ?v3_6 ∧ s.f 7 = ?v3_7 ∧ s.f 9 = ?v3_9 ∧ s.f 10 = ?v3_10 ∧ s.f 11 = ?v3_11 ∧ s.f 12 = ?v3_12 ∧ s.H 10 = some (MObj.own 5 [g.V] false) ∧ s.f 13 = vi i ∧ (i ≤ A.length) ∧ ((∃ v, s.f 8 = v ∧ ∀ b H, Er b H v (.sl 1 false (((A.take i).foldl putL W0).map (V.int .i64)))))) (fun i => A.length - i) (0) wj_ (by refine ⟨?_, ?_, ?_, ?_, ?_, ?_, ?_, ?_, ?_, ?_, (by first | omega | (simp; done) | assumption), (by exact ⟨_, by (simp -implicitDefEqProofs only [wL, Nat.reduceEqDiff, ↓reduceIte, reduceCtorEq, g8]), hv8⟩)⟩ <;> first | (simp -implicitDefEqProofs only [wL, wM, wN, wX, Nat.reduceEqDiff, ↓reduceIte, reduceCtorEq, Nat.reduceAdd, Option.some.injEq, g3, g5, g6, g7, g10, g9, o0] <;> first | rfl | exact ⟨_, rfl⟩ | exact ⟨_, rfl, by first | assumption | exact Gr.nil | exact Gr.tok rfl (by omega) | exact Gr.tok (by simp -implicitDefEqProofs only [wM, Nat.reduceEqDiff, ↓reduceIte, reduceCtorEq] <;> rfl) (by omega) | exact Gr.clip⟩) | rfl | exact ⟨_, rfl⟩) ?_
       intro i s hnx ⟨g3, g5, g6, g7, g9, g10, g11, g12, o0, g13, k3_0, k3_1⟩
       obtain ⟨v9, g89, hv9⟩ := k3_1
       have hzi : IntKind.i64.wrap ((i + 1 : Nat) : Int) = ((i + 1 : Nat) : Int) := wrap64 (by omega) (by omega)
       by_cases hi : i < A.length
       · have hgi : A[i]? = some A[i] := List.getElem?_eq_getElem hi
         have hst : (A.take (i + 1)).foldl putL W0 = putL ((A.take i).foldl putL W0) A[i] := by rw [List.take_add_one, hgi, List.foldl_append]; rfl
         have hfl2 := foldPut_len (A.take i) W0
         rw [List.length_take] at hfl2
         have hpu := yuccaref0_Put (l := (A.take i).foldl putL W0) (x := A[i]) (by omega)
         generalize A[i] = y at *
         repeat' with_reducible first
          | refine ewp_reg_seq ?_ | refine ewp_seq ?_ | refine ewp_reg ?_ | refine ewp_skip ?_ | refine ewp_block ?_ | refine xt_n ?_ | refine xb_n ?_ | refine ewp_condQ ?_
          | simp -implicitDefEqProofs only [wA, Nat.reduceEqDiff, ↓reduceIte, reduceCtorEq, Nat.reduceAdd, Int.cast_ofNat_Int, Int.reduceLT, Int.reduceLE, Int.reduceEq, Int.reduceToNat, decide_true, decide_false, Bool.false_eq_true, g3, g5, g6, g7, g9, g10, g11, g12, g13, o0, g89, hzi]
          | (refine condQ_i (fun h => ?_) (fun h => ?_) <;> have h_ := h <;> (try simp only [wD, reduceCtorEq] at h_) <;> (try exact wb_) <;> (try simp only [h]))
          | (apply ia_slQ; (focus omega); (focus with_unfolding_all exact hgi))
          | (apply callQ2 (hp := hpu); (focus exact hv9 _ _); (focus exact er_cl))
         refine ⟨wk_, i + 1, (by omega), ?_⟩
         refine ⟨?_, ?_, ?_, ?_, ?_, ?_, ?_, ?_, ?_, ?_, ?_, ?_⟩
         iterate 10 (focus (first | (simp -implicitDefEqProofs only [wL, wM, wN, wX, Nat.reduceEqDiff, ↓reduceIte, reduceCtorEq, Nat.reduceAdd, Option.some.injEq, g3, g5, g6, g7, g9, g10, g11, g12, g13, o0] <;> first | rfl | exact ⟨_, rfl⟩ | exact ⟨_, rfl, by first | assumption | exact Gr.nil | exact Gr.tok rfl (by omega) | exact Gr.tok (by simp -implicitDefEqProofs only [wM, Nat.reduceEqDiff, ↓reduceIte, reduceCtorEq] <;> rfl) (by omega) | exact Gr.clip⟩) | rfl | exact ⟨_, rfl⟩))
         all_goals try omega
         exact ⟨_, rfl, fun b H => by rw [hst]; exact er_cl⟩
       · rw [List.take_of_length_le (by omega), ← hW] at hv9
         repeat' with_reducible first
          | refine ewp_reg_seq ?_ | refine ewp_seq ?_ | refine ewp_reg ?_ | refine ewp_exit ?_ | refine xt_n ?_ | refine xt_e ?_ | refine xb_n ?_ | refine xb_e ?_ | refine ewp_condQ ?_ | refine L_gdQ ?_
          | simp -implicitDefEqProofs only [wA, Nat.reduceEqDiff, ↓reduceIte, reduceCtorEq, Nat.reduceAdd, Int.cast_ofNat_Int, Int.reduceLT, Int.reduceLE, Int.reduceEq, Int.reduceToNat, decide_true, decide_false, Bool.false_eq_true, g3, g5, g6, g7, g9, g10, g11, g12, g13, o0, g89, hzj]
          | (refine condQ_i (fun h => ?_) (fun h => ?_) <;> have h_ := h <;> (try simp only [wD, reduceCtorEq] at h_) <;> (try exact wb_) <;> (try simp only [h]))
          | ((first | refine gdQ_iT (fun h => ?_) (fun h => ?_) | refine gdQ_iF (fun h => ?_) (fun h => ?_)) <;> have h_ := h <;> (try simp only [wD, reduceCtorEq] at h_) <;> (try exact wb_) <;> (try simp only [h]))
         all_goals
          refine ⟨by ((try simp only [wN]); omega), j + 1, by omega, trivial, trivial, trivial, trivial, trivial, rfl, by omega, ⟨v9, rfl, hv9⟩, ?_⟩
          rw [hEE]
          simp [*]
     · skip
       rw [if_neg (by omega)] at hW hEE
       repeat' with_reducible first
        | refine ewp_reg_seq ?_ | refine ewp_seq ?_ | refine ewp_reg ?_ | refine ewp_skip ?_ | refine ewp_block ?_ | refine ewp_exit ?_ | refine xt_n ?_ | refine xt_e ?_ | refine xb_e ?_ | refine ewp_condQ ?_
        | simp -implicitDefEqProofs only [wA, Nat.reduceEqDiff, ↓reduceIte, reduceCtorEq, Nat.reduceAdd, Int.cast_ofNat_Int, Int.reduceLT, Int.reduceLE, Int.reduceEq, Int.reduceToNat, decide_true, decide_false, Bool.false_eq_true, g3, g5, g6, g7, g10, g9, o0, hz, hzj]
        | (refine condQ_i (fun h => ?_) (fun h => ?_) <;> have h_ := h <;> (try simp only [wD, reduceCtorEq] at h_) <;> (try exact wb_) <;> (try simp only [h]))
        | (apply ia_slQ; (focus omega); (focus with_unfolding_all exact hgj))
        | (apply ldQ_cell; (exact wu_))
        | (apply ld_ipQ; (exact wu_))
       exact ⟨by ((try simp only [wN]); omega), j + 1, by omega, trivial, trivial, trivial, trivial, trivial, rfl, by omega, ⟨v8, g8, by rw [hW]; exact hv8⟩, by rw [hEE]⟩
   · rw [List.take_of_length_le (by omega), ha1] at hv8
     rw [List.take_of_length_le (by omega), ha2] at g9
     repeat' with_reducible first
      | refine ewp_reg_seq ?_ | refine ewp_seq ?_ | refine ewp_reg ?_ | refine ewp_skip ?_ | refine ewp_exit ?_ | refine xt_n ?_ | refine xt_e ?_ | refine xb_n ?_ | refine xb_e ?_ | refine ewp_condQ ?_ | refine condQ_F ?_ | refine L_gdQ ?_ | refine gdQ_FF ?_
      | simp -implicitDefEqProofs only [wA, Nat.reduceEqDiff, ↓reduceIte, reduceCtorEq, Nat.reduceAdd, Int.cast_ofNat_Int, Int.reduceLT, Int.reduceLE, Int.reduceEq, Int.reduceToNat, decide_true, decide_false, Bool.false_eq_true, g3, g5, g6, g7, g10, g9, o0, hz, hz2, g8]
      | (refine condQ_i (fun h => ?_) (fun h => ?_) <;> have h_ := h <;> (try simp only [wD, reduceCtorEq] at h_) <;> (try exact wb_) <;> (try simp only [h]))
      | (apply ia_slQ; (focus omega); (focus with_unfolding_all exact hgo))
      | (apply callQ2 (hp := h1n); (focus exact er_cl); (focus with_unfolding_all exact er_ints (l := [1000 + (n : Int)])))
      | (apply callQ2 (hp := hei); (focus exact er_cl); (focus exact hv8 _ _))
      | (apply callQ2 (hp := hhas); (focus exact er_cl); (focus exact er_cl))
      | (apply ldQ_whole)
      | (apply ldQ_cell; (exact wu_))
     exact ⟨by ((try simp only [wN]); omega), n + 1, by omega, trivial, trivial, trivial, trivial, rfl, by omega⟩
 · skip
   repeat' with_reducible first
    | refine ewp_reg_seq ?_ | refine ewp_seq ?_ | refine ewp_ret ?_ | refine ewp_exit ?_ | refine xt_n ?_ | refine xt_e ?_ | refine xb_e ?_ | refine ewp_condQ ?_
    | simp -implicitDefEqProofs only [wA, Nat.reduceEqDiff, ↓reduceIte, reduceCtorEq, Nat.reduceAdd, Int.cast_ofNat_Int, Int.reduceLT, Int.reduceLE, Int.reduceEq, Int.reduceToNat, decide_true, decide_false, Bool.false_eq_true, g3, g5, g6, g7, o0]
    | (refine condQ_i (fun h => ?_) (fun h => ?_) <;> have h_ := h <;> (try simp only [wD, reduceCtorEq] at h_) <;> (try exact wb_) <;> (try simp only [h]))
    | (apply ldQ_cell; (exact wu_))
   all_goals refine post1 rfl (Or.inr rfl) ?_
   all_goals (try simp -implicitDefEqProofs only [wL, Nat.reduceEqDiff, ↓reduceIte, reduceCtorEq, g3, g5, g6, g7])
   all_goals (first | refine er_bool ?_ | refine er_int ?_ | refine er_str ?_ | refine er_sl_eq ?_ | refine er_asl_eq ?_)
   all_goals (try (with_reducible rfl))
end Go.Proofs
