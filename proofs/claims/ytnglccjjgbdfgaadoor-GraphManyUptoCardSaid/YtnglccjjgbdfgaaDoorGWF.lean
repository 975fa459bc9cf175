/- Part of a proof that a law of the given program answers true. -/
import Derived.Test.YtnglccjjgbdfgaaDoorGWE
import Derived.Test.YtnglccjjgbdfgaaDoorGWD
import Derived.Test.YtnglccjjgbdfgaaDoorGCA
set_option linter.unusedSimpArgs false
set_option linter.unusedVariables false
set_option maxHeartbeats 4000000
namespace Go.Proofs
open Go.E
theorem erLm {α : Type} {b : Bool} {H : Nat → Option MObj} {f g : α → V} : ∀ {l : List α}, (∀ x ∈ l, Er b H (f x) (g x)) → ErL b H (l.map f) (l.map g)
 | [], _ => .nil
 | x :: l, h => .cons (h x (by simp)) (erLm fun y hy => h y (List.mem_cons_of_mem _ hy))
abbrev litV (x : List Int) : V := .sl 1 true (x.map (V.int .i64))
theorem er_lit2 {b : Bool} {H : Nat → Option MObj} (l : List (List Int)) : Er b H (.sl 1 true (l.map litV)) (.sl 1 false (l.map intsV)) :=
 (erLm (fun x _ => er_sl)).sl
theorem er_id2 {b : Bool} {H : Nat → Option MObj} (l : List (List Int)) : Er b H (.sl 1 false (l.map intsV)) (.sl 1 false (l.map intsV)) := er_cl
theorem natI_each {n : Nat} {L : List (List Nat)} (h : ∀ l ∈ L, l.length ≤ n) : ∀ l ∈ L.map natI, l.length ≤ n := by
 intro l hl
 obtain ⟨x, hx, rfl⟩ := List.mem_map.1 hl
 rw [natI, List.length_map]; exact h x hx
theorem yuccalaw3_wakes   : Pure Tryd.prog 8 [] (.bool true) := by
 refine pure_intro Tryd.func8 e8_nm e8_ok (by show 0 ≤ 24; decide) ?_
 show ewp _ e8n5 _ _
 have hc := graph_Close (rl := [[1], [0], [0]]) (sets := [[5], [6]]) (by decide) (by decide) (by decide) (by decide)
 rw [if_neg (by decide), ofL_clo] at hc
 have e1 : ((List.range [[1], [0], [(0 : Int)]].length).map fun i => setF (fltS (relF [[5], [6]]) (reachS (relF [[1], [0], [0]]) [[1], [0], [(0 : Int)]].length i))) = [[5, 6], [5, 6], [5, 6]] := by decide +kernel
 rw [e1] at hc
 have hm := graph_Comps (rl := [[1], [0], [0]]) (by decide) (by decide)
 rw [if_neg (by decide), compM_eq] at hm
 have e2 : ((List.range [[1], [0], [(0 : Int)]].length).filterMap fun i => if (clsB (relF [[1], [0], [0]]) [[1], [0], [(0 : Int)]].length i).head? = some i then some (clsB (relF [[1], [0], [0]]) [[1], [0], [(0 : Int)]].length i) else none).map natI = [[0, 1], [2]] := by decide +kernel
 rw [e2] at hm
 have q1 := yuccaref0_EqLists (a := [[5, 6], [5, 6], [5, 6]]) (b := [[5, 6], [5, 6], [5, 6]]) (by decide) (by decide) (by decide) (by decide)
 have q2 := yuccaref0_EqLists (a := [[0, 1], [2]]) (b := [[0, 1], [2]]) (by decide) (by decide) (by decide) (by decide)
 rw [decide_eq_true rfl] at q1 q2
 repeat' with_reducible first
  | refine s_ ?_
  | refine s_ ?_
  | simp -implicitDefEqProofs only [wS, wT, wU, wV, wW, wX, wY, wC, wF, wG, wL, wM, wN, seval, Int.cast_ofNat_Int, Int.reduceLT, Int.reduceLE, Int.reduceEq, Int.reduceToNat, decide_true, decide_false, Bool.false_eq_true]
  | ((first | refine gdQ_iT (fun h => ?_) (fun h => ?_) | refine gdQ_iF (fun h => ?_) (fun h => ?_)) <;> have h_ := h <;> (try simp only [wD, reduceCtorEq] at h_) <;> (try (exfalso; first | omega | exact absurd (Eq.trans (Eq.symm h_) (by assumption) : false = true) (by decide) | exact absurd (Eq.trans (Eq.symm h_) (by assumption) : true = false) (by decide) | (refine absurd ?_ h_; focus assumption) | (refine absurd h_ ?_; focus assumption))) <;> (try simp only [h]))
  | (apply callQ2 (hp := hc); (focus with_unfolding_all exact er_lit2 [[1], [0], [0]]); (focus with_unfolding_all exact er_lit2 [[5], [6]]))
  | (apply callQ1 (hp := hm); (focus with_unfolding_all exact er_lit2 [[1], [0], [0]]))
  | (apply callQ2 (hp := q1); (focus with_unfolding_all exact er_id2 [[5, 6], [5, 6], [5, 6]]); (focus with_unfolding_all exact er_lit2 [[5, 6], [5, 6], [5, 6]]))
  | (apply callQ2 (hp := q2); (focus with_unfolding_all exact er_id2 [[0, 1], [2]]); (focus with_unfolding_all exact er_lit2 [[0, 1], [2]]))
  | (apply fil_part; (exact wu_); (exact wu_); (exact wu_); (focus ((try simp -implicitDefEqProofs only [wY]); rfl)))
  | (apply callQ2 (hp := graph_Close ?_ ?_ ?_ ?_); (exact we_); (exact we_); rotate_left; (exact wf_); (exact wf_); (exact wf_); (exact wf_))
  | (apply callQ1 (hp := graph_Comps ?_ ?_); (exact we_); rotate_left; (exact wf_); (exact wf_))
  | simp -implicitDefEqProofs (disch := omega) only [w64, if_neg]
 refine post1 rfl (Or.inr rfl) ?_
 simp -implicitDefEqProofs only [wL, seval]
 first | refine er_bool ?_ | refine er_int ?_ | refine er_str ?_ | refine er_sl_eq ?_ | refine er_asl_eq ?_
 try (with_reducible rfl)
theorem yuccalaw3_GraphClose {rl sets : List (List Int)} (hl : rl.length ≤ 1099511627776) (hrk : ∀ l ∈ rl, l.length ≤ 1099511627776) (hsl : sets.length ≤ 1099511627776) (hsk : ∀ l ∈ sets, l.length ≤ 1099511627776) : Pure Tryd.prog 3 [.sl 1 false (rl.map intsV), .sl 1 false (sets.map intsV)] (.bool true) := by
 refine pure_intro Tryd.func3 e3_nm e3_ok (by show 2 ≤ 22; decide) ?_
 show ewp _ e3n15 _ _
 have hw := yuccalaw3_wakes
 have h1 := yuccalaw0_Lists (n := 25) (m := 8) hl hrk (by omega) (by omega)
 have h2 := yuccalaw0_Lists (n := 30) (m := 8) hsl hsk (by omega) (by omega)
 simp only [Int.cast_ofNat_Int] at h1 h2
 have a1 := listsN_len rl 25 8
 have a2 := listsN_len sets 30 8
 have b1 := listsN_each (l := rl) (n := 25) (m := 8)
 have b2 := listsN_each (l := sets) (n := 30) (m := 8)
 generalize listsN rl 25 8 = R at *
 generalize listsN sets 30 8 = S at *
 have hc := graph_Close (rl := R) (sets := S) (by omega) (fun l h => by have := b1 l h; omega) (by omega) (fun l h => by have := b2 l h; omega)
 have hd := yuccaref1_Close (rl := R) (sets := S) (by omega) (fun l h => by have := b1 l h; omega) (by omega) (fun l h => by have := b2 l h; omega)
 rw [if_neg (by omega)] at hc hd
 have c1 := ofL_len R.length (cloM (relF R) R.length (relF S))
 have c2 := ofL_each (n := R.length) (S := cloM (relF R) R.length (relF S))
 generalize ofL R.length (cloM (relF R) R.length (relF S)) = O at *
 have q := yuccaref0_EqLists (a := O) (b := O) (by omega) (by omega) (fun l h => by have := c2 l h; omega) (fun l h => by have := c2 l h; omega)
 rw [decide_eq_true rfl] at q
 repeat' with_reducible first
  | refine s_ ?_
  | refine s_ ?_
  | simp -implicitDefEqProofs only [wS, wT, wU, wV, wW, wX, wY, wC, wF, wG, wL, wM, wN, seval, Int.cast_ofNat_Int, Int.reduceLT, Int.reduceLE, Int.reduceEq, Int.reduceToNat, decide_true, decide_false, Bool.false_eq_true]
  | (refine condQ_j (fun h h_ => ?_) (fun h h_ => ?_) <;> (try simp only [wD, reduceCtorEq] at h_) <;> (try (exfalso; first | omega | exact absurd (Eq.trans (Eq.symm h_) (by assumption) : false = true) (by decide) | exact absurd (Eq.trans (Eq.symm h_) (by assumption) : true = false) (by decide) | (refine absurd ?_ h_; focus assumption) | (refine absurd h_ ?_; focus assumption))) <;> (try simp only [h]))
  | (apply callQ0 (hp := hw))
  | (apply callQ3 (hp := h1); (focus exact er_cl); (focus exact er_cl); (focus exact er_cl))
  | (apply callQ3 (hp := h2); (focus exact er_cl); (focus exact er_cl); (focus exact er_cl))
  | (apply callQ2 (hp := hc); (focus exact er_cl); (focus exact er_cl))
  | (apply callQ2 (hp := hd); (focus exact er_cl); (focus exact er_cl))
  | (apply callQ2 (hp := q); (focus exact er_cl); (focus exact er_cl))
  | (apply callQ0 (hp := yuccalaw3_wakes))
  | (apply callQ3 (hp := yuccalaw0_Lists ?_ ?_ ?_ ?_); (exact we_); (exact we_); (exact we_); rotate_left; (exact wf_); (exact wf_); (exact wf_); (exact wf_))
  | (apply callQ2 (hp := graph_Close ?_ ?_ ?_ ?_); (exact we_); (exact we_); rotate_left; (exact wf_); (exact wf_); (exact wf_); (exact wf_))
  | (apply callQ2 (hp := yuccaref1_Close ?_ ?_ ?_ ?_); (exact we_); (exact we_); rotate_left; (exact wf_); (exact wf_); (exact wf_); (exact wf_))
  | simp -implicitDefEqProofs (disch := omega) only [w64, if_neg]
 refine post1 rfl (Or.inr rfl) ?_
 simp -implicitDefEqProofs only [wL, seval]
 first | refine er_bool ?_ | refine er_int ?_ | refine er_str ?_ | refine er_sl_eq ?_ | refine er_asl_eq ?_
 try (with_reducible rfl)
theorem yuccalaw3_GraphComps {rl : List (List Int)} (hl : rl.length ≤ 1099511627776) (hrk : ∀ l ∈ rl, l.length ≤ 1099511627776) : Pure Tryd.prog 4 [.sl 1 false (rl.map intsV)] (.bool true) := by
 refine pure_intro Tryd.func4 e4_nm e4_ok (by show 1 ≤ 12; decide) ?_
 show ewp _ e4n11 _ _
 have hw := yuccalaw3_wakes
 have h1 := yuccalaw0_Lists (n := 25) (m := 6) hl hrk (by omega) (by omega)
 simp only [Int.cast_ofNat_Int] at h1
 have a1 := listsN_len rl 25 6
 have b1 := listsN_each (l := rl) (n := 25) (m := 6)
 generalize listsN rl 25 6 = R at *
 have hc := graph_Comps (rl := R) (by omega) (fun l h => by have := b1 l h; omega)
 have hd := yuccaref1_Comps (rl := R) (by omega) (fun l h => by have := b1 l h; omega)
 rw [if_neg (by omega)] at hc hd
 have c1 : ((compM (relF R) R.length).map natI).length ≤ R.length := by rw [List.length_map]; exact compT_len (relF R) R.length R.length
 have c2 := natI_each (compM_each (rel := relF R) (n := R.length))
 generalize (compM (relF R) R.length).map natI = O at *
 have q := yuccaref0_EqLists (a := O) (b := O) (by omega) (by omega) (fun l h => by have := c2 l h; omega) (fun l h => by have := c2 l h; omega)
 rw [decide_eq_true rfl] at q
 repeat' with_reducible first
  | refine s_ ?_
  | refine s_ ?_
  | simp -implicitDefEqProofs only [wS, wT, wU, wV, wW, wX, wY, wC, wF, wG, wL, wM, wN, seval, Int.cast_ofNat_Int, Int.reduceLT, Int.reduceLE, Int.reduceEq, Int.reduceToNat, decide_true, decide_false, Bool.false_eq_true]
  | (refine condQ_j (fun h h_ => ?_) (fun h h_ => ?_) <;> (try simp only [wD, reduceCtorEq] at h_) <;> (try (exfalso; first | omega | exact absurd (Eq.trans (Eq.symm h_) (by assumption) : false = true) (by decide) | exact absurd (Eq.trans (Eq.symm h_) (by assumption) : true = false) (by decide) | (refine absurd ?_ h_; focus assumption) | (refine absurd h_ ?_; focus assumption))) <;> (try simp only [h]))
  | (apply callQ0 (hp := hw))
  | (apply callQ3 (hp := h1); (focus exact er_cl); (focus exact er_cl); (focus exact er_cl))
  | (apply callQ1 (hp := hc); (focus exact er_cl))
  | (apply callQ1 (hp := hd); (focus exact er_cl))
  | (apply callQ2 (hp := q); (focus exact er_cl); (focus exact er_cl))
  | (apply callQ0 (hp := yuccalaw3_wakes))
  | (apply callQ3 (hp := yuccalaw0_Lists ?_ ?_ ?_ ?_); (exact we_); (exact we_); (exact we_); rotate_left; (exact wf_); (exact wf_); (exact wf_); (exact wf_))
  | (apply callQ1 (hp := graph_Comps ?_ ?_); (exact we_); rotate_left; (exact wf_); (exact wf_))
  | (apply callQ1 (hp := yuccaref1_Comps ?_ ?_); (exact we_); rotate_left; (exact wf_); (exact wf_))
  | simp -implicitDefEqProofs (disch := omega) only [w64, if_neg]
 refine post1 rfl (Or.inr rfl) ?_
 simp -implicitDefEqProofs only [wL, seval]
 first | refine er_bool ?_ | refine er_int ?_ | refine er_str ?_ | refine er_sl_eq ?_ | refine er_asl_eq ?_
 try (with_reducible rfl)

theorem ch_each {n i : Nat} {ring : Bool} : ∀ l ∈ chR n ring i, l.length ≤ 1000000 := by
 intro l hl
 obtain ⟨k, _, rfl⟩ := List.mem_map.1 hl
 split <;> simp
theorem chS_each {i : Nat} : ∀ l ∈ chS i, l.length ≤ 1000000 := by
 intro l hl
 obtain ⟨k, _, rfl⟩ := List.mem_map.1 hl
 simp
theorem chW_each {n i : Nat} {ring : Bool} (h : n ≤ 1000000) : ∀ l ∈ chW n ring i, l.length ≤ 1000000 := by
 intro l hl
 obtain ⟨k, _, rfl⟩ := List.mem_map.1 hl
 have := chT_len ring k n
 rw [natI, List.length_map]; omega
theorem Gr.erLit {H H' : Nat → Option MObj} {next : Nat} {l : List (List Int)} {v : V} {b : Bool} (h : Gr H next 1 (l.map litV) v) : Er b H' v (.sl 1 false (l.map intsV)) := Go.E.Gr.erL h (erLm fun x _ => er_sl)
theorem yuccalaw3_GraphChains {n0 : Int} {ring : Bool}  : Pure Tryd.prog 5 [vi n0, .bool ring] (.bool true) := by
 refine pure_intro Tryd.func5 e5_nm e5_ok (by show 2 ≤ 100; decide) ?_
 show ewp _ e5n72 _ _
 have hw := yuccalaw3_wakes
 have hwi := yuccaref0_Within (i := n0) (n := 60) (by omega) (by omega)
 obtain ⟨n, hn⟩ : ∃ n : Nat, n = (1 + n0 % 60).toNat := ⟨_, rfl⟩
 have hn1 : 1 + n0 % 60 = (n : Int) := by omega
 have hn2 : n ≤ 60 := by omega
 have hn3 : 0 < n := by omega
 have hzn : IntKind.i64.wrap (1 + n0 % 60) = (n : Int) := by rw [wrap64 (by omega) (by omega)]; omega
 generalize n0 % 60 = m0 at *
 repeat' with_reducible first
  | refine s_ ?_
  | refine s_ ?_
  | refine s_ ?_
  | simp -implicitDefEqProofs only [wS, wT, wU, wV, wW, wX, wY, wC, wF, wG, wL, wM, wN, seval, Int.cast_ofNat_Int, Int.reduceLT, Int.reduceLE, Int.reduceEq, Int.reduceToNat, decide_true, decide_false, Bool.false_eq_true, hzn]
  | (refine condQ_j (fun h h_ => ?_) (fun h h_ => ?_) <;> (try simp only [wD, reduceCtorEq] at h_) <;> (try (exfalso; first | omega | exact absurd (Eq.trans (Eq.symm h_) (by assumption) : false = true) (by decide) | exact absurd (Eq.trans (Eq.symm h_) (by assumption) : true = false) (by decide) | (refine absurd ?_ h_; focus assumption) | (refine absurd h_ ?_; focus assumption))) <;> (try simp only [h]))
  | ((first | refine gdQ_iT (fun h => ?_) (fun h => ?_) | refine gdQ_iF (fun h => ?_) (fun h => ?_)) <;> have h_ := h <;> (try simp only [wD, reduceCtorEq] at h_) <;> (try (exfalso; first | omega | exact absurd (Eq.trans (Eq.symm h_) (by assumption) : false = true) (by decide) | exact absurd (Eq.trans (Eq.symm h_) (by assumption) : true = false) (by decide) | (refine absurd ?_ h_; focus assumption) | (refine absurd h_ ?_; focus assumption))) <;> (try simp only [h]))
  | (apply callQ0 (hp := hw))
  | (apply callQ2 (hp := hwi); (focus exact er_cl); (focus exact er_cl))
  | (apply ia_slQ; (focus omega); (exact wd_))
  | (apply ia_aslQ; (focus omega); (exact wd_))
  | (apply appQ_C; (focus (first | exact SrcN.sl | exact SrcN.asl | exact SrcN.str)); (exact wf_); (focus (unfold maxLen; first | omega | (simp only [wZ] <;> omega))))
  | (refine app_asl ?_; simp -implicitDefEqProofs only [wM, wN, seval, hzn]; apply appT_i; (focus (first | exact SrcN.sl | exact SrcN.asl | exact SrcN.str)); (exact wf_); (focus (unfold maxLen; first | omega | (simp only [wZ] <;> omega))))
  | (apply fil_part; (exact wu_); (exact wu_); (exact wu_); (focus ((try simp -implicitDefEqProofs only [wY]); rfl)))
  | (apply strAdd; (focus (first | omega | (simp only [wZ] <;> omega))))
  | (apply ldQ_whole)
  | (apply ldQ_sub; (exact wu_); (exact wu_); (focus ((try simp -implicitDefEqProofs only [wE, Nat.reduceAdd]); rfl)))
  | (apply ldQ_obj; (exact wd_); (exact wu_))
  | (apply ldQ_cell; (exact wu_))
  | (apply ldQ_one; (exact wu_))
  | (apply ld_ipQ; (exact wu_))
  | (apply callQ0 (hp := yuccalaw3_wakes))
  | (apply callQ1 (hp := graph_Comps ?_ ?_); (exact we_); rotate_left; (exact wf_); (exact wf_))
  | (apply callQ2 (hp := graph_Close ?_ ?_ ?_ ?_); (exact we_); (exact we_); rotate_left; (exact wf_); (exact wf_); (exact wf_); (exact wf_))
  | simp -implicitDefEqProofs (disch := omega) only [w64, if_neg]
 refine ewp_loopN ?nx1 (fun (i : Nat) s => s.f 0 = ?v1_0 ∧ s.f 1 = ?v1_1 ∧ s.f 7 = ?v1_7 ∧ (∃ v, s.f 5 = v ∧ Gr s.H s.next 1 ((chR n ring i).map litV) v) ∧ (∃ v, s.f 6 = v ∧ Gr s.H s.next 1 ((chS i).map litV) v) ∧ s.f 8 = vi i ∧ (i ≤ n) ∧ (Sep (s.f 5) (s.f 6))) (fun i => n - i) (0) wj_ (by refine ⟨?_, ?_, ?_, ?_, ?_, ?_, (by first | omega | (simp; done) | assumption), (by (try simp -implicitDefEqProofs only [wL, wM, wN, seval]); first | exact Sep.slL | exact Sep.slR | exact Sep.ids (by omega))⟩ <;> first | (simp -implicitDefEqProofs only [wL, wM, wN, wX, seval, Option.some.injEq] <;> exact wt_) | rfl | exact ⟨_, rfl⟩) ?_
 intro i s hnx ⟨g0, g1, g7, ⟨v5, g5, G5⟩, ⟨v6, g6, G6⟩, g8, k1_0, S5_6⟩
 rw [g5, g6] at S5_6
 have hsep : ∀ id, gid v6 = some id → ¬ gid v5 = some id := fun id h e => S5_6 id e h
 have l5 := chR_len n ring i
 have l6 := chS_len i
 have hz : IntKind.i64.wrap ((i + 1 : Nat) : Int) = ((i + 1 : Nat) : Int) := wrap64 (by omega) (by omega)
 have hz1 : IntKind.i64.wrap ((i : Int) + 1) = ((i + 1 : Nat) : Int) := wrap64 (by omega) (by omega)
 by_cases hi : i < n
 · have s5 : (chR n ring (i + 1)).map litV = (chR n ring i).map litV ++ [litV (if i + 1 = n ∧ ring = true then [0] else [((i + 1 : Nat) : Int)])] := by rw [chR_succ, List.map_append]; rfl
   have s6 : (chS (i + 1)).map litV = (chS i).map litV ++ [V.sl 1 true [V.int .i64 (i : Int)]] := by rw [chS_succ, List.map_append]; rfl
   by_cases hc : i + 1 = n ∧ ring = true
   · rw [if_pos hc, show litV [0] = V.sl 1 true [V.int .i64 0] from rfl] at s5
     obtain ⟨c1, rfl⟩ := hc
     have c2 : ((i + 1 : Nat) : Int) = (n : Int) := by omega
     repeat' with_reducible first
      | refine s_ ?_
      | refine s_ ?_
      | refine s_ ?_
      | simp -implicitDefEqProofs only [wS, wT, wU, wV, wW, wX, wY, wC, wF, wG, wL, wM, wN, seval, Int.cast_ofNat_Int, Int.reduceLT, Int.reduceLE, Int.reduceEq, Int.reduceToNat, decide_true, decide_false, Bool.false_eq_true, g0, g1, g7, g5, g6, g8, hz, hz1, G5.len, G6.len]
      | (refine condQ_j (fun h h_ => ?_) (fun h h_ => ?_) <;> (try simp only [wD, reduceCtorEq] at h_) <;> (try (exfalso; first | omega | exact absurd (Eq.trans (Eq.symm h_) (by assumption) : false = true) (by decide) | exact absurd (Eq.trans (Eq.symm h_) (by assumption) : true = false) (by decide) | (refine absurd ?_ h_; focus assumption) | (refine absurd h_ ?_; focus assumption))) <;> (try simp only [h]))
      | ((first | refine gdQ_iT (fun h => ?_) (fun h => ?_) | refine gdQ_iF (fun h => ?_) (fun h => ?_)) <;> have h_ := h <;> (try simp only [wD, reduceCtorEq] at h_) <;> (try (exfalso; first | omega | exact absurd (Eq.trans (Eq.symm h_) (by assumption) : false = true) (by decide) | exact absurd (Eq.trans (Eq.symm h_) (by assumption) : true = false) (by decide) | (refine absurd ?_ h_; focus assumption) | (refine absurd h_ ?_; focus assumption))) <;> (try simp only [h]))
      | (apply appQ_G rfl (G5.mono (Nat.le_refl _) (fun id h1 h2 => by (try simp only [wM]); (repeat rw [if_neg (by omega)]))); (focus (first | exact SrcN.sl | exact SrcN.asl)); (focus (simp only [wZ] <;> omega)); (focus (unfold maxLen; simp only [wZ] <;> omega)))
      | (apply appQ_G rfl (G6.mono (Nat.le_refl _) (fun id h1 h2 => by (try simp only [wM, dropG]); (repeat first | rw [if_neg (by omega)] | rw [if_neg (hsep _ h1)]))); (focus exact SrcN.sl); (focus (simp only [wZ] <;> omega)); (focus (unfold maxLen; simp only [wZ] <;> omega)))
      | (apply ia_slQ; (focus omega); (exact wd_))
      | (apply Gr.iaQ G5; (focus omega); (exact wd_))
      | (apply Gr.iaQ G6; (focus omega); (exact wd_))
      | (apply ia_aslQ; (focus omega); (exact wd_))
      | (apply appQ_G (hg := G5); (focus (first | rfl | (simp -implicitDefEqProofs only [wM]; done))); (focus (first | exact SrcN.sl | exact SrcN.asl | exact SrcN.gr G5 | exact SrcN.gr G6 | exact SrcN.str)); (exact wf_); (focus (unfold maxLen; first | omega | (simp only [wZ] <;> omega))))
      | (apply appQ_G (hg := G6); (focus (first | rfl | (simp -implicitDefEqProofs only [wM]; done))); (focus (first | exact SrcN.sl | exact SrcN.asl | exact SrcN.gr G5 | exact SrcN.gr G6 | exact SrcN.str)); (exact wf_); (focus (unfold maxLen; first | omega | (simp only [wZ] <;> omega))))
      | (apply appQ_C; (focus (first | exact SrcN.sl | exact SrcN.asl | exact SrcN.gr G5 | exact SrcN.gr G6 | exact SrcN.str)); (exact wf_); (focus (unfold maxLen; first | omega | (simp only [wZ] <;> omega))))
      | (refine app_asl ?_; simp -implicitDefEqProofs only [wM, wN, seval, g0, g1, g7, g5, g6, g8, hz, hz1]; apply appT_i; (focus (first | exact SrcN.sl | exact SrcN.asl | exact SrcN.gr G5 | exact SrcN.gr G6 | exact SrcN.str)); (exact wf_); (focus (unfold maxLen; first | omega | (simp only [wZ] <;> omega))))
      | (apply fil_part; (exact wu_); (exact wu_); (exact wu_); (focus ((try simp -implicitDefEqProofs only [wY]); rfl)))
      | (apply strAdd; (focus (first | omega | (simp only [wZ] <;> omega))))
      | (apply ldQ_whole)
      | (apply ldQ_sub; (exact wu_); (exact wu_); (focus ((try simp -implicitDefEqProofs only [wE, Nat.reduceAdd]); rfl)))
      | (apply ldQ_obj; (exact wd_); (exact wu_))
      | (apply ldQ_cell; (exact wu_))
      | (apply ldQ_one; (exact wu_))
      | (apply ld_ipQ; (exact wu_))
      | (apply callQ0 (hp := yuccalaw3_wakes))
      | (apply callQ1 (hp := graph_Comps ?_ ?_); (focus (first | exact er_intsL | exact er_cl | exact er_sl | exact er_asl | exact G5.er rfl | exact G6.er rfl)); rotate_left; (exact wf_); (exact wf_))
      | (apply callQ2 (hp := graph_Close ?_ ?_ ?_ ?_); (focus (first | exact er_intsL | exact er_cl | exact er_sl | exact er_asl | exact G5.er rfl | exact G6.er rfl)); (focus (first | exact er_intsL | exact er_cl | exact er_sl | exact er_asl | exact G5.er rfl | exact G6.er rfl)); rotate_left; (exact wf_); (exact wf_); (exact wf_); (exact wf_))
      | simp -implicitDefEqProofs (disch := omega) only [w64, if_neg]
     refine ⟨wk_, i + 1, (by omega), ?_⟩
     refine ⟨?_, ?_, ?_, ?_, ?_, ?_, ?_, ?_⟩
     iterate 6 (focus (first | (simp -implicitDefEqProofs only [wL, wM, wN, wX, seval, Option.some.injEq, g0, g1, g7, g5, g6, g8, s5, s6] <;> first | rfl | exact ⟨_, rfl⟩ | exact ⟨_, rfl, by first | assumption | exact Gr.nil | exact Gr.tok rfl (by omega) | (refine Gr.tok ?_ ?_; (focus (simp only [wM, dropG]; (repeat (first | rw [if_pos trivial] | rw [if_pos rfl] | rw [if_neg (by omega)] | rw [if_neg (fun e => absurd (Gr.lt G5 e) (by omega))] | rw [if_neg (fun e => absurd (Gr.lt G6 e) (by omega))])); done)); (focus omega)) | exact Gr.tok (by simp -implicitDefEqProofs only [wM, seval] <;> rfl) (by omega) | exact Gr.clip | exact G5.to (by first | rfl | (simp [*]; done)) (by omega) rfl | exact G6.to (by first | rfl | (simp [*]; done)) (by omega) rfl | exact G5.mono' rfl (by omega) (fun j hj hl => by simp only [wM, dropG]; repeat (first | rfl | rw [if_neg (by omega)] | rw [if_neg (fun e => S5_6 _ e hj)] | rw [if_neg (fun e => S5_6 _ hj e)])) | exact G6.mono' rfl (by omega) (fun j hj hl => by simp only [wM, dropG]; repeat (first | rfl | rw [if_neg (by omega)] | rw [if_neg (fun e => S5_6 _ e hj)] | rw [if_neg (fun e => S5_6 _ hj e)]))⟩) | rfl | exact ⟨_, rfl⟩ | exact ⟨_, rfl, by first | assumption | exact G5.to (by first | rfl | (simp [*]; done)) (by omega) rfl | exact G6.to (by first | rfl | (simp [*]; done)) (by omega) rfl | exact G5.mono' rfl (by omega) (fun j hj hl => by simp only [wM, dropG]; repeat (first | rfl | rw [if_neg (by omega)] | rw [if_neg (fun e => S5_6 _ e hj)] | rw [if_neg (fun e => S5_6 _ hj e)])) | exact G6.mono' rfl (by omega) (fun j hj hl => by simp only [wM, dropG]; repeat (first | rfl | rw [if_neg (by omega)] | rw [if_neg (fun e => S5_6 _ e hj)] | rw [if_neg (fun e => S5_6 _ hj e)]))⟩))
     all_goals try omega
     all_goals try ((try simp -implicitDefEqProofs only [wL, seval, g0, g1, g7, g5, g6, g8, s5, s6]); focus (first | assumption | exact Sep.newL G5 (by omega) | exact Sep.newR G5 (by omega) | exact Sep.newL G6 (by omega) | exact Sep.newR G6 (by omega)))
     all_goals try simp -implicitDefEqProofs only [wL, wM, wN, wX, seval, g0, g1, g7, g5, g6, g8, s5, s6]
     all_goals (try exact Sep.ids (by omega))
   · rw [if_neg hc, show litV [((i + 1 : Nat) : Int)] = V.sl 1 true [V.int .i64 ((i + 1 : Nat) : Int)] from rfl] at s5
     by_cases c1 : ((i + 1 : Nat) : Int) = (n : Int)
     · obtain rfl : ring = false := by
        cases ring with
        | false => rfl
        | true => exact absurd ⟨by omega, rfl⟩ hc
       repeat' with_reducible first
        | refine s_ ?_
        | refine s_ ?_
        | refine s_ ?_
        | simp -implicitDefEqProofs only [wS, wT, wU, wV, wW, wX, wY, wC, wF, wG, wL, wM, wN, seval, Int.cast_ofNat_Int, Int.reduceLT, Int.reduceLE, Int.reduceEq, Int.reduceToNat, decide_true, decide_false, Bool.false_eq_true, g0, g1, g7, g5, g6, g8, hz, hz1, G5.len, G6.len]
        | (refine condQ_j (fun h h_ => ?_) (fun h h_ => ?_) <;> (try simp only [wD, reduceCtorEq] at h_) <;> (try (exfalso; first | omega | exact absurd (Eq.trans (Eq.symm h_) (by assumption) : false = true) (by decide) | exact absurd (Eq.trans (Eq.symm h_) (by assumption) : true = false) (by decide) | (refine absurd ?_ h_; focus assumption) | (refine absurd h_ ?_; focus assumption))) <;> (try simp only [h]))
        | ((first | refine gdQ_iT (fun h => ?_) (fun h => ?_) | refine gdQ_iF (fun h => ?_) (fun h => ?_)) <;> have h_ := h <;> (try simp only [wD, reduceCtorEq] at h_) <;> (try (exfalso; first | omega | exact absurd (Eq.trans (Eq.symm h_) (by assumption) : false = true) (by decide) | exact absurd (Eq.trans (Eq.symm h_) (by assumption) : true = false) (by decide) | (refine absurd ?_ h_; focus assumption) | (refine absurd h_ ?_; focus assumption))) <;> (try simp only [h]))
        | (apply appQ_G rfl (G5.mono (Nat.le_refl _) (fun id h1 h2 => by (try simp only [wM]); (repeat rw [if_neg (by omega)]))); (focus (first | exact SrcN.sl | exact SrcN.asl)); (focus (simp only [wZ] <;> omega)); (focus (unfold maxLen; simp only [wZ] <;> omega)))
        | (apply appQ_G rfl (G6.mono (Nat.le_refl _) (fun id h1 h2 => by (try simp only [wM, dropG]); (repeat first | rw [if_neg (by omega)] | rw [if_neg (hsep _ h1)]))); (focus exact SrcN.sl); (focus (simp only [wZ] <;> omega)); (focus (unfold maxLen; simp only [wZ] <;> omega)))
        | (apply ia_slQ; (focus omega); (exact wd_))
        | (apply Gr.iaQ G5; (focus omega); (exact wd_))
        | (apply Gr.iaQ G6; (focus omega); (exact wd_))
        | (apply ia_aslQ; (focus omega); (exact wd_))
        | (apply appQ_G (hg := G5); (focus (first | rfl | (simp -implicitDefEqProofs only [wM]; done))); (focus (first | exact SrcN.sl | exact SrcN.asl | exact SrcN.gr G5 | exact SrcN.gr G6 | exact SrcN.str)); (exact wf_); (focus (unfold maxLen; first | omega | (simp only [wZ] <;> omega))))
        | (apply appQ_G (hg := G6); (focus (first | rfl | (simp -implicitDefEqProofs only [wM]; done))); (focus (first | exact SrcN.sl | exact SrcN.asl | exact SrcN.gr G5 | exact SrcN.gr G6 | exact SrcN.str)); (exact wf_); (focus (unfold maxLen; first | omega | (simp only [wZ] <;> omega))))
        | (apply appQ_C; (focus (first | exact SrcN.sl | exact SrcN.asl | exact SrcN.gr G5 | exact SrcN.gr G6 | exact SrcN.str)); (exact wf_); (focus (unfold maxLen; first | omega | (simp only [wZ] <;> omega))))
        | (refine app_asl ?_; simp -implicitDefEqProofs only [wM, wN, seval, g0, g1, g7, g5, g6, g8, hz, hz1]; apply appT_i; (focus (first | exact SrcN.sl | exact SrcN.asl | exact SrcN.gr G5 | exact SrcN.gr G6 | exact SrcN.str)); (exact wf_); (focus (unfold maxLen; first | omega | (simp only [wZ] <;> omega))))
        | (apply fil_part; (exact wu_); (exact wu_); (exact wu_); (focus ((try simp -implicitDefEqProofs only [wY]); rfl)))
        | (apply strAdd; (focus (first | omega | (simp only [wZ] <;> omega))))
        | (apply ldQ_whole)
        | (apply ldQ_sub; (exact wu_); (exact wu_); (focus ((try simp -implicitDefEqProofs only [wE, Nat.reduceAdd]); rfl)))
        | (apply ldQ_obj; (exact wd_); (exact wu_))
        | (apply ldQ_cell; (exact wu_))
        | (apply ldQ_one; (exact wu_))
        | (apply ld_ipQ; (exact wu_))
        | (apply callQ0 (hp := yuccalaw3_wakes))
        | (apply callQ1 (hp := graph_Comps ?_ ?_); (focus (first | exact er_intsL | exact er_cl | exact er_sl | exact er_asl | exact G5.er rfl | exact G6.er rfl)); rotate_left; (exact wf_); (exact wf_))
        | (apply callQ2 (hp := graph_Close ?_ ?_ ?_ ?_); (focus (first | exact er_intsL | exact er_cl | exact er_sl | exact er_asl | exact G5.er rfl | exact G6.er rfl)); (focus (first | exact er_intsL | exact er_cl | exact er_sl | exact er_asl | exact G5.er rfl | exact G6.er rfl)); rotate_left; (exact wf_); (exact wf_); (exact wf_); (exact wf_))
        | simp -implicitDefEqProofs (disch := omega) only [w64, if_neg]
       refine ⟨wk_, i + 1, (by omega), ?_⟩
       refine ⟨?_, ?_, ?_, ?_, ?_, ?_, ?_, ?_⟩
       iterate 6 (focus (first | (simp -implicitDefEqProofs only [wL, wM, wN, wX, seval, Option.some.injEq, g0, g1, g7, g5, g6, g8, s5, s6] <;> first | rfl | exact ⟨_, rfl⟩ | exact ⟨_, rfl, by first | assumption | exact Gr.nil | exact Gr.tok rfl (by omega) | (refine Gr.tok ?_ ?_; (focus (simp only [wM, dropG]; (repeat (first | rw [if_pos trivial] | rw [if_pos rfl] | rw [if_neg (by omega)] | rw [if_neg (fun e => absurd (Gr.lt G5 e) (by omega))] | rw [if_neg (fun e => absurd (Gr.lt G6 e) (by omega))])); done)); (focus omega)) | exact Gr.tok (by simp -implicitDefEqProofs only [wM, seval] <;> rfl) (by omega) | exact Gr.clip | exact G5.to (by first | rfl | (simp [*]; done)) (by omega) rfl | exact G6.to (by first | rfl | (simp [*]; done)) (by omega) rfl | exact G5.mono' rfl (by omega) (fun j hj hl => by simp only [wM, dropG]; repeat (first | rfl | rw [if_neg (by omega)] | rw [if_neg (fun e => S5_6 _ e hj)] | rw [if_neg (fun e => S5_6 _ hj e)])) | exact G6.mono' rfl (by omega) (fun j hj hl => by simp only [wM, dropG]; repeat (first | rfl | rw [if_neg (by omega)] | rw [if_neg (fun e => S5_6 _ e hj)] | rw [if_neg (fun e => S5_6 _ hj e)]))⟩) | rfl | exact ⟨_, rfl⟩ | exact ⟨_, rfl, by first | assumption | exact G5.to (by first | rfl | (simp [*]; done)) (by omega) rfl | exact G6.to (by first | rfl | (simp [*]; done)) (by omega) rfl | exact G5.mono' rfl (by omega) (fun j hj hl => by simp only [wM, dropG]; repeat (first | rfl | rw [if_neg (by omega)] | rw [if_neg (fun e => S5_6 _ e hj)] | rw [if_neg (fun e => S5_6 _ hj e)])) | exact G6.mono' rfl (by omega) (fun j hj hl => by simp only [wM, dropG]; repeat (first | rfl | rw [if_neg (by omega)] | rw [if_neg (fun e => S5_6 _ e hj)] | rw [if_neg (fun e => S5_6 _ hj e)]))⟩))
       all_goals try omega
       all_goals try ((try simp -implicitDefEqProofs only [wL, seval, g0, g1, g7, g5, g6, g8, s5, s6]); focus (first | assumption | exact Sep.newL G5 (by omega) | exact Sep.newR G5 (by omega) | exact Sep.newL G6 (by omega) | exact Sep.newR G6 (by omega)))
       all_goals try simp -implicitDefEqProofs only [wL, wM, wN, wX, seval, g0, g1, g7, g5, g6, g8, s5, s6]
       all_goals (try exact Sep.ids (by omega))
     · repeat' with_reducible first
        | refine s_ ?_
        | refine s_ ?_
        | refine s_ ?_
        | simp -implicitDefEqProofs only [wS, wT, wU, wV, wW, wX, wY, wC, wF, wG, wL, wM, wN, seval, Int.cast_ofNat_Int, Int.reduceLT, Int.reduceLE, Int.reduceEq, Int.reduceToNat, decide_true, decide_false, Bool.false_eq_true, g0, g1, g7, g5, g6, g8, hz, hz1, G5.len, G6.len]
        | (refine condQ_j (fun h h_ => ?_) (fun h h_ => ?_) <;> (try simp only [wD, reduceCtorEq] at h_) <;> (try (exfalso; first | omega | exact absurd (Eq.trans (Eq.symm h_) (by assumption) : false = true) (by decide) | exact absurd (Eq.trans (Eq.symm h_) (by assumption) : true = false) (by decide) | (refine absurd ?_ h_; focus assumption) | (refine absurd h_ ?_; focus assumption))) <;> (try simp only [h]))
        | ((first | refine gdQ_iT (fun h => ?_) (fun h => ?_) | refine gdQ_iF (fun h => ?_) (fun h => ?_)) <;> have h_ := h <;> (try simp only [wD, reduceCtorEq] at h_) <;> (try (exfalso; first | omega | exact absurd (Eq.trans (Eq.symm h_) (by assumption) : false = true) (by decide) | exact absurd (Eq.trans (Eq.symm h_) (by assumption) : true = false) (by decide) | (refine absurd ?_ h_; focus assumption) | (refine absurd h_ ?_; focus assumption))) <;> (try simp only [h]))
        | (apply appQ_G rfl (G5.mono (Nat.le_refl _) (fun id h1 h2 => by (try simp only [wM]); (repeat rw [if_neg (by omega)]))); (focus (first | exact SrcN.sl | exact SrcN.asl)); (focus (simp only [wZ] <;> omega)); (focus (unfold maxLen; simp only [wZ] <;> omega)))
        | (apply appQ_G rfl (G6.mono (Nat.le_refl _) (fun id h1 h2 => by (try simp only [wM, dropG]); (repeat first | rw [if_neg (by omega)] | rw [if_neg (hsep _ h1)]))); (focus exact SrcN.sl); (focus (simp only [wZ] <;> omega)); (focus (unfold maxLen; simp only [wZ] <;> omega)))
        | (apply ia_slQ; (focus omega); (exact wd_))
        | (apply Gr.iaQ G5; (focus omega); (exact wd_))
        | (apply Gr.iaQ G6; (focus omega); (exact wd_))
        | (apply ia_aslQ; (focus omega); (exact wd_))
        | (apply appQ_G (hg := G5); (focus (first | rfl | (simp -implicitDefEqProofs only [wM]; done))); (focus (first | exact SrcN.sl | exact SrcN.asl | exact SrcN.gr G5 | exact SrcN.gr G6 | exact SrcN.str)); (exact wf_); (focus (unfold maxLen; first | omega | (simp only [wZ] <;> omega))))
        | (apply appQ_G (hg := G6); (focus (first | rfl | (simp -implicitDefEqProofs only [wM]; done))); (focus (first | exact SrcN.sl | exact SrcN.asl | exact SrcN.gr G5 | exact SrcN.gr G6 | exact SrcN.str)); (exact wf_); (focus (unfold maxLen; first | omega | (simp only [wZ] <;> omega))))
        | (apply appQ_C; (focus (first | exact SrcN.sl | exact SrcN.asl | exact SrcN.gr G5 | exact SrcN.gr G6 | exact SrcN.str)); (exact wf_); (focus (unfold maxLen; first | omega | (simp only [wZ] <;> omega))))
        | (refine app_asl ?_; simp -implicitDefEqProofs only [wM, wN, seval, g0, g1, g7, g5, g6, g8, hz, hz1]; apply appT_i; (focus (first | exact SrcN.sl | exact SrcN.asl | exact SrcN.gr G5 | exact SrcN.gr G6 | exact SrcN.str)); (exact wf_); (focus (unfold maxLen; first | omega | (simp only [wZ] <;> omega))))
        | (apply fil_part; (exact wu_); (exact wu_); (exact wu_); (focus ((try simp -implicitDefEqProofs only [wY]); rfl)))
        | (apply strAdd; (focus (first | omega | (simp only [wZ] <;> omega))))
        | (apply ldQ_whole)
        | (apply ldQ_sub; (exact wu_); (exact wu_); (focus ((try simp -implicitDefEqProofs only [wE, Nat.reduceAdd]); rfl)))
        | (apply ldQ_obj; (exact wd_); (exact wu_))
        | (apply ldQ_cell; (exact wu_))
        | (apply ldQ_one; (exact wu_))
        | (apply ld_ipQ; (exact wu_))
        | (apply callQ0 (hp := yuccalaw3_wakes))
        | (apply callQ1 (hp := graph_Comps ?_ ?_); (focus (first | exact er_intsL | exact er_cl | exact er_sl | exact er_asl | exact G5.er rfl | exact G6.er rfl)); rotate_left; (exact wf_); (exact wf_))
        | (apply callQ2 (hp := graph_Close ?_ ?_ ?_ ?_); (focus (first | exact er_intsL | exact er_cl | exact er_sl | exact er_asl | exact G5.er rfl | exact G6.er rfl)); (focus (first | exact er_intsL | exact er_cl | exact er_sl | exact er_asl | exact G5.er rfl | exact G6.er rfl)); rotate_left; (exact wf_); (exact wf_); (exact wf_); (exact wf_))
        | simp -implicitDefEqProofs (disch := omega) only [w64, if_neg]
       refine ⟨wk_, i + 1, (by omega), ?_⟩
       refine ⟨?_, ?_, ?_, ?_, ?_, ?_, ?_, ?_⟩
       iterate 6 (focus (first | (simp -implicitDefEqProofs only [wL, wM, wN, wX, seval, Option.some.injEq, g0, g1, g7, g5, g6, g8, s5, s6] <;> first | rfl | exact ⟨_, rfl⟩ | exact ⟨_, rfl, by first | assumption | exact Gr.nil | exact Gr.tok rfl (by omega) | (refine Gr.tok ?_ ?_; (focus (simp only [wM, dropG]; (repeat (first | rw [if_pos trivial] | rw [if_pos rfl] | rw [if_neg (by omega)] | rw [if_neg (fun e => absurd (Gr.lt G5 e) (by omega))] | rw [if_neg (fun e => absurd (Gr.lt G6 e) (by omega))])); done)); (focus omega)) | exact Gr.tok (by simp -implicitDefEqProofs only [wM, seval] <;> rfl) (by omega) | exact Gr.clip | exact G5.to (by first | rfl | (simp [*]; done)) (by omega) rfl | exact G6.to (by first | rfl | (simp [*]; done)) (by omega) rfl | exact G5.mono' rfl (by omega) (fun j hj hl => by simp only [wM, dropG]; repeat (first | rfl | rw [if_neg (by omega)] | rw [if_neg (fun e => S5_6 _ e hj)] | rw [if_neg (fun e => S5_6 _ hj e)])) | exact G6.mono' rfl (by omega) (fun j hj hl => by simp only [wM, dropG]; repeat (first | rfl | rw [if_neg (by omega)] | rw [if_neg (fun e => S5_6 _ e hj)] | rw [if_neg (fun e => S5_6 _ hj e)]))⟩) | rfl | exact ⟨_, rfl⟩ | exact ⟨_, rfl, by first | assumption | exact G5.to (by first | rfl | (simp [*]; done)) (by omega) rfl | exact G6.to (by first | rfl | (simp [*]; done)) (by omega) rfl | exact G5.mono' rfl (by omega) (fun j hj hl => by simp only [wM, dropG]; repeat (first | rfl | rw [if_neg (by omega)] | rw [if_neg (fun e => S5_6 _ e hj)] | rw [if_neg (fun e => S5_6 _ hj e)])) | exact G6.mono' rfl (by omega) (fun j hj hl => by simp only [wM, dropG]; repeat (first | rfl | rw [if_neg (by omega)] | rw [if_neg (fun e => S5_6 _ e hj)] | rw [if_neg (fun e => S5_6 _ hj e)]))⟩))
       all_goals try omega
       all_goals try ((try simp -implicitDefEqProofs only [wL, seval, g0, g1, g7, g5, g6, g8, s5, s6]); focus (first | assumption | exact Sep.newL G5 (by omega) | exact Sep.newR G5 (by omega) | exact Sep.newL G6 (by omega) | exact Sep.newR G6 (by omega)))
       all_goals try simp -implicitDefEqProofs only [wL, wM, wN, wX, seval, g0, g1, g7, g5, g6, g8, s5, s6]
       all_goals (try exact Sep.ids (by omega))
 · have e : i = n := by omega
   rw [e] at G5 G6
   have E5 := fun (b : Bool) (H : Nat → Option MObj) => Gr.erLit (b := b) (H' := H) G5
   have E6 := fun (b : Bool) (H : Nat → Option MObj) => Gr.erLit (b := b) (H' := H) G6
   repeat' with_reducible first
    | refine s_ ?_
    | refine s_ ?_
    | refine s_ ?_
    | simp -implicitDefEqProofs only [wS, wT, wU, wV, wW, wX, wY, wC, wF, wG, wL, wM, wN, seval, Int.cast_ofNat_Int, Int.reduceLT, Int.reduceLE, Int.reduceEq, Int.reduceToNat, decide_true, decide_false, Bool.false_eq_true, g0, g1, g7, g5, g6, g8, G5.len, G6.len]
    | (refine condQ_j (fun h h_ => ?_) (fun h h_ => ?_) <;> (try simp only [wD, reduceCtorEq] at h_) <;> (try (exfalso; first | omega | exact absurd (Eq.trans (Eq.symm h_) (by assumption) : false = true) (by decide) | exact absurd (Eq.trans (Eq.symm h_) (by assumption) : true = false) (by decide) | (refine absurd ?_ h_; focus assumption) | (refine absurd h_ ?_; focus assumption))) <;> (try simp only [h]))
    | ((first | refine gdQ_iT (fun h => ?_) (fun h => ?_) | refine gdQ_iF (fun h => ?_) (fun h => ?_)) <;> have h_ := h <;> (try simp only [wD, reduceCtorEq] at h_) <;> (try (exfalso; first | omega | exact absurd (Eq.trans (Eq.symm h_) (by assumption) : false = true) (by decide) | exact absurd (Eq.trans (Eq.symm h_) (by assumption) : true = false) (by decide) | (refine absurd ?_ h_; focus assumption) | (refine absurd h_ ?_; focus assumption))) <;> (try simp only [h]))
    | (apply ia_slQ; (focus omega); (exact wd_))
    | (apply Gr.iaQ G5; (focus omega); (exact wd_))
    | (apply Gr.iaQ G6; (focus omega); (exact wd_))
    | (apply ia_aslQ; (focus omega); (exact wd_))
    | (apply appQ_G (hg := G5); (focus (first | rfl | (simp -implicitDefEqProofs only [wM]; done))); (focus (first | exact SrcN.sl | exact SrcN.asl | exact SrcN.gr G5 | exact SrcN.gr G6 | exact SrcN.str)); (exact wf_); (focus (unfold maxLen; first | omega | (simp only [wZ] <;> omega))))
    | (apply appQ_G (hg := G6); (focus (first | rfl | (simp -implicitDefEqProofs only [wM]; done))); (focus (first | exact SrcN.sl | exact SrcN.asl | exact SrcN.gr G5 | exact SrcN.gr G6 | exact SrcN.str)); (exact wf_); (focus (unfold maxLen; first | omega | (simp only [wZ] <;> omega))))
    | (apply appQ_C; (focus (first | exact SrcN.sl | exact SrcN.asl | exact SrcN.gr G5 | exact SrcN.gr G6 | exact SrcN.str)); (exact wf_); (focus (unfold maxLen; first | omega | (simp only [wZ] <;> omega))))
    | (refine app_asl ?_; simp -implicitDefEqProofs only [wM, wN, seval, g0, g1, g7, g5, g6, g8]; apply appT_i; (focus (first | exact SrcN.sl | exact SrcN.asl | exact SrcN.gr G5 | exact SrcN.gr G6 | exact SrcN.str)); (exact wf_); (focus (unfold maxLen; first | omega | (simp only [wZ] <;> omega))))
    | (apply fil_part; (exact wu_); (exact wu_); (exact wu_); (focus ((try simp -implicitDefEqProofs only [wY]); rfl)))
    | (apply strAdd; (focus (first | omega | (simp only [wZ] <;> omega))))
    | (apply ldQ_whole)
    | (apply ldQ_sub; (exact wu_); (exact wu_); (focus ((try simp -implicitDefEqProofs only [wE, Nat.reduceAdd]); rfl)))
    | (apply ldQ_obj; (exact wd_); (exact wu_))
    | (apply ldQ_cell; (exact wu_))
    | (apply ldQ_one; (exact wu_))
    | (apply ld_ipQ; (exact wu_))
    | (apply callQ0 (hp := yuccalaw3_wakes))
    | (apply callQ1 (hp := graph_Comps ?_ ?_); (focus (first | exact er_intsL | exact er_cl | exact er_sl | exact er_asl | exact G5.er rfl | exact G6.er rfl)); rotate_left; (exact wf_); (exact wf_))
    | (apply callQ2 (hp := graph_Close ?_ ?_ ?_ ?_); (focus (first | exact er_intsL | exact er_cl | exact er_sl | exact er_asl | exact G5.er rfl | exact G6.er rfl)); (focus (first | exact er_intsL | exact er_cl | exact er_sl | exact er_asl | exact G5.er rfl | exact G6.er rfl)); rotate_left; (exact wf_); (exact wf_); (exact wf_); (exact wf_))
    | simp -implicitDefEqProofs (disch := omega) only [w64, if_neg]
   refine ewp_loopN ?nx2 (fun (q : Nat × List V) s => s.f 0 = ?v2_0 ∧ s.f 1 = ?v2_1 ∧ s.f 5 = ?v2_5 ∧ s.f 6 = ?v2_6 ∧ (∃ v, s.f 7 = v ∧ Gr s.H s.next 1 q.2 v) ∧ s.f 10 = vi q.1 ∧ (q.1 ≤ n) ∧ (ErPL q.2 ((chW n ring q.1).map intsV))) (fun q => n - q.1) ((0, [])) wj_ (by refine ⟨?_, ?_, ?_, ?_, ?_, ?_, (by first | omega | (simp; done) | assumption), (by exact .nil)⟩ <;> first | (simp -implicitDefEqProofs only [wL, wM, wN, wX, seval, Option.some.injEq, g0, g1, g7, g5, g6, g8] <;> first | rfl | exact ⟨_, rfl⟩ | exact ⟨_, rfl, by first | assumption | exact Gr.nil | exact Gr.tok rfl (by omega) | (refine Gr.tok ?_ ?_; (focus (simp only [wM, dropG]; (repeat (first | rw [if_pos trivial] | rw [if_pos rfl] | rw [if_neg (by omega)] | rw [if_neg (fun e => absurd (Gr.lt G5 e) (by omega))] | rw [if_neg (fun e => absurd (Gr.lt G6 e) (by omega))])); done)); (focus omega)) | exact Gr.tok (by simp -implicitDefEqProofs only [wM, seval] <;> rfl) (by omega) | exact Gr.clip | exact G5.to (by first | rfl | (simp [*]; done)) (by omega) rfl | exact G6.to (by first | rfl | (simp [*]; done)) (by omega) rfl | exact G5.mono' rfl (by omega) (fun j hj hl => by simp only [wM, dropG]; repeat (first | rfl | rw [if_neg (by omega)] | rw [if_neg (fun e => S5_6 _ e hj)] | rw [if_neg (fun e => S5_6 _ hj e)])) | exact G6.mono' rfl (by omega) (fun j hj hl => by simp only [wM, dropG]; repeat (first | rfl | rw [if_neg (by omega)] | rw [if_neg (fun e => S5_6 _ e hj)] | rw [if_neg (fun e => S5_6 _ hj e)]))⟩) | rfl | exact ⟨_, rfl⟩ | exact ⟨_, rfl, by first | assumption | exact G5.to (by first | rfl | (simp [*]; done)) (by omega) rfl | exact G6.to (by first | rfl | (simp [*]; done)) (by omega) rfl | exact G5.mono' rfl (by omega) (fun j hj hl => by simp only [wM, dropG]; repeat (first | rfl | rw [if_neg (by omega)] | rw [if_neg (fun e => S5_6 _ e hj)] | rw [if_neg (fun e => S5_6 _ hj e)])) | exact G6.mono' rfl (by omega) (fun j hj hl => by simp only [wM, dropG]; repeat (first | rfl | rw [if_neg (by omega)] | rw [if_neg (fun e => S5_6 _ e hj)] | rw [if_neg (fun e => S5_6 _ hj e)]))⟩) ?_
   intro q s hnx ⟨g0, g1, g5, g6, ⟨v7, g7, G7⟩, g10, k2_0, k2_1⟩
   obtain ⟨i, es⟩ := q
   dsimp only at *
   have hel : es.length = i := by have := k2_1.len; rw [List.length_map, chW_len] at this; omega
   have hz : IntKind.i64.wrap ((i + 1 : Nat) : Int) = ((i + 1 : Nat) : Int) := wrap64 (by omega) (by omega)
   by_cases hi : i < n
   · have hcs := chW_succ n ring i
     repeat' with_reducible first
      | refine s_ ?_
      | refine s_ ?_
      | refine s_ ?_
      | simp -implicitDefEqProofs only [wS, wT, wU, wV, wW, wX, wY, wC, wF, wG, wL, wM, wN, seval, Int.cast_ofNat_Int, Int.reduceLT, Int.reduceLE, Int.reduceEq, Int.reduceToNat, decide_true, decide_false, Bool.false_eq_true, g0, g1, g5, g6, g7, g10, G7.len]
      | (refine condQ_j (fun h h_ => ?_) (fun h h_ => ?_) <;> (try simp only [wD, reduceCtorEq] at h_) <;> (try (exfalso; first | omega | exact absurd (Eq.trans (Eq.symm h_) (by assumption) : false = true) (by decide) | exact absurd (Eq.trans (Eq.symm h_) (by assumption) : true = false) (by decide) | (refine absurd ?_ h_; focus assumption) | (refine absurd h_ ?_; focus assumption))) <;> (try simp only [h]))
      | ((first | refine gdQ_iT (fun h => ?_) (fun h => ?_) | refine gdQ_iF (fun h => ?_) (fun h => ?_)) <;> have h_ := h <;> (try simp only [wD, reduceCtorEq] at h_) <;> (try (exfalso; first | omega | exact absurd (Eq.trans (Eq.symm h_) (by assumption) : false = true) (by decide) | exact absurd (Eq.trans (Eq.symm h_) (by assumption) : true = false) (by decide) | (refine absurd ?_ h_; focus assumption) | (refine absurd h_ ?_; focus assumption))) <;> (try simp only [h]))
      | (apply ia_slQ; (focus omega); (exact wd_))
      | (apply Gr.iaQ G7; (focus omega); (exact wd_))
      | (apply ia_aslQ; (focus omega); (exact wd_))
      | (apply appQ_G (hg := G7); (focus (first | rfl | (simp -implicitDefEqProofs only [wM]; done))); (focus (first | exact SrcN.sl | exact SrcN.asl | exact SrcN.gr G7 | exact SrcN.str)); (exact wf_); (focus (unfold maxLen; first | omega | (simp only [wZ] <;> omega))))
      | (apply appQ_C; (focus (first | exact SrcN.sl | exact SrcN.asl | exact SrcN.gr G7 | exact SrcN.str)); (exact wf_); (focus (unfold maxLen; first | omega | (simp only [wZ] <;> omega))))
      | (refine app_asl ?_; simp -implicitDefEqProofs only [wM, wN, seval, g0, g1, g5, g6, g7, g10]; apply appT_i; (focus (first | exact SrcN.sl | exact SrcN.asl | exact SrcN.gr G7 | exact SrcN.str)); (exact wf_); (focus (unfold maxLen; first | omega | (simp only [wZ] <;> omega))))
      | (apply fil_part; (exact wu_); (exact wu_); (exact wu_); (focus ((try simp -implicitDefEqProofs only [wY]); rfl)))
      | (apply strAdd; (focus (first | omega | (simp only [wZ] <;> omega))))
      | (apply ldQ_whole)
      | (apply ldQ_sub; (exact wu_); (exact wu_); (focus ((try simp -implicitDefEqProofs only [wE, Nat.reduceAdd]); rfl)))
      | (apply ldQ_obj; (exact wd_); (exact wu_))
      | (apply ldQ_cell; (exact wu_))
      | (apply ldQ_one; (exact wu_))
      | (apply ld_ipQ; (exact wu_))
      | (apply callQ0 (hp := yuccalaw3_wakes))
      | (apply callQ1 (hp := graph_Comps ?_ ?_); (focus (first | exact er_intsL | exact er_cl | exact er_sl | exact er_asl | exact G7.er rfl)); rotate_left; (exact wf_); (exact wf_))
      | (apply callQ2 (hp := graph_Close ?_ ?_ ?_ ?_); (focus (first | exact er_intsL | exact er_cl | exact er_sl | exact er_asl | exact G7.er rfl)); (focus (first | exact er_intsL | exact er_cl | exact er_sl | exact er_asl | exact G7.er rfl)); rotate_left; (exact wf_); (exact wf_); (exact wf_); (exact wf_))
      | simp -implicitDefEqProofs (disch := omega) only [w64, if_neg]
     refine ewp_loopN ?nx3 (fun (k : Nat) s => s.f 0 = ?v3_0 ∧ s.f 1 = ?v3_1 ∧ s.f 5 = ?v3_5 ∧ s.f 6 = ?v3_6 ∧ s.f 10 = ?v3_10 ∧ (∃ v, s.f 7 = v ∧ Gr s.H s.next 1 es v) ∧ (∃ v, s.f 11 = v ∧ Gr s.H s.next 1 ((natI (chT ring i k)).map (V.int .i64)) v) ∧ s.f 12 = vi k ∧ (k ≤ n) ∧ (Sep (s.f 7) (s.f 11))) (fun k => n - k) (0) wj_ (by refine ⟨?_, ?_, ?_, ?_, ?_, ?_, ?_, ?_, (by first | omega | (simp; done) | assumption), (by (try simp -implicitDefEqProofs only [wL, wM, wN, seval, g0, g1, g5, g6, g7, g10]); first | exact Sep.slL | exact Sep.slR | exact Sep.ids (by omega))⟩ <;> first | (simp -implicitDefEqProofs only [wL, wM, wN, wX, seval, Option.some.injEq, g0, g1, g5, g6, g7, g10] <;> first | rfl | exact ⟨_, rfl⟩ | exact ⟨_, rfl, by first | assumption | exact Gr.nil | exact Gr.tok rfl (by omega) | exact Gr.tok (by simp -implicitDefEqProofs only [wM, seval] <;> rfl) (by omega) | exact Gr.clip | exact G7.to (by first | rfl | (simp [*]; done)) (by omega) rfl⟩) | rfl | exact ⟨_, rfl⟩ | exact ⟨_, rfl, by first | assumption | exact G7.to (by first | rfl | (simp [*]; done)) (by omega) rfl⟩) ?_
     intro k s hnx ⟨g0, g1, g5, g6, g10, ⟨v7, g7, G7⟩, ⟨v11, g11, G11⟩, g12, k3_0, S7_11⟩
     rw [g7, g11] at S7_11
     have hcl := chT_len ring i k
     have hnl : (natI (chT ring i k)).length ≤ k := by rw [natI, List.length_map]; exact hcl
     have hzk : IntKind.i64.wrap ((k + 1 : Nat) : Int) = ((k + 1 : Nat) : Int) := wrap64 (by omega) (by omega)
     by_cases hk : k < n
     · cases ring with
       | true =>
         have hst := chT_yes (ring := true) (i := i) (m := k) rfl
         repeat' with_reducible first
          | refine s_ ?_
          | refine s_ ?_
          | refine s_ ?_
          | simp -implicitDefEqProofs only [wS, wT, wU, wV, wW, wX, wY, wC, wF, wG, wL, wM, wN, seval, Int.cast_ofNat_Int, Int.reduceLT, Int.reduceLE, Int.reduceEq, Int.reduceToNat, decide_true, decide_false, Bool.false_eq_true, g0, g1, g5, g6, g10, g7, g11, g12, hzk, G7.len, G11.len]
          | (refine condQ_j (fun h h_ => ?_) (fun h h_ => ?_) <;> (try simp only [wD, reduceCtorEq] at h_) <;> (try (exfalso; first | omega | exact absurd (Eq.trans (Eq.symm h_) (by assumption) : false = true) (by decide) | exact absurd (Eq.trans (Eq.symm h_) (by assumption) : true = false) (by decide) | (refine absurd ?_ h_; focus assumption) | (refine absurd h_ ?_; focus assumption))) <;> (try simp only [h]))
          | ((first | refine gdQ_iT (fun h => ?_) (fun h => ?_) | refine gdQ_iF (fun h => ?_) (fun h => ?_)) <;> have h_ := h <;> (try simp only [wD, reduceCtorEq] at h_) <;> (try (exfalso; first | omega | exact absurd (Eq.trans (Eq.symm h_) (by assumption) : false = true) (by decide) | exact absurd (Eq.trans (Eq.symm h_) (by assumption) : true = false) (by decide) | (refine absurd ?_ h_; focus assumption) | (refine absurd h_ ?_; focus assumption))) <;> (try simp only [h]))
          | (apply appQ_G rfl (G11.mono (Nat.le_refl _) (fun id h1 h2 => by (try simp only [wM]); (repeat rw [if_neg (by omega)]))); (focus (first | exact SrcN.sl | exact SrcN.asl)); (focus (simp only [wZ] <;> omega)); (focus (unfold maxLen; simp only [wZ] <;> omega)))
          | (apply ia_slQ; (focus omega); (exact wd_))
          | (apply Gr.iaQ G7; (focus omega); (exact wd_))
          | (apply Gr.iaQ G11; (focus omega); (exact wd_))
          | (apply ia_aslQ; (focus omega); (exact wd_))
          | (apply appQ_G (hg := G7); (focus (first | rfl | (simp -implicitDefEqProofs only [wM]; done))); (focus (first | exact SrcN.sl | exact SrcN.asl | exact SrcN.gr G7 | exact SrcN.gr G11 | exact SrcN.str)); (exact wf_); (focus (unfold maxLen; first | omega | (simp only [wZ] <;> omega))))
          | (apply appQ_G (hg := G11); (focus (first | rfl | (simp -implicitDefEqProofs only [wM]; done))); (focus (first | exact SrcN.sl | exact SrcN.asl | exact SrcN.gr G7 | exact SrcN.gr G11 | exact SrcN.str)); (exact wf_); (focus (unfold maxLen; first | omega | (simp only [wZ] <;> omega))))
          | (apply appQ_C; (focus (first | exact SrcN.sl | exact SrcN.asl | exact SrcN.gr G7 | exact SrcN.gr G11 | exact SrcN.str)); (exact wf_); (focus (unfold maxLen; first | omega | (simp only [wZ] <;> omega))))
          | (refine app_asl ?_; simp -implicitDefEqProofs only [wM, wN, seval, g0, g1, g5, g6, g10, g7, g11, g12, hzk]; apply appT_i; (focus (first | exact SrcN.sl | exact SrcN.asl | exact SrcN.gr G7 | exact SrcN.gr G11 | exact SrcN.str)); (exact wf_); (focus (unfold maxLen; first | omega | (simp only [wZ] <;> omega))))
          | (apply fil_part; (exact wu_); (exact wu_); (exact wu_); (focus ((try simp -implicitDefEqProofs only [wY]); rfl)))
          | (apply strAdd; (focus (first | omega | (simp only [wZ] <;> omega))))
          | (apply ldQ_whole)
          | (apply ldQ_sub; (exact wu_); (exact wu_); (focus ((try simp -implicitDefEqProofs only [wE, Nat.reduceAdd]); rfl)))
          | (apply ldQ_obj; (exact wd_); (exact wu_))
          | (apply ldQ_cell; (exact wu_))
          | (apply ldQ_one; (exact wu_))
          | (apply ld_ipQ; (exact wu_))
          | (apply callQ0 (hp := yuccalaw3_wakes))
          | (apply callQ1 (hp := graph_Comps ?_ ?_); (focus (first | exact er_intsL | exact er_cl | exact er_sl | exact er_asl | exact G7.er rfl | exact G11.er rfl)); rotate_left; (exact wf_); (exact wf_))
          | (apply callQ2 (hp := graph_Close ?_ ?_ ?_ ?_); (focus (first | exact er_intsL | exact er_cl | exact er_sl | exact er_asl | exact G7.er rfl | exact G11.er rfl)); (focus (first | exact er_intsL | exact er_cl | exact er_sl | exact er_asl | exact G7.er rfl | exact G11.er rfl)); rotate_left; (exact wf_); (exact wf_); (exact wf_); (exact wf_))
          | simp -implicitDefEqProofs (disch := omega) only [w64, if_neg]
         refine ⟨wk_, k + 1, (by omega), ?_⟩
         refine ⟨?_, ?_, ?_, ?_, ?_, ?_, ?_, ?_, ?_, ?_⟩
         iterate 8 (focus (first | (simp -implicitDefEqProofs only [wL, wM, wN, wX, seval, Option.some.injEq, g0, g1, g5, g6, g10, g7, g11, g12, hst] <;> first | rfl | exact ⟨_, rfl⟩ | exact ⟨_, rfl, by first | assumption | exact Gr.nil | exact Gr.tok rfl (by omega) | (refine Gr.tok ?_ ?_; (focus (simp only [wM, dropG]; (repeat (first | rw [if_pos trivial] | rw [if_pos rfl] | rw [if_neg (by omega)] | rw [if_neg (fun e => absurd (Gr.lt G7 e) (by omega))] | rw [if_neg (fun e => absurd (Gr.lt G11 e) (by omega))])); done)); (focus omega)) | exact Gr.tok (by simp -implicitDefEqProofs only [wM, seval] <;> rfl) (by omega) | exact Gr.clip | exact G7.to (by first | rfl | (simp [*]; done)) (by omega) rfl | exact G11.to (by first | rfl | (simp [*]; done)) (by omega) rfl | exact G7.mono' rfl (by omega) (fun j hj hl => by simp only [wM, dropG]; repeat (first | rfl | rw [if_neg (by omega)] | rw [if_neg (fun e => S7_11 _ e hj)] | rw [if_neg (fun e => S7_11 _ hj e)])) | exact G11.mono' rfl (by omega) (fun j hj hl => by simp only [wM, dropG]; repeat (first | rfl | rw [if_neg (by omega)] | rw [if_neg (fun e => S7_11 _ e hj)] | rw [if_neg (fun e => S7_11 _ hj e)]))⟩) | rfl | exact ⟨_, rfl⟩ | exact ⟨_, rfl, by first | assumption | exact G7.to (by first | rfl | (simp [*]; done)) (by omega) rfl | exact G11.to (by first | rfl | (simp [*]; done)) (by omega) rfl | exact G7.mono' rfl (by omega) (fun j hj hl => by simp only [wM, dropG]; repeat (first | rfl | rw [if_neg (by omega)] | rw [if_neg (fun e => S7_11 _ e hj)] | rw [if_neg (fun e => S7_11 _ hj e)])) | exact G11.mono' rfl (by omega) (fun j hj hl => by simp only [wM, dropG]; repeat (first | rfl | rw [if_neg (by omega)] | rw [if_neg (fun e => S7_11 _ e hj)] | rw [if_neg (fun e => S7_11 _ hj e)]))⟩))
         all_goals try omega
         all_goals try ((try simp -implicitDefEqProofs only [wL, seval, g0, g1, g5, g6, g10, g7, g11, g12, hst]); focus (first | assumption | exact Sep.newL G7 (by omega) | exact Sep.newR G7 (by omega) | exact Sep.newL G11 (by omega) | exact Sep.newR G11 (by omega)))
         all_goals try simp -implicitDefEqProofs only [wL, wM, wN, wX, seval, g0, g1, g5, g6, g10, g7, g11, g12, hst]
       | false =>
         by_cases hik : i ≤ k
         · have hst := chT_yes (ring := false) (i := i) (m := k) (by simpa using hik)
           repeat' with_reducible first
            | refine s_ ?_
            | refine s_ ?_
            | refine s_ ?_
            | simp -implicitDefEqProofs only [wS, wT, wU, wV, wW, wX, wY, wC, wF, wG, wL, wM, wN, seval, Int.cast_ofNat_Int, Int.reduceLT, Int.reduceLE, Int.reduceEq, Int.reduceToNat, decide_true, decide_false, Bool.false_eq_true, g0, g1, g5, g6, g10, g7, g11, g12, hzk, G7.len, G11.len]
            | (refine condQ_j (fun h h_ => ?_) (fun h h_ => ?_) <;> (try simp only [wD, reduceCtorEq] at h_) <;> (try (exfalso; first | omega | exact absurd (Eq.trans (Eq.symm h_) (by assumption) : false = true) (by decide) | exact absurd (Eq.trans (Eq.symm h_) (by assumption) : true = false) (by decide) | (refine absurd ?_ h_; focus assumption) | (refine absurd h_ ?_; focus assumption))) <;> (try simp only [h]))
            | ((first | refine gdQ_iT (fun h => ?_) (fun h => ?_) | refine gdQ_iF (fun h => ?_) (fun h => ?_)) <;> have h_ := h <;> (try simp only [wD, reduceCtorEq] at h_) <;> (try (exfalso; first | omega | exact absurd (Eq.trans (Eq.symm h_) (by assumption) : false = true) (by decide) | exact absurd (Eq.trans (Eq.symm h_) (by assumption) : true = false) (by decide) | (refine absurd ?_ h_; focus assumption) | (refine absurd h_ ?_; focus assumption))) <;> (try simp only [h]))
            | (apply appQ_G rfl (G11.mono (Nat.le_refl _) (fun id h1 h2 => by (try simp only [wM]); (repeat rw [if_neg (by omega)]))); (focus (first | exact SrcN.sl | exact SrcN.asl)); (focus (simp only [wZ] <;> omega)); (focus (unfold maxLen; simp only [wZ] <;> omega)))
            | (apply ia_slQ; (focus omega); (exact wd_))
            | (apply Gr.iaQ G7; (focus omega); (exact wd_))
            | (apply Gr.iaQ G11; (focus omega); (exact wd_))
            | (apply ia_aslQ; (focus omega); (exact wd_))
            | (apply appQ_G (hg := G7); (focus (first | rfl | (simp -implicitDefEqProofs only [wM]; done))); (focus (first | exact SrcN.sl | exact SrcN.asl | exact SrcN.gr G7 | exact SrcN.gr G11 | exact SrcN.str)); (exact wf_); (focus (unfold maxLen; first | omega | (simp only [wZ] <;> omega))))
            | (apply appQ_G (hg := G11); (focus (first | rfl | (simp -implicitDefEqProofs only [wM]; done))); (focus (first | exact SrcN.sl | exact SrcN.asl | exact SrcN.gr G7 | exact SrcN.gr G11 | exact SrcN.str)); (exact wf_); (focus (unfold maxLen; first | omega | (simp only [wZ] <;> omega))))
            | (apply appQ_C; (focus (first | exact SrcN.sl | exact SrcN.asl | exact SrcN.gr G7 | exact SrcN.gr G11 | exact SrcN.str)); (exact wf_); (focus (unfold maxLen; first | omega | (simp only [wZ] <;> omega))))
            | (refine app_asl ?_; simp -implicitDefEqProofs only [wM, wN, seval, g0, g1, g5, g6, g10, g7, g11, g12, hzk]; apply appT_i; (focus (first | exact SrcN.sl | exact SrcN.asl | exact SrcN.gr G7 | exact SrcN.gr G11 | exact SrcN.str)); (exact wf_); (focus (unfold maxLen; first | omega | (simp only [wZ] <;> omega))))
            | (apply fil_part; (exact wu_); (exact wu_); (exact wu_); (focus ((try simp -implicitDefEqProofs only [wY]); rfl)))
            | (apply strAdd; (focus (first | omega | (simp only [wZ] <;> omega))))
            | (apply ldQ_whole)
            | (apply ldQ_sub; (exact wu_); (exact wu_); (focus ((try simp -implicitDefEqProofs only [wE, Nat.reduceAdd]); rfl)))
            | (apply ldQ_obj; (exact wd_); (exact wu_))
            | (apply ldQ_cell; (exact wu_))
            | (apply ldQ_one; (exact wu_))
            | (apply ld_ipQ; (exact wu_))
            | (apply callQ0 (hp := yuccalaw3_wakes))
            | (apply callQ1 (hp := graph_Comps ?_ ?_); (focus (first | exact er_intsL | exact er_cl | exact er_sl | exact er_asl | exact G7.er rfl | exact G11.er rfl)); rotate_left; (exact wf_); (exact wf_))
            | (apply callQ2 (hp := graph_Close ?_ ?_ ?_ ?_); (focus (first | exact er_intsL | exact er_cl | exact er_sl | exact er_asl | exact G7.er rfl | exact G11.er rfl)); (focus (first | exact er_intsL | exact er_cl | exact er_sl | exact er_asl | exact G7.er rfl | exact G11.er rfl)); rotate_left; (exact wf_); (exact wf_); (exact wf_); (exact wf_))
            | simp -implicitDefEqProofs (disch := omega) only [w64, if_neg]
           refine ⟨wk_, k + 1, (by omega), ?_⟩
           refine ⟨?_, ?_, ?_, ?_, ?_, ?_, ?_, ?_, ?_, ?_⟩
           iterate 8 (focus (first | (simp -implicitDefEqProofs only [wL, wM, wN, wX, seval, Option.some.injEq, g0, g1, g5, g6, g10, g7, g11, g12, hst] <;> first | rfl | exact ⟨_, rfl⟩ | exact ⟨_, rfl, by first | assumption | exact Gr.nil | exact Gr.tok rfl (by omega) | (refine Gr.tok ?_ ?_; (focus (simp only [wM, dropG]; (repeat (first | rw [if_pos trivial] | rw [if_pos rfl] | rw [if_neg (by omega)] | rw [if_neg (fun e => absurd (Gr.lt G7 e) (by omega))] | rw [if_neg (fun e => absurd (Gr.lt G11 e) (by omega))])); done)); (focus omega)) | exact Gr.tok (by simp -implicitDefEqProofs only [wM, seval] <;> rfl) (by omega) | exact Gr.clip | exact G7.to (by first | rfl | (simp [*]; done)) (by omega) rfl | exact G11.to (by first | rfl | (simp [*]; done)) (by omega) rfl | exact G7.mono' rfl (by omega) (fun j hj hl => by simp only [wM, dropG]; repeat (first | rfl | rw [if_neg (by omega)] | rw [if_neg (fun e => S7_11 _ e hj)] | rw [if_neg (fun e => S7_11 _ hj e)])) | exact G11.mono' rfl (by omega) (fun j hj hl => by simp only [wM, dropG]; repeat (first | rfl | rw [if_neg (by omega)] | rw [if_neg (fun e => S7_11 _ e hj)] | rw [if_neg (fun e => S7_11 _ hj e)]))⟩) | rfl | exact ⟨_, rfl⟩ | exact ⟨_, rfl, by first | assumption | exact G7.to (by first | rfl | (simp [*]; done)) (by omega) rfl | exact G11.to (by first | rfl | (simp [*]; done)) (by omega) rfl | exact G7.mono' rfl (by omega) (fun j hj hl => by simp only [wM, dropG]; repeat (first | rfl | rw [if_neg (by omega)] | rw [if_neg (fun e => S7_11 _ e hj)] | rw [if_neg (fun e => S7_11 _ hj e)])) | exact G11.mono' rfl (by omega) (fun j hj hl => by simp only [wM, dropG]; repeat (first | rfl | rw [if_neg (by omega)] | rw [if_neg (fun e => S7_11 _ e hj)] | rw [if_neg (fun e => S7_11 _ hj e)]))⟩))
           all_goals try omega
           all_goals try ((try simp -implicitDefEqProofs only [wL, seval, g0, g1, g5, g6, g10, g7, g11, g12, hst]); focus (first | assumption | exact Sep.newL G7 (by omega) | exact Sep.newR G7 (by omega) | exact Sep.newL G11 (by omega) | exact Sep.newR G11 (by omega)))
           all_goals try simp -implicitDefEqProofs only [wL, wM, wN, wX, seval, g0, g1, g5, g6, g10, g7, g11, g12, hst]
         · have hst := chT_no (ring := false) (i := i) (m := k) (by simpa using hik)
           repeat' with_reducible first
            | refine s_ ?_
            | refine s_ ?_
            | refine s_ ?_
            | simp -implicitDefEqProofs only [wS, wT, wU, wV, wW, wX, wY, wC, wF, wG, wL, wM, wN, seval, Int.cast_ofNat_Int, Int.reduceLT, Int.reduceLE, Int.reduceEq, Int.reduceToNat, decide_true, decide_false, Bool.false_eq_true, g0, g1, g5, g6, g10, g7, g11, g12, hzk, G7.len, G11.len]
            | (refine condQ_j (fun h h_ => ?_) (fun h h_ => ?_) <;> (try simp only [wD, reduceCtorEq] at h_) <;> (try (exfalso; first | omega | exact absurd (Eq.trans (Eq.symm h_) (by assumption) : false = true) (by decide) | exact absurd (Eq.trans (Eq.symm h_) (by assumption) : true = false) (by decide) | (refine absurd ?_ h_; focus assumption) | (refine absurd h_ ?_; focus assumption))) <;> (try simp only [h]))
            | ((first | refine gdQ_iT (fun h => ?_) (fun h => ?_) | refine gdQ_iF (fun h => ?_) (fun h => ?_)) <;> have h_ := h <;> (try simp only [wD, reduceCtorEq] at h_) <;> (try (exfalso; first | omega | exact absurd (Eq.trans (Eq.symm h_) (by assumption) : false = true) (by decide) | exact absurd (Eq.trans (Eq.symm h_) (by assumption) : true = false) (by decide) | (refine absurd ?_ h_; focus assumption) | (refine absurd h_ ?_; focus assumption))) <;> (try simp only [h]))
            | (apply ia_slQ; (focus omega); (exact wd_))
            | (apply Gr.iaQ G7; (focus omega); (exact wd_))
            | (apply Gr.iaQ G11; (focus omega); (exact wd_))
            | (apply ia_aslQ; (focus omega); (exact wd_))
            | (apply appQ_G (hg := G7); (focus (first | rfl | (simp -implicitDefEqProofs only [wM]; done))); (focus (first | exact SrcN.sl | exact SrcN.asl | exact SrcN.gr G7 | exact SrcN.gr G11 | exact SrcN.str)); (exact wf_); (focus (unfold maxLen; first | omega | (simp only [wZ] <;> omega))))
            | (apply appQ_G (hg := G11); (focus (first | rfl | (simp -implicitDefEqProofs only [wM]; done))); (focus (first | exact SrcN.sl | exact SrcN.asl | exact SrcN.gr G7 | exact SrcN.gr G11 | exact SrcN.str)); (exact wf_); (focus (unfold maxLen; first | omega | (simp only [wZ] <;> omega))))
            | (apply appQ_C; (focus (first | exact SrcN.sl | exact SrcN.asl | exact SrcN.gr G7 | exact SrcN.gr G11 | exact SrcN.str)); (exact wf_); (focus (unfold maxLen; first | omega | (simp only [wZ] <;> omega))))
            | (refine app_asl ?_; simp -implicitDefEqProofs only [wM, wN, seval, g0, g1, g5, g6, g10, g7, g11, g12, hzk]; apply appT_i; (focus (first | exact SrcN.sl | exact SrcN.asl | exact SrcN.gr G7 | exact SrcN.gr G11 | exact SrcN.str)); (exact wf_); (focus (unfold maxLen; first | omega | (simp only [wZ] <;> omega))))
            | (apply fil_part; (exact wu_); (exact wu_); (exact wu_); (focus ((try simp -implicitDefEqProofs only [wY]); rfl)))
            | (apply strAdd; (focus (first | omega | (simp only [wZ] <;> omega))))
            | (apply ldQ_whole)
            | (apply ldQ_sub; (exact wu_); (exact wu_); (focus ((try simp -implicitDefEqProofs only [wE, Nat.reduceAdd]); rfl)))
            | (apply ldQ_obj; (exact wd_); (exact wu_))
            | (apply ldQ_cell; (exact wu_))
            | (apply ldQ_one; (exact wu_))
            | (apply ld_ipQ; (exact wu_))
            | (apply callQ0 (hp := yuccalaw3_wakes))
            | (apply callQ1 (hp := graph_Comps ?_ ?_); (focus (first | exact er_intsL | exact er_cl | exact er_sl | exact er_asl | exact G7.er rfl | exact G11.er rfl)); rotate_left; (exact wf_); (exact wf_))
            | (apply callQ2 (hp := graph_Close ?_ ?_ ?_ ?_); (focus (first | exact er_intsL | exact er_cl | exact er_sl | exact er_asl | exact G7.er rfl | exact G11.er rfl)); (focus (first | exact er_intsL | exact er_cl | exact er_sl | exact er_asl | exact G7.er rfl | exact G11.er rfl)); rotate_left; (exact wf_); (exact wf_); (exact wf_); (exact wf_))
            | simp -implicitDefEqProofs (disch := omega) only [w64, if_neg]
           refine ⟨wk_, k + 1, (by omega), ?_⟩
           refine ⟨?_, ?_, ?_, ?_, ?_, ?_, ?_, ?_, ?_, ?_⟩
           iterate 8 (focus (first | (simp -implicitDefEqProofs only [wL, wM, wN, wX, seval, Option.some.injEq, g0, g1, g5, g6, g10, g7, g11, g12, hst] <;> first | rfl | exact ⟨_, rfl⟩ | exact ⟨_, rfl, by first | assumption | exact Gr.nil | exact Gr.tok rfl (by omega) | (refine Gr.tok ?_ ?_; (focus (simp only [wM, dropG]; (repeat (first | rw [if_pos trivial] | rw [if_pos rfl] | rw [if_neg (by omega)] | rw [if_neg (fun e => absurd (Gr.lt G7 e) (by omega))] | rw [if_neg (fun e => absurd (Gr.lt G11 e) (by omega))])); done)); (focus omega)) | exact Gr.tok (by simp -implicitDefEqProofs only [wM, seval] <;> rfl) (by omega) | exact Gr.clip | exact G7.to (by first | rfl | (simp [*]; done)) (by omega) rfl | exact G11.to (by first | rfl | (simp [*]; done)) (by omega) rfl | exact G7.mono' rfl (by omega) (fun j hj hl => by simp only [wM, dropG]; repeat (first | rfl | rw [if_neg (by omega)] | rw [if_neg (fun e => S7_11 _ e hj)] | rw [if_neg (fun e => S7_11 _ hj e)])) | exact G11.mono' rfl (by omega) (fun j hj hl => by simp only [wM, dropG]; repeat (first | rfl | rw [if_neg (by omega)] | rw [if_neg (fun e => S7_11 _ e hj)] | rw [if_neg (fun e => S7_11 _ hj e)]))⟩) | rfl | exact ⟨_, rfl⟩ | exact ⟨_, rfl, by first | assumption | exact G7.to (by first | rfl | (simp [*]; done)) (by omega) rfl | exact G11.to (by first | rfl | (simp [*]; done)) (by omega) rfl | exact G7.mono' rfl (by omega) (fun j hj hl => by simp only [wM, dropG]; repeat (first | rfl | rw [if_neg (by omega)] | rw [if_neg (fun e => S7_11 _ e hj)] | rw [if_neg (fun e => S7_11 _ hj e)])) | exact G11.mono' rfl (by omega) (fun j hj hl => by simp only [wM, dropG]; repeat (first | rfl | rw [if_neg (by omega)] | rw [if_neg (fun e => S7_11 _ e hj)] | rw [if_neg (fun e => S7_11 _ hj e)]))⟩))
           all_goals try omega
           all_goals try ((try simp -implicitDefEqProofs only [wL, seval, g0, g1, g5, g6, g10, g7, g11, g12, hst]); focus (first | assumption | exact Sep.newL G7 (by omega) | exact Sep.newR G7 (by omega) | exact Sep.newL G11 (by omega) | exact Sep.newR G11 (by omega)))
           all_goals try simp -implicitDefEqProofs only [wL, wM, wN, wX, seval, g0, g1, g5, g6, g10, g7, g11, g12, hst]
     · have ek : k = n := by omega
       rw [ek] at G11
       repeat' with_reducible first
        | refine s_ ?_
        | refine s_ ?_
        | refine s_ ?_
        | simp -implicitDefEqProofs only [wS, wT, wU, wV, wW, wX, wY, wC, wF, wG, wL, wM, wN, seval, Int.cast_ofNat_Int, Int.reduceLT, Int.reduceLE, Int.reduceEq, Int.reduceToNat, decide_true, decide_false, Bool.false_eq_true, g0, g1, g5, g6, g10, g7, g11, g12, hz, G7.len, G11.len]
        | (refine condQ_j (fun h h_ => ?_) (fun h h_ => ?_) <;> (try simp only [wD, reduceCtorEq] at h_) <;> (try (exfalso; first | omega | exact absurd (Eq.trans (Eq.symm h_) (by assumption) : false = true) (by decide) | exact absurd (Eq.trans (Eq.symm h_) (by assumption) : true = false) (by decide) | (refine absurd ?_ h_; focus assumption) | (refine absurd h_ ?_; focus assumption))) <;> (try simp only [h]))
        | ((first | refine gdQ_iT (fun h => ?_) (fun h => ?_) | refine gdQ_iF (fun h => ?_) (fun h => ?_)) <;> have h_ := h <;> (try simp only [wD, reduceCtorEq] at h_) <;> (try (exfalso; first | omega | exact absurd (Eq.trans (Eq.symm h_) (by assumption) : false = true) (by decide) | exact absurd (Eq.trans (Eq.symm h_) (by assumption) : true = false) (by decide) | (refine absurd ?_ h_; focus assumption) | (refine absurd h_ ?_; focus assumption))) <;> (try simp only [h]))
        | (refine fil_part (Gr.fl1 G11) (Gr.fl2 G11) (Gr.fl3 G11) rfl ?_)
        | (apply appQ_G rfl (G7.mono (Nat.le_refl _) (fun id h1 h2 => by (try simp only [wM]); (repeat rw [if_neg (by omega)]))); (focus (first | exact SrcN.sl | exact SrcN.asl)); (focus (simp only [wZ] <;> omega)); (focus (unfold maxLen; simp only [wZ] <;> omega)))
        | (apply ia_slQ; (focus omega); (exact wd_))
        | (apply Gr.iaQ G7; (focus omega); (exact wd_))
        | (apply Gr.iaQ G11; (focus omega); (exact wd_))
        | (apply ia_aslQ; (focus omega); (exact wd_))
        | (apply appQ_G (hg := G7); (focus (first | rfl | (simp -implicitDefEqProofs only [wM]; done))); (focus (first | exact SrcN.sl | exact SrcN.asl | exact SrcN.gr G7 | exact SrcN.gr G11 | exact SrcN.str)); (exact wf_); (focus (unfold maxLen; first | omega | (simp only [wZ] <;> omega))))
        | (apply appQ_G (hg := G11); (focus (first | rfl | (simp -implicitDefEqProofs only [wM]; done))); (focus (first | exact SrcN.sl | exact SrcN.asl | exact SrcN.gr G7 | exact SrcN.gr G11 | exact SrcN.str)); (exact wf_); (focus (unfold maxLen; first | omega | (simp only [wZ] <;> omega))))
        | (apply appQ_C; (focus (first | exact SrcN.sl | exact SrcN.asl | exact SrcN.gr G7 | exact SrcN.gr G11 | exact SrcN.str)); (exact wf_); (focus (unfold maxLen; first | omega | (simp only [wZ] <;> omega))))
        | (refine app_asl ?_; simp -implicitDefEqProofs only [wM, wN, seval, g0, g1, g5, g6, g10, g7, g11, g12, hz]; apply appT_i; (focus (first | exact SrcN.sl | exact SrcN.asl | exact SrcN.gr G7 | exact SrcN.gr G11 | exact SrcN.str)); (exact wf_); (focus (unfold maxLen; first | omega | (simp only [wZ] <;> omega))))
        | (apply fil_part; (exact wu_); (exact wu_); (exact wu_); (focus ((try simp -implicitDefEqProofs only [wY]); rfl)))
        | (apply strAdd; (focus (first | omega | (simp only [wZ] <;> omega))))
        | (apply ldQ_whole)
        | (apply ldQ_sub; (exact wu_); (exact wu_); (focus ((try simp -implicitDefEqProofs only [wE, Nat.reduceAdd]); rfl)))
        | (apply ldQ_obj; (exact wd_); (exact wu_))
        | (apply ldQ_cell; (exact wu_))
        | (apply ldQ_one; (exact wu_))
        | (apply ld_ipQ; (exact wu_))
        | (apply callQ0 (hp := yuccalaw3_wakes))
        | (apply callQ1 (hp := graph_Comps ?_ ?_); (focus (first | exact er_intsL | exact er_cl | exact er_sl | exact er_asl | exact G7.er rfl | exact G11.er rfl)); rotate_left; (exact wf_); (exact wf_))
        | (apply callQ2 (hp := graph_Close ?_ ?_ ?_ ?_); (focus (first | exact er_intsL | exact er_cl | exact er_sl | exact er_asl | exact G7.er rfl | exact G11.er rfl)); (focus (first | exact er_intsL | exact er_cl | exact er_sl | exact er_asl | exact G7.er rfl | exact G11.er rfl)); rotate_left; (exact wf_); (exact wf_); (exact wf_); (exact wf_))
        | simp -implicitDefEqProofs (disch := omega) only [w64, if_neg]
       refine ⟨wk_, (i + 1, es ++ [v11]), (by omega), ?_⟩
       refine ⟨?_, ?_, ?_, ?_, ?_, ?_, ?_, ?_⟩
       iterate 6 (focus (first | (simp -implicitDefEqProofs only [wL, wM, wN, wX, seval, Option.some.injEq, g0, g1, g5, g6, g10, g7, g11, g12] <;> first | rfl | exact ⟨_, rfl⟩ | exact ⟨_, rfl, by first | assumption | exact Gr.nil | exact Gr.tok rfl (by omega) | (refine Gr.tok ?_ ?_; (focus (simp only [wM, dropG]; (repeat (first | rw [if_pos trivial] | rw [if_pos rfl] | rw [if_neg (by omega)] | rw [if_neg (fun e => absurd (Gr.lt G7 e) (by omega))] | rw [if_neg (fun e => absurd (Gr.lt G11 e) (by omega))])); done)); (focus omega)) | exact Gr.tok (by simp -implicitDefEqProofs only [wM, seval] <;> rfl) (by omega) | exact Gr.clip | exact G7.to (by first | rfl | (simp [*]; done)) (by omega) rfl | exact G11.to (by first | rfl | (simp [*]; done)) (by omega) rfl | exact G7.mono' rfl (by omega) (fun j hj hl => by simp only [wM, dropG]; repeat (first | rfl | rw [if_neg (by omega)] | rw [if_neg (fun e => S7_11 _ e hj)] | rw [if_neg (fun e => S7_11 _ hj e)])) | exact G11.mono' rfl (by omega) (fun j hj hl => by simp only [wM, dropG]; repeat (first | rfl | rw [if_neg (by omega)] | rw [if_neg (fun e => S7_11 _ e hj)] | rw [if_neg (fun e => S7_11 _ hj e)]))⟩) | rfl | exact ⟨_, rfl⟩ | exact ⟨_, rfl, by first | assumption | exact G7.to (by first | rfl | (simp [*]; done)) (by omega) rfl | exact G11.to (by first | rfl | (simp [*]; done)) (by omega) rfl | exact G7.mono' rfl (by omega) (fun j hj hl => by simp only [wM, dropG]; repeat (first | rfl | rw [if_neg (by omega)] | rw [if_neg (fun e => S7_11 _ e hj)] | rw [if_neg (fun e => S7_11 _ hj e)])) | exact G11.mono' rfl (by omega) (fun j hj hl => by simp only [wM, dropG]; repeat (first | rfl | rw [if_neg (by omega)] | rw [if_neg (fun e => S7_11 _ e hj)] | rw [if_neg (fun e => S7_11 _ hj e)]))⟩))
       all_goals try omega
       all_goals (try (rw [hcs, List.map_append]; exact k2_1.snoc (G11.er rfl)))
   · skip
     have ei : i = n := by omega
     rw [ei] at k2_1
     have E7 := fun (b : Bool) (H : Nat → Option MObj) => Go.E.Gr.erL (b := b) (H := H) G7 k2_1.up
     have lR := chR_len n ring n
     have lS := chS_len n
     have lW := chW_len n ring n
     have hcm := graph_Comps (rl := chR n ring n) (by omega) ch_each
     have hcl := graph_Close (rl := chR n ring n) (sets := chS n) (by omega) ch_each (by omega) chS_each
     rw [if_neg (by omega), lR] at hcm hcl
     rw [ch_clo ring (by omega)] at hcl
     have hq := yuccaref0_EqLists (a := chW n ring n) (b := chW n ring n) (by omega) (by omega) (chW_each (by omega)) (chW_each (by omega))
     rw [decide_eq_true rfl] at hq
     cases ring with
     | true =>
       rw [ch_ring hn3] at hcm
       have hl0 : (natI (List.range n)).length = n := by simp [natI]
       have hia : iaddrV 1 (V.sl 1 false [intsV (natI (List.range n))]) (V.int .i64 0) = some (.iptr 1 (intsV (natI (List.range n))) 0) := rfl
       repeat' with_reducible first
        | refine s_ ?_
        | refine s_ ?_
        | refine s_ ?_
        | simp -implicitDefEqProofs only [wS, wT, wU, wV, wW, wX, wY, wC, wF, wG, wL, wM, wN, seval, Int.cast_ofNat_Int, Int.reduceLT, Int.reduceLE, Int.reduceEq, Int.reduceToNat, decide_true, decide_false, Bool.false_eq_true, g0, g1, g5, g6, g7, g10, hl0, G7.len]
        | (refine condQ_j (fun h h_ => ?_) (fun h h_ => ?_) <;> (try simp only [wD, reduceCtorEq] at h_) <;> (try (exfalso; first | omega | exact absurd (Eq.trans (Eq.symm h_) (by assumption) : false = true) (by decide) | exact absurd (Eq.trans (Eq.symm h_) (by assumption) : true = false) (by decide) | (refine absurd ?_ h_; focus assumption) | (refine absurd h_ ?_; focus assumption))) <;> (try simp only [h]))
        | ((first | refine gdQ_iT (fun h => ?_) (fun h => ?_) | refine gdQ_iF (fun h => ?_) (fun h => ?_)) <;> have h_ := h <;> (try simp only [wD, reduceCtorEq] at h_) <;> (try (exfalso; first | omega | exact absurd (Eq.trans (Eq.symm h_) (by assumption) : false = true) (by decide) | exact absurd (Eq.trans (Eq.symm h_) (by assumption) : true = false) (by decide) | (refine absurd ?_ h_; focus assumption) | (refine absurd h_ ?_; focus assumption))) <;> (try simp only [h]))
        | (apply callQ1 (hp := hcm); (focus exact E5 _ _))
        | (apply callQ2 (hp := hcl); (focus exact E5 _ _); (focus exact E6 _ _))
        | (apply callQ2 (hp := hq); (focus exact er_cl); (focus exact E7 _ _))
        | (refine onS_i hia ?_)
        | (apply ia_slQ; (focus omega); (exact wd_))
        | (apply Gr.iaQ G7; (focus omega); (exact wd_))
        | (apply ia_aslQ; (focus omega); (exact wd_))
        | (apply appQ_G (hg := G7); (focus (first | rfl | (simp -implicitDefEqProofs only [wM]; done))); (focus (first | exact SrcN.sl | exact SrcN.asl | exact SrcN.gr G7 | exact SrcN.str)); (exact wf_); (focus (unfold maxLen; first | omega | (simp only [wZ] <;> omega))))
        | (apply appQ_C; (focus (first | exact SrcN.sl | exact SrcN.asl | exact SrcN.gr G7 | exact SrcN.str)); (exact wf_); (focus (unfold maxLen; first | omega | (simp only [wZ] <;> omega))))
        | (refine app_asl ?_; simp -implicitDefEqProofs only [wM, wN, seval, g0, g1, g5, g6, g7, g10, hl0]; apply appT_i; (focus (first | exact SrcN.sl | exact SrcN.asl | exact SrcN.gr G7 | exact SrcN.str)); (exact wf_); (focus (unfold maxLen; first | omega | (simp only [wZ] <;> omega))))
        | (apply fil_part; (exact wu_); (exact wu_); (exact wu_); (focus ((try simp -implicitDefEqProofs only [wY]); rfl)))
        | (apply strAdd; (focus (first | omega | (simp only [wZ] <;> omega))))
        | (apply ldQ_whole)
        | (apply ldQ_sub; (exact wu_); (exact wu_); (focus ((try simp -implicitDefEqProofs only [wE, Nat.reduceAdd]); rfl)))
        | (apply ldQ_obj; (exact wd_); (exact wu_))
        | (apply ldQ_cell; (exact wu_))
        | (apply ldQ_one; (exact wu_))
        | (apply ld_ipQ; (exact wu_))
        | (apply callQ0 (hp := yuccalaw3_wakes))
        | (apply callQ1 (hp := graph_Comps ?_ ?_); (focus (first | exact er_intsL | exact er_cl | exact er_sl | exact er_asl | exact G7.er rfl)); rotate_left; (exact wf_); (exact wf_))
        | (apply callQ2 (hp := graph_Close ?_ ?_ ?_ ?_); (focus (first | exact er_intsL | exact er_cl | exact er_sl | exact er_asl | exact G7.er rfl)); (focus (first | exact er_intsL | exact er_cl | exact er_sl | exact er_asl | exact G7.er rfl)); rotate_left; (exact wf_); (exact wf_); (exact wf_); (exact wf_))
        | simp -implicitDefEqProofs (disch := omega) only [w64, if_neg]
       refine post1 rfl (Or.inr rfl) ?_
       simp -implicitDefEqProofs only [wL, seval, g0, g1, g5, g6, g7, g10]
       first | refine er_bool ?_ | refine er_int ?_ | refine er_str ?_ | refine er_sl_eq ?_ | refine er_asl_eq ?_ | refine G7.er ?_
       try (with_reducible rfl)
     | false =>
       have hl0 : ((compM (relF (chR n false n)) n).map natI).length = n := by rw [List.length_map, ch_single]
       generalize (compM (relF (chR n false n)) n).map natI = O at *
       repeat' with_reducible first
        | refine s_ ?_
        | refine s_ ?_
        | refine s_ ?_
        | simp -implicitDefEqProofs only [wS, wT, wU, wV, wW, wX, wY, wC, wF, wG, wL, wM, wN, seval, Int.cast_ofNat_Int, Int.reduceLT, Int.reduceLE, Int.reduceEq, Int.reduceToNat, decide_true, decide_false, Bool.false_eq_true, g0, g1, g5, g6, g7, g10, hl0, G7.len]
        | (refine condQ_j (fun h h_ => ?_) (fun h h_ => ?_) <;> (try simp only [wD, reduceCtorEq] at h_) <;> (try (exfalso; first | omega | exact absurd (Eq.trans (Eq.symm h_) (by assumption) : false = true) (by decide) | exact absurd (Eq.trans (Eq.symm h_) (by assumption) : true = false) (by decide) | (refine absurd ?_ h_; focus assumption) | (refine absurd h_ ?_; focus assumption))) <;> (try simp only [h]))
        | ((first | refine gdQ_iT (fun h => ?_) (fun h => ?_) | refine gdQ_iF (fun h => ?_) (fun h => ?_)) <;> have h_ := h <;> (try simp only [wD, reduceCtorEq] at h_) <;> (try (exfalso; first | omega | exact absurd (Eq.trans (Eq.symm h_) (by assumption) : false = true) (by decide) | exact absurd (Eq.trans (Eq.symm h_) (by assumption) : true = false) (by decide) | (refine absurd ?_ h_; focus assumption) | (refine absurd h_ ?_; focus assumption))) <;> (try simp only [h]))
        | (apply callQ1 (hp := hcm); (focus exact E5 _ _))
        | (apply callQ2 (hp := hcl); (focus exact E5 _ _); (focus exact E6 _ _))
        | (apply callQ2 (hp := hq); (focus exact er_cl); (focus exact E7 _ _))
        | (apply ia_slQ; (focus omega); (exact wd_))
        | (apply Gr.iaQ G7; (focus omega); (exact wd_))
        | (apply ia_aslQ; (focus omega); (exact wd_))
        | (apply appQ_G (hg := G7); (focus (first | rfl | (simp -implicitDefEqProofs only [wM]; done))); (focus (first | exact SrcN.sl | exact SrcN.asl | exact SrcN.gr G7 | exact SrcN.str)); (exact wf_); (focus (unfold maxLen; first | omega | (simp only [wZ] <;> omega))))
        | (apply appQ_C; (focus (first | exact SrcN.sl | exact SrcN.asl | exact SrcN.gr G7 | exact SrcN.str)); (exact wf_); (focus (unfold maxLen; first | omega | (simp only [wZ] <;> omega))))
        | (refine app_asl ?_; simp -implicitDefEqProofs only [wM, wN, seval, g0, g1, g5, g6, g7, g10, hl0]; apply appT_i; (focus (first | exact SrcN.sl | exact SrcN.asl | exact SrcN.gr G7 | exact SrcN.str)); (exact wf_); (focus (unfold maxLen; first | omega | (simp only [wZ] <;> omega))))
        | (apply fil_part; (exact wu_); (exact wu_); (exact wu_); (focus ((try simp -implicitDefEqProofs only [wY]); rfl)))
        | (apply strAdd; (focus (first | omega | (simp only [wZ] <;> omega))))
        | (apply ldQ_whole)
        | (apply ldQ_sub; (exact wu_); (exact wu_); (focus ((try simp -implicitDefEqProofs only [wE, Nat.reduceAdd]); rfl)))
        | (apply ldQ_obj; (exact wd_); (exact wu_))
        | (apply ldQ_cell; (exact wu_))
        | (apply ldQ_one; (exact wu_))
        | (apply ld_ipQ; (exact wu_))
        | (apply callQ0 (hp := yuccalaw3_wakes))
        | (apply callQ1 (hp := graph_Comps ?_ ?_); (focus (first | exact er_intsL | exact er_cl | exact er_sl | exact er_asl | exact G7.er rfl)); rotate_left; (exact wf_); (exact wf_))
        | (apply callQ2 (hp := graph_Close ?_ ?_ ?_ ?_); (focus (first | exact er_intsL | exact er_cl | exact er_sl | exact er_asl | exact G7.er rfl)); (focus (first | exact er_intsL | exact er_cl | exact er_sl | exact er_asl | exact G7.er rfl)); rotate_left; (exact wf_); (exact wf_); (exact wf_); (exact wf_))
        | simp -implicitDefEqProofs (disch := omega) only [w64, if_neg]
       refine post1 rfl (Or.inr rfl) ?_
       simp -implicitDefEqProofs only [wL, seval, g0, g1, g5, g6, g7, g10]
       first | refine er_bool ?_ | refine er_int ?_ | refine er_str ?_ | refine er_sl_eq ?_ | refine er_asl_eq ?_ | refine G7.er ?_
       try (with_reducible rfl)
end Go.Proofs
