/- Part of a proof that a law of the given program answers true. -/
import Derived.Test.YtnglccjjgbdfgaaDoorGWB
import Derived.Test.YtnglccjjgbdfgaaDoorGCA
import Derived.Test.YtnglccjjgbdfgaaDoorGPB
set_option linter.unusedSimpArgs false
set_option linter.unusedVariables false
set_option maxHeartbeats 4000000
namespace Go.Proofs
open Go.E
def ofK (k : Nat) : Nat → Int := fun j => if j < k then -1 else 0
theorem ofK_succ (k : Nat) : updT (ofK k) k (-1) = ofK (k + 1) := by
 funext j
 show (if j = k then (-1 : Int) else if j < k then -1 else 0) = if j < k + 1 then -1 else 0
 omega
theorem row0 (n : Nat) : List.replicate n (V.int .i64 0) = ivs (rowI n (fun _ => 0)) := by
 refine List.ext_getElem? fun k => ?_
 by_cases h : k < n
 · rw [List.getElem?_map, rowI_get h]; simp [h]
 · rw [List.getElem?_eq_none (by simp; omega), List.getElem?_eq_none (by simp [rowI_len]; omega)]
def tarZ : TS := { num := fun _ => 0, low := fun _ => 0, of := fun _ => -1, stack := [], groups := [], next := 0 }
def tarK (rel : Nat → List Int) (n k : Nat) : TS := (List.range k).foldl (fun s i => if s.num i = 0 then visT rel n n i s else s) tarZ
theorem tarK_succ (rel : Nat → List Int) (n k : Nat) : tarK rel n (k + 1) = if (tarK rel n k).num k = 0 then visT rel n n k (tarK rel n k) else tarK rel n k := by
 unfold tarK
 rw [List.range_succ, List.foldl_append]; rfl
theorem tarK_n (rel : Nat → List Int) (n : Nat) : tarK rel n n = tarT rel n := rfl
theorem unv_n (n : Nat) (s : TS) : unvT n s ≤ n := by
 unfold unvT
 have := List.countP_le_length (p := fun x => decide (s.num x = 0)) (l := List.range n)
 rwa [List.length_range] at this
theorem tarZ_inv (rel : Nat → List Int) (n : Nat) : TInv rel n (fun _ => False) tarZ :=
 ⟨fun _ => ⟨by show (0 : Int) ≤ 0; omega, by show (0 : Int) ≤ _; omega⟩, fun x h => absurd rfl h, fun x _ h => absurd rfl h, fun _ _ => rfl, fun _ => ⟨by show (-1 : Int) ≤ -1; omega, by show (-1 : Int) < _; omega⟩, fun x => by simp [tarZ], List.Pairwise.nil, fun x h => h.elim, fun x _ h => absurd rfl h, fun x _ h => by simp [tarZ] at h, fun x y h => by simp [tarZ] at h, fun y h => by simp [tarZ] at h, fun x h => by simp [tarZ] at h, fun k l h => by simp [tarZ] at h⟩
theorem tarK_inv (rel : Nat → List Int) (n : Nat) : ∀ k, k ≤ n → TInv rel n (fun _ => False) (tarK rel n k) ∧ BdT n (tarK rel n k)
 | 0, _ => ⟨tarZ_inv rel n, by have := unv_n n tarZ; show 0 + _ ≤ n; unfold tarK; simpa using this⟩
 | k + 1, hk => by
   obtain ⟨a, b⟩ := tarK_inv rel n k (by omega)
   rw [tarK_succ]
   split
   · rename_i h0
     exact ⟨(visT_ok rel n n k _ _ h0 (by omega) (unv_n n _) a (fun g h => h.elim)).1, vis_bd rel n n k _ (by omega) h0 b⟩
   · exact ⟨a, b⟩
abbrev WalkQ (H : Nat → Option MObj) (next n : Nat) (rl : List (List Int)) : V → (Nat → Option MObj) → Nat → Prop := fun v H' n' =>
 ∃ wi ni li oi lo, v = .ptr wi 0 0 ∧ WD wi ni li oi lo ∧ (next ≤ wi ∧ next ≤ ni ∧ next ≤ li ∧ next ≤ oi ∧ next ≤ lo) ∧ WAt H' n' wi ni li oi lo n rl (tarT (relF rl) n) ∧ ∀ j, j < next → H' j = H j
theorem walkC {H : Nat → Option MObj} {next n : Nat} {rl : List (List Int)} (hn : n ≤ 1000000) (hrl : rl.length = n) (hrk : ∀ l ∈ rl, l.length ≤ 1000000) : ECalls Tryd.prog 18 [.sl 1 false (rl.map intsV)] H next (WalkQ H next n rl) := by
 refine ecalls_intro Tryd.func18 e18_nm e18_ok (by show 1 ≤ 48; decide) ?_
 show ewp _ e18n38 _ _
 repeat' with_reducible first
  | refine s_ ?_
  | refine s_ ?_
  | simp -implicitDefEqProofs only [wS, wT, wU, wV, wW, wX, wY, wC, wF, wG, wL, wM, wN, seval, Int.cast_ofNat_Int, Int.reduceLT, Int.reduceLE, Int.reduceEq, Int.reduceToNat, decide_true, decide_false, Bool.false_eq_true, hrl]
  | (refine condQ_j (fun h h_ => ?_) (fun h h_ => ?_) <;> (try simp only [wD, reduceCtorEq] at h_) <;> (try (exfalso; first | omega | exact absurd (Eq.trans (Eq.symm h_) (by assumption) : false = true) (by decide) | exact absurd (Eq.trans (Eq.symm h_) (by assumption) : true = false) (by decide) | (refine absurd ?_ h_; focus assumption) | (refine absurd h_ ?_; focus assumption))) <;> (try simp only [h]))
  | (apply ia_slQ; (focus omega); (exact wd_))
  | (apply ia_mslQ; (focus omega); (exact wf_))
  | (apply ia_aslQ; (focus omega); (exact wd_))
  | (apply bld_nil)
  | (apply bld_part; (exact wu_); (exact wu_); (exact wu_); (focus ((try simp -implicitDefEqProofs only [wE, Nat.reduceAdd]); rfl)))
  | (apply strAdd; (focus (first | omega | (simp only [wZ] <;> omega))))
  | (apply ldQ_whole)
  | (apply ldQ_sub; (exact wu_); (exact wu_); (focus ((try simp -implicitDefEqProofs only [wE, Nat.reduceAdd]); rfl)))
  | (apply ldQ_obj; (exact wd_); (exact wu_))
  | (apply ldQ_cell; (exact wu_))
  | (apply ldQ_one; (exact wu_))
  | (apply ld_ipQ; (exact wu_))
  | (apply stQ_whole; (exact wu_); (exact wu_))
  | (apply stQ_obj; (exact wf_); (exact wu_); (exact wu_); (focus (intro _; with_unfolding_all rfl)))
  | (apply stQ_one; (exact wu_); (exact wu_); (exact wu_))
  | (apply stQ_cell; (exact wu_); (exact wu_); (exact wu_); (exact wf_))
  | (apply boxQ_i; (exact wu_); (exact wu_))
  | (apply mkQ_T; (exact wf_); (exact wf_); (focus (unfold maxLen; first | omega | (simp only [wZ] <;> omega))))
  | (apply mkQ_F; (exact wf_); (exact wf_); (focus (unfold maxLen; first | omega | (simp only [wZ] <;> omega))))
  | simp -implicitDefEqProofs (disch := omega) only [w64, if_neg]
 have hD : WD (next + 1 + 11) (next + 1 + 3) (next + 1 + 6) (next + 1 + 9) (next + 14) := ⟨by omega, by omega⟩
 refine ewp_loopN ?nx1 (fun (k : Nat) s => s.f 0 = ?v1_0 ∧ s.f 3 = ?v1_3 ∧ s.f 19 = ?v1_19 ∧ s.f 20 = vi k ∧ (k ≤ n) ∧ ((s.H (next + 1 + 11) = some (.own 7 [wkV rl (next + 1 + 3) (next + 1 + 6) (next + 1 + 9) n (.sl 1 true []) (.sl 1 true []) 0] false))) ∧ ((s.H (next + 1 + 3) = some (.own 1 (ivs (rowI n (fun _ => 0))) false))) ∧ ((s.H (next + 1 + 6) = some (.own 1 (ivs (rowI n (fun _ => 0))) false))) ∧ ((s.H (next + 1 + 9) = some (.own 1 (ivs (rowI n (ofK k))) false))) ∧ ((∀ j, j < next → s.H j = H j))) (fun k => n - k) (0) wj_ (by refine ⟨?_, ?_, ?_, ?_, (by first | omega | (simp; done) | assumption), (by ((simp only [wM]; (repeat first | rw [if_pos trivial] | rw [if_pos rfl] | rw [if_neg (by omega)])); rfl)), (by ((simp only [wM]; (repeat first | rw [if_pos trivial] | rw [if_pos rfl] | rw [if_neg (by omega)])); rw [row0])), (by ((simp only [wM]; (repeat first | rw [if_pos trivial] | rw [if_pos rfl] | rw [if_neg (by omega)])); rw [row0])), (by ((simp only [wM]; (repeat first | rw [if_pos trivial] | rw [if_pos rfl] | rw [if_neg (by omega)])); rw [row0]; rfl)), (by (intro j h; (simp only [wM]; (repeat first | rw [if_pos trivial] | rw [if_pos rfl] | rw [if_neg (by omega)]))))⟩ <;> first | (simp -implicitDefEqProofs only [wL, wM, wN, wX, seval, Option.some.injEq] <;> exact wt_) | rfl | exact ⟨_, rfl⟩) ?_
 intro k s hnx ⟨g0, g3, g19, g20, k1_0, k1_1, k1_2, k1_3, k1_4, k1_5⟩
 by_cases hk : k < n
 · repeat' with_reducible first
    | refine s_ ?_
    | refine s_ ?_
    | simp -implicitDefEqProofs only [wS, wT, wU, wV, wW, wX, wY, wC, wF, wG, wL, wM, wN, seval, Int.cast_ofNat_Int, Int.reduceLT, Int.reduceLE, Int.reduceEq, Int.reduceToNat, decide_true, decide_false, Bool.false_eq_true, g0, g3, g19, g20, k1_1]
    | (refine condQ_j (fun h h_ => ?_) (fun h h_ => ?_) <;> (try simp only [wD, reduceCtorEq] at h_) <;> (try (exfalso; first | omega | exact absurd (Eq.trans (Eq.symm h_) (by assumption) : false = true) (by decide) | exact absurd (Eq.trans (Eq.symm h_) (by assumption) : true = false) (by decide) | (refine absurd ?_ h_; focus assumption) | (refine absurd h_ ?_; focus assumption))) <;> (try simp only [h]))
    | (apply ia_mslQ; (focus omega); (focus omega))
    | (refine stI k k1_4 (by omega) hk ?_)
    | (apply ia_slQ; (focus omega); (exact wd_))
    | (apply ia_mslQ; (focus omega); (exact wf_))
    | (apply ia_aslQ; (focus omega); (exact wd_))
    | (apply bld_nil)
    | (apply bld_part; (exact wu_); (exact wu_); (exact wu_); (focus ((try simp -implicitDefEqProofs only [wE, Nat.reduceAdd]); rfl)))
    | (apply strAdd; (focus (first | omega | (simp only [wZ] <;> omega))))
    | (apply ldQ_whole)
    | (apply ldQ_sub; (exact wu_); (exact wu_); (focus ((try simp -implicitDefEqProofs only [wE, Nat.reduceAdd]); rfl)))
    | (apply ldQ_obj; (exact wd_); (exact wu_))
    | (apply ldQ_cell; (exact wu_))
    | (apply ldQ_one; (exact wu_))
    | (apply ld_ipQ; (exact wu_))
    | (apply stQ_whole; (exact wu_); (exact wu_))
    | (apply stQ_obj; (exact wf_); (exact wu_); (exact wu_); (focus (intro _; with_unfolding_all rfl)))
    | (apply stQ_one; (exact wu_); (exact wu_); (exact wu_))
    | (apply stQ_cell; (exact wu_); (exact wu_); (exact wu_); (exact wf_))
    | (apply boxQ_i; (exact wu_); (exact wu_))
    | (apply mkQ_T; (exact wf_); (exact wf_); (focus (unfold maxLen; first | omega | (simp only [wZ] <;> omega))))
    | (apply mkQ_F; (exact wf_); (exact wf_); (focus (unfold maxLen; first | omega | (simp only [wZ] <;> omega))))
    | simp -implicitDefEqProofs (disch := omega) only [w64, if_neg]
   refine ⟨by ((try simp only [wN]) <;> omega), k + 1, by omega, ?_⟩; (repeat refine ⟨True.intro, ?_⟩)
   exact ⟨rfl, by omega, by ((try simp only [wM]); (repeat first | rw [if_pos trivial] | rw [if_pos rfl] | rw [if_neg (by omega)])); (try exact k1_1), by ((try simp only [wM]); (repeat first | rw [if_pos trivial] | rw [if_pos rfl] | rw [if_neg (by omega)])); (try exact k1_2), by ((try simp only [wM]); (repeat first | rw [if_pos trivial] | rw [if_pos rfl] | rw [if_neg (by omega)])); (try exact k1_3), by ((try simp only [wM]); (repeat first | rw [if_pos trivial] | rw [if_pos rfl] | rw [if_neg (by omega)])); (try rw [ofK_succ]), fun j h => by ((try simp only [wM]); (repeat first | rw [if_pos trivial] | rw [if_pos rfl] | rw [if_neg (by omega)])); (try exact k1_5 j h)⟩
 · have hkn : rowI n (ofK k) = rowI n (fun _ => (-1 : Int)) := rowI_congr fun j hj => if_pos (by omega)
   rw [hkn] at k1_4
   have W0 : WIn s.H s.next (next + 1 + 11) (next + 1 + 3) (next + 1 + 6) (next + 1 + 9) (next + 14) n rl (tarK (relF rl) n 0) (.sl 1 true []) (.sl 1 true []) [] := ⟨k1_1, k1_2, k1_3, k1_4, Or.inl ⟨rfl, rfl⟩, Or.inl ⟨rfl, rfl⟩, ⟨rfl, fun k l h => by simp [tarK, tarZ] at h⟩, fun j h => (by cases h), by omega⟩
   repeat' with_reducible first
    | refine s_ ?_
    | refine s_ ?_
    | simp -implicitDefEqProofs only [wS, wT, wU, wV, wW, wX, wY, wC, wF, wG, wL, wM, wN, seval, Int.cast_ofNat_Int, Int.reduceLT, Int.reduceLE, Int.reduceEq, Int.reduceToNat, decide_true, decide_false, Bool.false_eq_true, g0, g3, g19, g20, hrl]
    | (refine condQ_j (fun h h_ => ?_) (fun h h_ => ?_) <;> (try simp only [wD, reduceCtorEq] at h_) <;> (try (exfalso; first | omega | exact absurd (Eq.trans (Eq.symm h_) (by assumption) : false = true) (by decide) | exact absurd (Eq.trans (Eq.symm h_) (by assumption) : true = false) (by decide) | (refine absurd ?_ h_; focus assumption) | (refine absurd h_ ?_; focus assumption))) <;> (try simp only [h]))
    | (apply ia_slQ; (focus omega); (exact wd_))
    | (apply ia_mslQ; (focus omega); (exact wf_))
    | (apply ia_aslQ; (focus omega); (exact wd_))
    | (apply bld_nil)
    | (apply bld_part; (exact wu_); (exact wu_); (exact wu_); (focus ((try simp -implicitDefEqProofs only [wE, Nat.reduceAdd]); rfl)))
    | (apply strAdd; (focus (first | omega | (simp only [wZ] <;> omega))))
    | (apply ldQ_whole)
    | (apply ldQ_sub; (exact wu_); (exact wu_); (focus ((try simp -implicitDefEqProofs only [wE, Nat.reduceAdd]); rfl)))
    | (apply ldQ_obj; (exact wd_); (exact wu_))
    | (apply ldQ_cell; (exact wu_))
    | (apply ldQ_one; (exact wu_))
    | (apply ld_ipQ; (exact wu_))
    | (apply stQ_whole; (exact wu_); (exact wu_))
    | (apply stQ_obj; (exact wf_); (exact wu_); (exact wu_); (focus (intro _; with_unfolding_all rfl)))
    | (apply stQ_one; (exact wu_); (exact wu_); (exact wu_))
    | (apply stQ_cell; (exact wu_); (exact wu_); (exact wu_); (exact wf_))
    | (apply boxQ_i; (exact wu_); (exact wu_))
    | (apply mkQ_T; (exact wf_); (exact wf_); (focus (unfold maxLen; first | omega | (simp only [wZ] <;> omega))))
    | (apply mkQ_F; (exact wf_); (exact wf_); (focus (unfold maxLen; first | omega | (simp only [wZ] <;> omega))))
    | simp -implicitDefEqProofs (disch := omega) only [w64, if_neg]
   refine ewp_loopN ?nx2 (fun (i : Nat) s => s.f 3 = ?v2_3 ∧ s.f 31 = ?v2_31 ∧ s.f 32 = vi i ∧ (i ≤ n) ∧ ((∃ sv gv gs, WIn s.H s.next (next + 1 + 11) (next + 1 + 3) (next + 1 + 6) (next + 1 + 9) (next + 14) n rl (tarK (relF rl) n i) sv gv gs)) ∧ ((∀ j, j < next → s.H j = H j))) (fun i => n - i) (0) wj_ (by refine ⟨?_, ?_, ?_, (by first | omega | (simp; done) | assumption), (by (exact ⟨_, _, _, WIn.mono W0 hD (by ((try simp only [wN]) <;> omega)) (fun j _ => by (simp only [wM]; (repeat first | rw [if_pos trivial] | rw [if_pos rfl] | rw [if_neg (by omega)])))⟩)), (by (intro j h; (simp only [wM]; (repeat first | rw [if_pos trivial] | rw [if_pos rfl] | rw [if_neg (by omega)])); exact k1_5 j h))⟩ <;> first | (simp -implicitDefEqProofs only [wL, wM, wN, wX, seval, Option.some.injEq, g0, g3, g19, g20] <;> exact wt_) | rfl | exact ⟨_, rfl⟩) ?_
   intro i s hnx ⟨g3, g31, g32, k2_0, k2_1, k2_2⟩
   obtain ⟨sv1, gv1, gs1, W1⟩ := k2_1
   by_cases hi : i < n
   · obtain ⟨hinv, hbd⟩ := tarK_inv (relF rl) n i (by omega)
     have hts := tarK_succ (relF rl) n i
     generalize tarK (relF rl) n i = t at *
     have gni := rowI_get (l := t.num) hi
     by_cases h0 : t.num i = 0
     · rw [if_pos h0] at hts
       have hrec := fun HH nn W => vis_all hD hn hrl hrk n HH nn i t (fun _ => False) h0 hi (unv_n n t) hbd hinv (fun g h => h.elim) W
       repeat' with_reducible first
        | refine s_ ?_
        | refine s_ ?_
        | simp -implicitDefEqProofs only [wS, wT, wU, wV, wW, wX, wY, wC, wF, wG, wL, wM, wN, seval, Int.cast_ofNat_Int, Int.reduceLT, Int.reduceLE, Int.reduceEq, Int.reduceToNat, decide_true, decide_false, Bool.false_eq_true, g3, g31, g32, W1.w]
        | (refine condQ_j (fun h h_ => ?_) (fun h h_ => ?_) <;> (try simp only [wD, reduceCtorEq] at h_) <;> (try (exfalso; first | omega | exact absurd (Eq.trans (Eq.symm h_) (by assumption) : false = true) (by decide) | exact absurd (Eq.trans (Eq.symm h_) (by assumption) : true = false) (by decide) | (refine absurd ?_ h_; focus assumption) | (refine absurd h_ ?_; focus assumption))) <;> (try simp only [h]))
        | (apply ia_mslQ; (focus omega); (focus omega))
        | (refine ldI i W1.nu (by omega) gni ?_)
        | (refine callQWc rfl rfl rfl ((hrec _ _ ⟨_, _, _, WIn.mono W1 hD (by ((try simp only [wN]) <;> omega)) (fun j _ => by ((try simp only [wM]); (repeat first | rw [if_pos trivial] | rw [if_pos rfl] | rw [if_neg (by omega)])))⟩).mono ?_); rintro v1 H1 n1 ⟨rfl, q1, ⟨sv2, gv2, gs2, W2⟩, q3⟩; (try simp only [wN] at q1); (try simp only [wN] at q3))
        | (apply ia_slQ; (focus omega); (exact wd_))
        | (apply ia_mslQ; (focus omega); (exact wf_))
        | (apply ia_aslQ; (focus omega); (exact wd_))
        | (apply bld_nil)
        | (apply bld_part; (exact wu_); (exact wu_); (exact wu_); (focus ((try simp -implicitDefEqProofs only [wE, Nat.reduceAdd]); rfl)))
        | (apply strAdd; (focus (first | omega | (simp only [wZ] <;> omega))))
        | (apply ldQ_whole)
        | (apply ldQ_sub; (exact wu_); (exact wu_); (focus ((try simp -implicitDefEqProofs only [wE, Nat.reduceAdd]); rfl)))
        | (apply ldQ_obj; (exact wd_); (exact wu_))
        | (apply ldQ_cell; (exact wu_))
        | (apply ldQ_one; (exact wu_))
        | (apply ld_ipQ; (exact wu_))
        | (apply stQ_whole; (exact wu_); (exact wu_))
        | (apply stQ_obj; (exact wf_); (exact wu_); (exact wu_); (focus (intro _; with_unfolding_all rfl)))
        | (apply stQ_one; (exact wu_); (exact wu_); (exact wu_))
        | (apply stQ_cell; (exact wu_); (exact wu_); (exact wu_); (exact wf_))
        | (apply boxQ_i; (exact wu_); (exact wu_))
        | (apply mkQ_T; (exact wf_); (exact wf_); (focus (unfold maxLen; first | omega | (simp only [wZ] <;> omega))))
        | (apply mkQ_F; (exact wf_); (exact wf_); (focus (unfold maxLen; first | omega | (simp only [wZ] <;> omega))))
        | simp -implicitDefEqProofs (disch := omega) only [w64, if_neg]
       refine ⟨by ((try simp only [wN]) <;> omega), i + 1, by omega, ?_⟩; (repeat refine ⟨True.intro, ?_⟩)
       exact ⟨rfl, by omega, ⟨_, _, _, by rw [hts]; exact WIn.mono W2 hD (by ((try simp only [wN]) <;> omega)) (fun j _ => by ((try simp only [wM]); (repeat first | rw [if_pos trivial] | rw [if_pos rfl] | rw [if_neg (by omega)])))⟩, fun j h => by ((try simp only [wM]); (repeat first | rw [if_pos trivial] | rw [if_pos rfl] | rw [if_neg (by omega)])); rw [q3 j (by omega) (by omega) (by omega) (by omega) (by omega)]; ((try simp only [wM]); (repeat first | rw [if_pos trivial] | rw [if_pos rfl] | rw [if_neg (by omega)])); (try exact k2_2 j h)⟩
     · rw [if_neg h0] at hts
       repeat' with_reducible first
        | refine s_ ?_
        | refine s_ ?_
        | simp -implicitDefEqProofs only [wS, wT, wU, wV, wW, wX, wY, wC, wF, wG, wL, wM, wN, seval, Int.cast_ofNat_Int, Int.reduceLT, Int.reduceLE, Int.reduceEq, Int.reduceToNat, decide_true, decide_false, Bool.false_eq_true, g3, g31, g32, W1.w]
        | (refine condQ_j (fun h h_ => ?_) (fun h h_ => ?_) <;> (try simp only [wD, reduceCtorEq] at h_) <;> (try (exfalso; first | omega | exact absurd (Eq.trans (Eq.symm h_) (by assumption) : false = true) (by decide) | exact absurd (Eq.trans (Eq.symm h_) (by assumption) : true = false) (by decide) | (refine absurd ?_ h_; focus assumption) | (refine absurd h_ ?_; focus assumption))) <;> (try simp only [h]))
        | (apply ia_mslQ; (focus omega); (focus omega))
        | (refine ldI i W1.nu (by omega) gni ?_)
        | (apply ia_slQ; (focus omega); (exact wd_))
        | (apply ia_mslQ; (focus omega); (exact wf_))
        | (apply ia_aslQ; (focus omega); (exact wd_))
        | (apply bld_nil)
        | (apply bld_part; (exact wu_); (exact wu_); (exact wu_); (focus ((try simp -implicitDefEqProofs only [wE, Nat.reduceAdd]); rfl)))
        | (apply strAdd; (focus (first | omega | (simp only [wZ] <;> omega))))
        | (apply ldQ_whole)
        | (apply ldQ_sub; (exact wu_); (exact wu_); (focus ((try simp -implicitDefEqProofs only [wE, Nat.reduceAdd]); rfl)))
        | (apply ldQ_obj; (exact wd_); (exact wu_))
        | (apply ldQ_cell; (exact wu_))
        | (apply ldQ_one; (exact wu_))
        | (apply ld_ipQ; (exact wu_))
        | (apply stQ_whole; (exact wu_); (exact wu_))
        | (apply stQ_obj; (exact wf_); (exact wu_); (exact wu_); (focus (intro _; with_unfolding_all rfl)))
        | (apply stQ_one; (exact wu_); (exact wu_); (exact wu_))
        | (apply stQ_cell; (exact wu_); (exact wu_); (exact wu_); (exact wf_))
        | (apply boxQ_i; (exact wu_); (exact wu_))
        | (apply mkQ_T; (exact wf_); (exact wf_); (focus (unfold maxLen; first | omega | (simp only [wZ] <;> omega))))
        | (apply mkQ_F; (exact wf_); (exact wf_); (focus (unfold maxLen; first | omega | (simp only [wZ] <;> omega))))
        | simp -implicitDefEqProofs (disch := omega) only [w64, if_neg]
       refine ⟨by ((try simp only [wN]) <;> omega), i + 1, by omega, ?_⟩; (repeat refine ⟨True.intro, ?_⟩)
       exact ⟨rfl, by omega, ⟨_, _, _, by rw [hts]; exact WIn.mono W1 hD (by ((try simp only [wN]) <;> omega)) (fun j _ => by ((try simp only [wM]); (repeat first | rw [if_pos trivial] | rw [if_pos rfl] | rw [if_neg (by omega)])))⟩, fun j h => by ((try simp only [wM]); (repeat first | rw [if_pos trivial] | rw [if_pos rfl] | rw [if_neg (by omega)])); (try exact k2_2 j h)⟩
   · rw [show i = n by omega, tarK_n] at W1
     repeat' with_reducible first
      | refine s_ ?_
      | refine s_ ?_
      | simp -implicitDefEqProofs only [wS, wT, wU, wV, wW, wX, wY, wC, wF, wG, wL, wM, wN, seval, Int.cast_ofNat_Int, Int.reduceLT, Int.reduceLE, Int.reduceEq, Int.reduceToNat, decide_true, decide_false, Bool.false_eq_true, g3, g31, g32]
      | (refine condQ_j (fun h h_ => ?_) (fun h h_ => ?_) <;> (try simp only [wD, reduceCtorEq] at h_) <;> (try (exfalso; first | omega | exact absurd (Eq.trans (Eq.symm h_) (by assumption) : false = true) (by decide) | exact absurd (Eq.trans (Eq.symm h_) (by assumption) : true = false) (by decide) | (refine absurd ?_ h_; focus assumption) | (refine absurd h_ ?_; focus assumption))) <;> (try simp only [h]))
      | (apply ia_slQ; (focus omega); (exact wd_))
      | (apply ia_mslQ; (focus omega); (exact wf_))
      | (apply ia_aslQ; (focus omega); (exact wd_))
      | (apply bld_nil)
      | (apply bld_part; (exact wu_); (exact wu_); (exact wu_); (focus ((try simp -implicitDefEqProofs only [wE, Nat.reduceAdd]); rfl)))
      | (apply strAdd; (focus (first | omega | (simp only [wZ] <;> omega))))
      | (apply ldQ_whole)
      | (apply ldQ_sub; (exact wu_); (exact wu_); (focus ((try simp -implicitDefEqProofs only [wE, Nat.reduceAdd]); rfl)))
      | (apply ldQ_obj; (exact wd_); (exact wu_))
      | (apply ldQ_cell; (exact wu_))
      | (apply ldQ_one; (exact wu_))
      | (apply ld_ipQ; (exact wu_))
      | (apply stQ_whole; (exact wu_); (exact wu_))
      | (apply stQ_obj; (exact wf_); (exact wu_); (exact wu_); (focus (intro _; with_unfolding_all rfl)))
      | (apply stQ_one; (exact wu_); (exact wu_); (exact wu_))
      | (apply stQ_cell; (exact wu_); (exact wu_); (exact wu_); (exact wf_))
      | (apply boxQ_i; (exact wu_); (exact wu_))
      | (apply mkQ_T; (exact wf_); (exact wf_); (focus (unfold maxLen; first | omega | (simp only [wZ] <;> omega))))
      | (apply mkQ_F; (exact wf_); (exact wf_); (focus (unfold maxLen; first | omega | (simp only [wZ] <;> omega))))
      | simp -implicitDefEqProofs (disch := omega) only [w64, if_neg]
     refine heap1 rfl (Or.inr rfl) ⟨next + 1 + 11, next + 1 + 3, next + 1 + 6, next + 1 + 9, next + 14, ?_, hD, by omega, ⟨_, _, _, WIn.mono W1 hD (by ((try simp only [wN]) <;> omega)) (fun j _ => by ((try simp only [wM]); (repeat first | rw [if_pos trivial] | rw [if_pos rfl] | rw [if_neg (by omega)])))⟩, fun j h => by ((try simp only [wM]); (repeat first | rw [if_pos trivial] | rw [if_pos rfl] | rw [if_neg (by omega)])); (try exact k2_2 j h)⟩
     (simp -implicitDefEqProofs only [wL, seval])

def setsC (n : Nat) (S : Nat → Nat → Bool) : List V := (List.range n).map fun k => setC (S k)
theorem setsC_len (n : Nat) (S : Nat → Nat → Bool) : (setsC n S).length = n := by simp [setsC]
theorem setsC_get {n k : Nat} {S : Nat → Nat → Bool} (h : k < n) : (setsC n S)[k]? = some (setC (S k)) := by simp [setsC, h]
theorem setsC_set {n k : Nat} {S : Nat → Nat → Bool} {v : Nat → Bool} (h : k < n) : (setsC n S).set k (setC v) = setsC n (updA S k v) := by
 refine List.ext_getElem? fun i => ?_
 rw [List.getElem?_set]
 by_cases hi : i < n
 · rw [setsC_get hi, setsC_len, setsC_get hi]
   by_cases e : k = i
   · subst e; simp [hi, updA]
   · simp [e, updA, Ne.symm e]
 · rw [List.getElem?_eq_none (by rw [setsC_len]; omega), List.getElem?_eq_none (by rw [setsC_len]; omega)]
   rw [setsC_len]; simp; omega
theorem setC0 : V.agg [.int .u64 0, .int .u64 0, .int .u64 0, .int .u64 0, .int .u64 0, .int .u64 0, .int .u64 0, .int .u64 0, .int .u64 0, .int .u64 0, .int .u64 0, .int .u64 0, .int .u64 0, .int .u64 0, .int .u64 0, .int .u64 0] = setC (fun _ => false) := by
 show V.agg _ = V.agg (cellsW _)
 rw [cellsW_none]
theorem sets0 (n : Nat) : List.replicate n (V.agg [.int .u64 0, .int .u64 0, .int .u64 0, .int .u64 0, .int .u64 0, .int .u64 0, .int .u64 0, .int .u64 0, .int .u64 0, .int .u64 0, .int .u64 0, .int .u64 0, .int .u64 0, .int .u64 0, .int .u64 0, .int .u64 0]) = setsC n (fun _ _ => false) := by
 rw [setC0]
 refine List.ext_getElem? fun i => ?_
 by_cases h : i < n
 · rw [setsC_get h]; simp [h]
 · rw [List.getElem?_eq_none (by simp; omega), List.getElem?_eq_none (by rw [setsC_len]; omega)]
theorem ldS {K : V → Prop} {nn k : Nat} {S : Nat → Nat → Bool} {ro : Bool} (h : k < nn) (hk : K (setC (S k))) : onS (ldQ (some (.own 16 (setsC nn S) ro)) true 16 k 0) K := by
 have e : ldQ (some (.own 16 (setsC nn S) ro)) true 16 k 0 = some (setC (S k)) := by simp [ldQ, setsC_get h, partE, V.isAgg]
 rw [e]; exact hk
theorem stS {K : St → Prop} {s : St} {nn k id : Nat} {x : Nat → Bool} {S : Nat → Nat → Bool} (h : k < nn) (hk : K (s.setO id (some (.own 16 (setsC nn (updA S k x)) false)))) : onS (stQ s (some (.own 16 (setsC nn S) false)) 16 id k 0 (.agg (cellsW x))) K := by
 have e : stQ s (some (.own 16 (setsC nn S) false)) 16 id k 0 (.agg (cellsW x)) = some (s.setO id (some (.own 16 (setsC nn (updA S k x)) false))) := by
  rw [← setsC_set h]
  simp [stQ, setsC_get h, V.cells, V.okCell, storeE, V.isAgg, cellsW_len]
 rw [e]; exact hk
def ofL (n : Nat) (S : Nat → Nat → Bool) : List (List Int) := (List.range n).map fun k => lst (S k) 1024
theorem ofL_len (n : Nat) (S : Nat → Nat → Bool) : (ofL n S).length = n := by simp [ofL]
def lsC (n i : Nat) (S : Nat → Nat → Bool) : List V := (List.range n).map fun k => if k < i then intsV (lst (S k) 1024) else .sl 1 true []
theorem lsC_len (n i : Nat) (S : Nat → Nat → Bool) : (lsC n i S).length = n := by simp [lsC]
theorem lsC_0 (n : Nat) (S : Nat → Nat → Bool) : List.replicate n (V.sl 1 true []) = lsC n 0 S := by
 refine List.ext_getElem? fun i => ?_
 by_cases h : i < n
 · simp [lsC, h]
 · rw [List.getElem?_eq_none (by simp; omega), List.getElem?_eq_none (by rw [lsC_len]; omega)]
theorem lsC_n (n : Nat) (S : Nat → Nat → Bool) : lsC n n S = (ofL n S).map intsV := by
 unfold lsC ofL
 rw [List.map_map]
 refine List.map_congr_left fun k hk => ?_
 rw [if_pos (List.mem_range.1 hk)]; rfl
theorem stLs {K : St → Prop} {s : St} {nn i id : Nat} {S : Nat → Nat → Bool} (h : i < nn) (hk : K (s.setO id (some (.own 1 (lsC nn (i + 1) S) false)))) : onS (stQ s (some (.own 1 (lsC nn i S) false)) 1 id i 0 (intsV (lst (S i) 1024))) K := by
 have hg : (lsC nn i S)[i]? = some (.sl 1 true []) := by simp [lsC, h]
 have hs : (lsC nn i S).set i (intsV (lst (S i) 1024)) = lsC nn (i + 1) S := by
  refine List.ext_getElem? fun k => ?_
  rw [List.getElem?_set, lsC_len]
  by_cases hk : k < nn
  · by_cases e : i = k
    · subst e; simp [lsC, hk]
    · rw [if_neg e]
      simp only [lsC, List.getElem?_map, List.getElem?_range hk, Option.map_some]
      by_cases e2 : k < i
      · rw [if_pos e2, if_pos (by omega)]
      · rw [if_neg e2, if_neg (by omega)]
  · rw [List.getElem?_eq_none (by rw [lsC_len]; omega), List.getElem?_eq_none (by rw [lsC_len]; omega)]
    split
    · rename_i e; exact absurd (e ▸ h) hk
    · rfl
 have e : stQ s (some (.own 1 (lsC nn i S) false)) 1 id i 0 (intsV (lst (S i) 1024)) = some (s.setO id (some (.own 1 (lsC nn (i + 1) S) false))) := by
  rw [← hs]
  simp [stQ, hg, V.cells, V.okCell, storeE, V.isAgg]
 rw [e]; exact hk
theorem ldSE {K : V → Prop} {nn k : Nat} (k' : Nat) {S : Nat → Nat → Bool} {ro : Bool} {o : Option MObj} (ho : o = some (.own 16 (setsC nn S) ro)) (e : k = k') (h : k' < nn) (hk : K (setC (S k'))) : onS (ldQ o true 16 k 0) K := by
 subst ho e; exact ldS h hk
theorem stSE {K : St → Prop} {s : St} {nn k id : Nat} (k' : Nat) {x : Nat → Bool} {S : Nat → Nat → Bool} {o : Option MObj} (ho : o = some (.own 16 (setsC nn S) false)) (e : k = k') (h : k' < nn) (hk : K (s.setO id (some (.own 16 (setsC nn (updA S k' x)) false)))) : onS (stQ s o 16 id k 0 (.agg (cellsW x))) K := by
 subst ho e; exact stS h hk
theorem ldG {K : V → Prop} {k : Nat} (k' : Nat) {gs : List V} {v : V} {ro : Bool} {o : Option MObj} (ho : o = some (.own 1 gs ro)) (e : k = k') (hv : gs[k']? = some v) (ha : v.isAgg = false) (hk : K v) : onS (ldQ o false 1 k 0) K := by
 subst ho e
 have e : ldQ (some (.own 1 gs ro)) false 1 k 0 = some v := by simp [ldQ, hv, partE, ha]
 rw [e]; exact hk
theorem stLsE {K : St → Prop} {s : St} {nn k id : Nat} (i : Nat) {S : Nat → Nat → Bool} {o : Option MObj} (ho : o = some (.own 1 (lsC nn i S) false)) (e : k = i) (h : i < nn) (hk : K (s.setO id (some (.own 1 (lsC nn (i + 1) S) false)))) : onS (stQ s o 1 id k 0 (intsV (lst (S i) 1024))) K := by
 subst ho e; exact stLs h hk
theorem cloE {s0 : St} {n n1 wi ni li oi lo k x ng : Nat} {rl : List (List Int)} {t : TS} {G : Nat → Prop} {sv gv : V} {gs : List V} {A : Nat → Nat → Bool} {sl : Nat → List Int} {L : Nat → Prop} {Q : Exit → St → Prop}
 (f0 : s0.f 0 = .sl 1 false (rl.map intsV)) (f5 : s0.f 5 = .ptr wi 0 0) (f6 : s0.f 6 = .msl (n1 + 5) 16 0 ng) (f7 : s0.f 7 = vi (k : Int)) (f10 : s0.f 10 = vi (x : Int))
 (hrl : rl.length = n) (hn : n ≤ 1000000) (hrk : ∀ l ∈ rl, l.length ≤ 1000000) (hD : WD wi ni li oi lo) (W : WIn s0.H n1 wi ni li oi lo n rl t sv gv gs) (hN : n1 + 6 ≤ s0.next) (hA : s0.H (n1 + 5) = some (.own 16 (setsC ng A) false)) (hC : CloI (relF rl) n t.of sl A k (fun y => L y ∨ y = x) (fun y j => L y ∧ (j : Int) ∈ relF rl y)) (hI : TInv (relF rl) n G t) (hx : t.of x = (k : Int)) (hxn : x < n) (hk : k < ng)
 (hQ : ∀ s' A', s'.f 0 = s0.f 0 → s'.f 1 = s0.f 1 → s'.f 5 = s0.f 5 → s'.f 6 = s0.f 6 → s'.f 7 = s0.f 7 → s'.f 29 = s0.f 29 → s'.f 30 = s0.f 30 → s'.f 31 = s0.f 31 → s'.f 36 = s0.f 36 → s'.f 37 = s0.f 37 → s'.f 38 = s0.f 38 → s0.next ≤ s'.next → s'.H (n1 + 5) = some (.own 16 (setsC ng A') false) → CloI (relF rl) n t.of sl A' k (fun y => L y ∨ y = x) (fun y j => (L y ∨ y = x) ∧ (j : Int) ∈ relF rl y) → (∀ j, j < n1 → s'.H j = s0.H j) → Q .normal s') : ewp Tryd.prog e10n36 Q s0 := by
 have hri : rl[x]? = some (relF rl x) := by unfold relF; rw [List.getD_eq_getElem?_getD, List.getElem?_eq_getElem (by omega)]; rfl
 have hrl2 : (relF rl x).length ≤ 1000000 := hrk _ (List.mem_of_getElem? hri)
 obtain ⟨b1, b2, b3, b4⟩ := hD.b
 have hwl : lo ≤ n1 := W.nx
 repeat' with_reducible first
  | refine s_ ?_
  | refine s_ ?_
  | refine s_ ?_
  | simp -implicitDefEqProofs only [wS, wT, wU, wV, wW, wX, wY, wC, wF, wG, wL, wM, wN, seval, Int.cast_ofNat_Int, Int.reduceLT, Int.reduceLE, Int.reduceEq, Int.reduceToNat, decide_true, decide_false, Bool.false_eq_true, f0, f10]
  | (refine condQ_j (fun h h_ => ?_) (fun h h_ => ?_) <;> (try simp only [wD, reduceCtorEq] at h_) <;> (try (exfalso; first | omega | exact absurd (Eq.trans (Eq.symm h_) (by assumption) : false = true) (by decide) | exact absurd (Eq.trans (Eq.symm h_) (by assumption) : true = false) (by decide) | (refine absurd ?_ h_; focus assumption) | (refine absurd h_ ?_; focus assumption))) <;> (try simp only [h]))
  | ((first | refine gdQ_iT (fun h => ?_) (fun h => ?_) | refine gdQ_iF (fun h => ?_) (fun h => ?_)) <;> have h_ := h <;> (try simp only [wD, reduceCtorEq] at h_) <;> (try (exfalso; first | omega | exact absurd (Eq.trans (Eq.symm h_) (by assumption) : false = true) (by decide) | exact absurd (Eq.trans (Eq.symm h_) (by assumption) : true = false) (by decide) | (refine absurd ?_ h_; focus assumption) | (refine absurd h_ ?_; focus assumption))) <;> (try simp only [h]))
  | (apply ia_slQ; (focus omega); (focus with_unfolding_all exact hri))
  | (apply ia_slQ; (focus omega); (exact wd_))
  | (apply ia_mslQ; (focus omega); (exact wf_))
  | (apply ia_aslQ; (focus omega); (exact wd_))
  | (apply strAdd; (focus (first | omega | (simp only [wZ] <;> omega))))
  | (apply ldQ_whole)
  | (apply ldQ_sub; (exact wu_); (exact wu_); (focus ((try simp -implicitDefEqProofs only [wE, Nat.reduceAdd]); rfl)))
  | (apply ldQ_obj; (exact wd_); (exact wu_))
  | (apply ldQ_cell; (exact wu_))
  | (apply ldQ_one; (exact wu_))
  | (apply ld_ipQ; (exact wu_))
  | (apply stQ_whole; (exact wu_); (exact wu_))
  | (apply stQ_obj; (exact wf_); (exact wu_); (exact wu_); (focus (intro _; with_unfolding_all rfl)))
  | (apply stQ_one; (exact wu_); (exact wu_); (exact wu_))
  | (apply stQ_cell; (exact wu_); (exact wu_); (exact wu_); (exact wf_))
  | (apply mkQ_T; (exact wf_); (exact wf_); (focus (unfold maxLen; first | omega | (simp only [wZ] <;> omega))))
  | (apply mkQ_F; (exact wf_); (exact wf_); (focus (unfold maxLen; first | omega | (simp only [wZ] <;> omega))))
  | simp -implicitDefEqProofs (disch := omega) only [w64, if_neg]
 refine ewp_loopN ?nx3 (fun (r : Nat) s => s.f 0 = ?v3_0 ∧ s.f 1 = ?v3_1 ∧ s.f 5 = ?v3_5 ∧ s.f 6 = ?v3_6 ∧ s.f 7 = ?v3_7 ∧ s.f 29 = ?v3_29 ∧ s.f 30 = ?v3_30 ∧ s.f 31 = ?v3_31 ∧ s.f 36 = ?v3_36 ∧ s.f 37 = ?v3_37 ∧ s.f 38 = ?v3_38 ∧ s.f 62 = ?v3_62 ∧ s.f 63 = ?v3_63 ∧ s.f 64 = vi r ∧ (r ≤ (relF rl x).length) ∧ (s0.next ≤ s.next) ∧ ((∃ A, s.H (n1 + 5) = some (.own 16 (setsC ng A) false) ∧ CloI (relF rl) n t.of sl A k (fun y => L y ∨ y = x) (fun y j => (L y ∧ (j : Int) ∈ relF rl y) ∨ (y = x ∧ (j : Int) ∈ (relF rl x).take r)))) ∧ ((∀ j, j < n1 → s.H j = s0.H j))) (fun r => (relF rl x).length - r) (0) wj_ (by refine ⟨?_, ?_, ?_, ?_, ?_, ?_, ?_, ?_, ?_, ?_, ?_, ?_, ?_, ?_, (by first | omega | (simp; done) | assumption), (by ((try simp only [wN]) <;> omega)), (by (exact ⟨A, by ((try simp only [wM]); (repeat first | rw [if_pos trivial] | rw [if_pos rfl] | rw [if_neg (by omega)])); exact hA, hC.weak (fun _ h => h) (fun y j h => by rcases h with h | ⟨_, h⟩; exact h; simp at h)⟩)), (by (intro j h; ((try simp only [wM]); (repeat first | rw [if_pos trivial] | rw [if_pos rfl] | rw [if_neg (by omega)]))))⟩ <;> first | (simp -implicitDefEqProofs only [wL, wM, wN, wX, seval, Option.some.injEq] <;> exact wt_) | rfl | exact ⟨_, rfl⟩) ?_
 intro r s hnx ⟨g0, g1, g5, g6, g7, g29, g30, g31, g36, g37, g38, g62, g63, g64, k3_0, k3_1, k3_2, k3_3⟩
 obtain ⟨A1, hA1, hC1⟩ := k3_2
 have W1 := W.mono (H' := s.H) (n' := n1) hD (Nat.le_refl _) k3_3
 by_cases hr : r < (relF rl x).length
 · obtain ⟨z, hz⟩ : ∃ z, (relF rl x)[r]? = some z := ⟨_, List.getElem?_eq_getElem hr⟩
   have htk : (relF rl x).take (r + 1) = (relF rl x).take r ++ [z] := by rw [List.take_add_one, hz]; rfl
   by_cases hv : z < 0 ∨ (n : Int) ≤ z
   · have hC2 : CloI (relF rl) n t.of sl A1 k (fun y => L y ∨ y = x) (fun y j => (L y ∧ (j : Int) ∈ relF rl y) ∨ (y = x ∧ (j : Int) ∈ (relF rl x).take (r + 1))) := ⟨hC1.lt, hC1.sd, hC1.d1, fun y j k' hy ho hk' v hv' => by
      refine hC1.d2 y j k' ?_ ho hk' v hv'
      rcases hy with hy | ⟨e, hy⟩
      · exact Or.inl hy
      · rw [htk] at hy
        rcases List.mem_append.1 hy with hy | hy
        · exact Or.inr ⟨e, hy⟩
        · have := of_lt hI (x := j) (by omega)
          rw [List.mem_singleton] at hy
          omega, hC1.hi⟩
     rcases hv with hv | hv
     · repeat' with_reducible first
        | refine s_ ?_
        | refine s_ ?_
        | refine s_ ?_
        | simp -implicitDefEqProofs only [wS, wT, wU, wV, wW, wX, wY, wC, wF, wG, wL, wM, wN, seval, Int.cast_ofNat_Int, Int.reduceLT, Int.reduceLE, Int.reduceEq, Int.reduceToNat, decide_true, decide_false, Bool.false_eq_true, g0, g1, g5, g6, g7, g29, g30, g31, g36, g37, g38, g62, g63, g64, f0, hrl]
        | (refine condQ_j (fun h h_ => ?_) (fun h h_ => ?_) <;> (try simp only [wD, reduceCtorEq] at h_) <;> (try (exfalso; first | omega | exact absurd (Eq.trans (Eq.symm h_) (by assumption) : false = true) (by decide) | exact absurd (Eq.trans (Eq.symm h_) (by assumption) : true = false) (by decide) | (refine absurd ?_ h_; focus assumption) | (refine absurd h_ ?_; focus assumption))) <;> (try simp only [h]))
        | ((first | refine gdQ_iT (fun h => ?_) (fun h => ?_) | refine gdQ_iF (fun h => ?_) (fun h => ?_)) <;> have h_ := h <;> (try simp only [wD, reduceCtorEq] at h_) <;> (try (exfalso; first | omega | exact absurd (Eq.trans (Eq.symm h_) (by assumption) : false = true) (by decide) | exact absurd (Eq.trans (Eq.symm h_) (by assumption) : true = false) (by decide) | (refine absurd ?_ h_; focus assumption) | (refine absurd h_ ?_; focus assumption))) <;> (try simp only [h]))
        | (apply ia_slQ; (focus omega); (focus with_unfolding_all exact hz))
        | (apply ia_slQ; (focus omega); (exact wd_))
        | (apply ia_mslQ; (focus omega); (exact wf_))
        | (apply ia_aslQ; (focus omega); (exact wd_))
        | (apply strAdd; (focus (first | omega | (simp only [wZ] <;> omega))))
        | (apply ldQ_whole)
        | (apply ldQ_sub; (exact wu_); (exact wu_); (focus ((try simp -implicitDefEqProofs only [wE, Nat.reduceAdd]); rfl)))
        | (apply ldQ_obj; (exact wd_); (exact wu_))
        | (apply ldQ_cell; (exact wu_))
        | (apply ldQ_one; (exact wu_))
        | (apply ld_ipQ; (exact wu_))
        | (apply stQ_whole; (exact wu_); (exact wu_))
        | (apply stQ_obj; (exact wf_); (exact wu_); (exact wu_); (focus (intro _; with_unfolding_all rfl)))
        | (apply stQ_one; (exact wu_); (exact wu_); (exact wu_))
        | (apply stQ_cell; (exact wu_); (exact wu_); (exact wu_); (exact wf_))
        | (apply mkQ_T; (exact wf_); (exact wf_); (focus (unfold maxLen; first | omega | (simp only [wZ] <;> omega))))
        | (apply mkQ_F; (exact wf_); (exact wf_); (focus (unfold maxLen; first | omega | (simp only [wZ] <;> omega))))
        | simp -implicitDefEqProofs (disch := omega) only [w64, if_neg]
       refine ⟨by ((try simp only [wN]) <;> omega), r + 1, by omega, ?_⟩; (repeat refine ⟨True.intro, ?_⟩)
       exact ⟨rfl, by omega, by ((try simp only [wN]) <;> omega), ⟨A1, by ((try simp only [wM]); (repeat first | rw [if_pos trivial] | rw [if_pos rfl] | rw [if_neg (by omega)])); exact hA1, hC2⟩, fun j h => by ((try simp only [wM]); (repeat first | rw [if_pos trivial] | rw [if_pos rfl] | rw [if_neg (by omega)])); exact k3_3 j h⟩
     · repeat' with_reducible first
        | refine s_ ?_
        | refine s_ ?_
        | refine s_ ?_
        | simp -implicitDefEqProofs only [wS, wT, wU, wV, wW, wX, wY, wC, wF, wG, wL, wM, wN, seval, Int.cast_ofNat_Int, Int.reduceLT, Int.reduceLE, Int.reduceEq, Int.reduceToNat, decide_true, decide_false, Bool.false_eq_true, g0, g1, g5, g6, g7, g29, g30, g31, g36, g37, g38, g62, g63, g64, f0, hrl]
        | (refine condQ_j (fun h h_ => ?_) (fun h h_ => ?_) <;> (try simp only [wD, reduceCtorEq] at h_) <;> (try (exfalso; first | omega | exact absurd (Eq.trans (Eq.symm h_) (by assumption) : false = true) (by decide) | exact absurd (Eq.trans (Eq.symm h_) (by assumption) : true = false) (by decide) | (refine absurd ?_ h_; focus assumption) | (refine absurd h_ ?_; focus assumption))) <;> (try simp only [h]))
        | ((first | refine gdQ_iT (fun h => ?_) (fun h => ?_) | refine gdQ_iF (fun h => ?_) (fun h => ?_)) <;> have h_ := h <;> (try simp only [wD, reduceCtorEq] at h_) <;> (try (exfalso; first | omega | exact absurd (Eq.trans (Eq.symm h_) (by assumption) : false = true) (by decide) | exact absurd (Eq.trans (Eq.symm h_) (by assumption) : true = false) (by decide) | (refine absurd ?_ h_; focus assumption) | (refine absurd h_ ?_; focus assumption))) <;> (try simp only [h]))
        | (apply ia_slQ; (focus omega); (focus with_unfolding_all exact hz))
        | (apply ia_slQ; (focus omega); (exact wd_))
        | (apply ia_mslQ; (focus omega); (exact wf_))
        | (apply ia_aslQ; (focus omega); (exact wd_))
        | (apply strAdd; (focus (first | omega | (simp only [wZ] <;> omega))))
        | (apply ldQ_whole)
        | (apply ldQ_sub; (exact wu_); (exact wu_); (focus ((try simp -implicitDefEqProofs only [wE, Nat.reduceAdd]); rfl)))
        | (apply ldQ_obj; (exact wd_); (exact wu_))
        | (apply ldQ_cell; (exact wu_))
        | (apply ldQ_one; (exact wu_))
        | (apply ld_ipQ; (exact wu_))
        | (apply stQ_whole; (exact wu_); (exact wu_))
        | (apply stQ_obj; (exact wf_); (exact wu_); (exact wu_); (focus (intro _; with_unfolding_all rfl)))
        | (apply stQ_one; (exact wu_); (exact wu_); (exact wu_))
        | (apply stQ_cell; (exact wu_); (exact wu_); (exact wu_); (exact wf_))
        | (apply mkQ_T; (exact wf_); (exact wf_); (focus (unfold maxLen; first | omega | (simp only [wZ] <;> omega))))
        | (apply mkQ_F; (exact wf_); (exact wf_); (focus (unfold maxLen; first | omega | (simp only [wZ] <;> omega))))
        | simp -implicitDefEqProofs (disch := omega) only [w64, if_neg]
       refine ⟨by ((try simp only [wN]) <;> omega), r + 1, by omega, ?_⟩; (repeat refine ⟨True.intro, ?_⟩)
       exact ⟨rfl, by omega, by ((try simp only [wN]) <;> omega), ⟨A1, by ((try simp only [wM]); (repeat first | rw [if_pos trivial] | rw [if_pos rfl] | rw [if_neg (by omega)])); exact hA1, hC2⟩, fun j h => by ((try simp only [wM]); (repeat first | rw [if_pos trivial] | rw [if_pos rfl] | rw [if_neg (by omega)])); exact k3_3 j h⟩
   · obtain ⟨m, rfl⟩ : ∃ m : Nat, z = m := ⟨z.toNat, by omega⟩
     have hm : m < n := by omega
     have hE : Edge (relF rl) n x m := ⟨hxn, hm, List.mem_of_getElem? hz⟩
     obtain ⟨k2, ho2, hk2, hsd⟩ := hC1.edge hI hx hE
     have hom := rowI_get (l := t.of) hm
     rw [ho2] at hom
     have hor := bits_Or (a := A1 k) (b := A1 k2)
     repeat' with_reducible first
      | refine s_ ?_
      | refine s_ ?_
      | refine s_ ?_
      | simp -implicitDefEqProofs only [wS, wT, wU, wV, wW, wX, wY, wC, wF, wG, wL, wM, wN, seval, Int.cast_ofNat_Int, Int.reduceLT, Int.reduceLE, Int.reduceEq, Int.reduceToNat, decide_true, decide_false, Bool.false_eq_true, g0, g1, g5, g6, g7, g29, g30, g31, g36, g37, g38, g62, g63, g64, f0, f5, f6, f7, hrl, W1.w]
      | (refine condQ_j (fun h h_ => ?_) (fun h h_ => ?_) <;> (try simp only [wD, reduceCtorEq] at h_) <;> (try (exfalso; first | omega | exact absurd (Eq.trans (Eq.symm h_) (by assumption) : false = true) (by decide) | exact absurd (Eq.trans (Eq.symm h_) (by assumption) : true = false) (by decide) | (refine absurd ?_ h_; focus assumption) | (refine absurd h_ ?_; focus assumption))) <;> (try simp only [h]))
      | ((first | refine gdQ_iT (fun h => ?_) (fun h => ?_) | refine gdQ_iF (fun h => ?_) (fun h => ?_)) <;> have h_ := h <;> (try simp only [wD, reduceCtorEq] at h_) <;> (try (exfalso; first | omega | exact absurd (Eq.trans (Eq.symm h_) (by assumption) : false = true) (by decide) | exact absurd (Eq.trans (Eq.symm h_) (by assumption) : true = false) (by decide) | (refine absurd ?_ h_; focus assumption) | (refine absurd h_ ?_; focus assumption))) <;> (try simp only [h]))
      | (apply ia_slQ; (focus omega); (focus with_unfolding_all exact hz))
      | (apply ia_mslQ; (focus omega); (focus omega))
      | (refine ldI m W1.of (by omega) hom ?_)
      | (refine ldSE k hA1 (by omega) hk ?_)
      | (refine ldSE k2 hA1 (by omega) (by omega) ?_)
      | (apply callQ2 (hp := hor); (focus exact er_cl); (focus exact er_cl))
      | (refine stSE k hA1 (by omega) hk ?_)
      | (apply ia_slQ; (focus omega); (exact wd_))
      | (apply ia_mslQ; (focus omega); (exact wf_))
      | (apply ia_aslQ; (focus omega); (exact wd_))
      | (apply strAdd; (focus (first | omega | (simp only [wZ] <;> omega))))
      | (apply ldQ_whole)
      | (apply ldQ_sub; (exact wu_); (exact wu_); (focus ((try simp -implicitDefEqProofs only [wE, Nat.reduceAdd]); rfl)))
      | (apply ldQ_obj; (exact wd_); (exact wu_))
      | (apply ldQ_cell; (exact wu_))
      | (apply ldQ_one; (exact wu_))
      | (apply ld_ipQ; (exact wu_))
      | (apply stQ_whole; (exact wu_); (exact wu_))
      | (apply stQ_obj; (exact wf_); (exact wu_); (exact wu_); (focus (intro _; with_unfolding_all rfl)))
      | (apply stQ_one; (exact wu_); (exact wu_); (exact wu_))
      | (apply stQ_cell; (exact wu_); (exact wu_); (exact wu_); (exact wf_))
      | (apply mkQ_T; (exact wf_); (exact wf_); (focus (unfold maxLen; first | omega | (simp only [wZ] <;> omega))))
      | (apply mkQ_F; (exact wf_); (exact wf_); (focus (unfold maxLen; first | omega | (simp only [wZ] <;> omega))))
      | simp -implicitDefEqProofs (disch := omega) only [w64, if_neg]
     refine ⟨by ((try simp only [wN]) <;> omega), r + 1, by omega, ?_⟩; (repeat refine ⟨True.intro, ?_⟩)
     exact ⟨rfl, by omega, by ((try simp only [wN]) <;> omega), ⟨_, by ((try simp only [wM]); (repeat first | rw [if_pos trivial] | rw [if_pos rfl] | rw [if_neg (by omega)])), hC1.join hsd (fun y hy => Or.inl hy) (fun y j hy => by
      rcases hy with hy | ⟨e, hy⟩
      · exact Or.inl (Or.inl hy)
      · rw [htk] at hy
        rcases List.mem_append.1 hy with hy | hy
        · exact Or.inl (Or.inr ⟨e, hy⟩)
        · rw [List.mem_singleton] at hy
          have : j = m := by omega
          subst this
          exact Or.inr fun k' hk' _ v hv => by
           have : k' = k2 := by omega
           subst this; exact hv)⟩, fun j h => by ((try simp only [wM]); (repeat first | rw [if_pos trivial] | rw [if_pos rfl] | rw [if_neg (by omega)])); exact k3_3 j h⟩
 · have htk : (relF rl x).take r = relF rl x := List.take_of_length_le (by omega)
   rw [htk] at hC1
   repeat' with_reducible first
    | refine s_ ?_
    | refine s_ ?_
    | refine s_ ?_
    | simp -implicitDefEqProofs only [wS, wT, wU, wV, wW, wX, wY, wC, wF, wG, wL, wM, wN, seval, Int.cast_ofNat_Int, Int.reduceLT, Int.reduceLE, Int.reduceEq, Int.reduceToNat, decide_true, decide_false, Bool.false_eq_true, g0, g1, g5, g6, g7, g29, g30, g31, g36, g37, g38, g62, g63, g64]
    | (refine condQ_j (fun h h_ => ?_) (fun h h_ => ?_) <;> (try simp only [wD, reduceCtorEq] at h_) <;> (try (exfalso; first | omega | exact absurd (Eq.trans (Eq.symm h_) (by assumption) : false = true) (by decide) | exact absurd (Eq.trans (Eq.symm h_) (by assumption) : true = false) (by decide) | (refine absurd ?_ h_; focus assumption) | (refine absurd h_ ?_; focus assumption))) <;> (try simp only [h]))
    | ((first | refine gdQ_iT (fun h => ?_) (fun h => ?_) | refine gdQ_iF (fun h => ?_) (fun h => ?_)) <;> have h_ := h <;> (try simp only [wD, reduceCtorEq] at h_) <;> (try (exfalso; first | omega | exact absurd (Eq.trans (Eq.symm h_) (by assumption) : false = true) (by decide) | exact absurd (Eq.trans (Eq.symm h_) (by assumption) : true = false) (by decide) | (refine absurd ?_ h_; focus assumption) | (refine absurd h_ ?_; focus assumption))) <;> (try simp only [h]))
    | (apply ia_slQ; (focus omega); (exact wd_))
    | (apply ia_mslQ; (focus omega); (exact wf_))
    | (apply ia_aslQ; (focus omega); (exact wd_))
    | (apply strAdd; (focus (first | omega | (simp only [wZ] <;> omega))))
    | (apply ldQ_whole)
    | (apply ldQ_sub; (exact wu_); (exact wu_); (focus ((try simp -implicitDefEqProofs only [wE, Nat.reduceAdd]); rfl)))
    | (apply ldQ_obj; (exact wd_); (exact wu_))
    | (apply ldQ_cell; (exact wu_))
    | (apply ldQ_one; (exact wu_))
    | (apply ld_ipQ; (exact wu_))
    | (apply stQ_whole; (exact wu_); (exact wu_))
    | (apply stQ_obj; (exact wf_); (exact wu_); (exact wu_); (focus (intro _; with_unfolding_all rfl)))
    | (apply stQ_one; (exact wu_); (exact wu_); (exact wu_))
    | (apply stQ_cell; (exact wu_); (exact wu_); (exact wu_); (exact wf_))
    | (apply mkQ_T; (exact wf_); (exact wf_); (focus (unfold maxLen; first | omega | (simp only [wZ] <;> omega))))
    | (apply mkQ_F; (exact wf_); (exact wf_); (focus (unfold maxLen; first | omega | (simp only [wZ] <;> omega))))
    | simp -implicitDefEqProofs (disch := omega) only [w64, if_neg]
   refine hQ _ A1 ?_ ?_ ?_ ?_ ?_ ?_ ?_ ?_ ?_ ?_ ?_ ?_ ?_ (hC1.weak (fun _ h => h) (fun y j h => ?_)) ?_
   · (simp -implicitDefEqProofs only [wL, seval, g0])
   · (simp -implicitDefEqProofs only [wL, seval, g1])
   · (simp -implicitDefEqProofs only [wL, seval, g5])
   · (simp -implicitDefEqProofs only [wL, seval, g6])
   · (simp -implicitDefEqProofs only [wL, seval, g7])
   · (simp -implicitDefEqProofs only [wL, seval, g29])
   · (simp -implicitDefEqProofs only [wL, seval, g30])
   · (simp -implicitDefEqProofs only [wL, seval, g31])
   · (simp -implicitDefEqProofs only [wL, seval, g36])
   · (simp -implicitDefEqProofs only [wL, seval, g37])
   · (simp -implicitDefEqProofs only [wL, seval, g38])
   · ((try simp only [wN]) <;> omega)
   · ((try simp only [wM]); (repeat first | rw [if_pos trivial] | rw [if_pos rfl] | rw [if_neg (by omega)])); exact hA1
   · rcases h with ⟨h | h, h2⟩
     · exact Or.inl ⟨h, h2⟩
     · subst h; exact Or.inr ⟨rfl, h2⟩
   · intro j h; ((try simp only [wM]); (repeat first | rw [if_pos trivial] | rw [if_pos rfl] | rw [if_neg (by omega)])); exact k3_3 j h
theorem graph_Close {rl sets : List (List Int)} (hl : rl.length ≤ 1000000) (hrk : ∀ l ∈ rl, l.length ≤ 1000000) (hsl : sets.length ≤ 1000000) (hsk : ∀ l ∈ sets, l.length ≤ 1000000) : Pure Tryd.prog 10 [.sl 1 false (rl.map intsV), .sl 1 false (sets.map intsV)] (.sl 1 false ((if 4000 < rl.length then [] else ofL rl.length (cloM (relF rl) rl.length (relF sets))).map intsV)) := by
 refine pure_intro Tryd.func10 e10_nm e10_ok (by show 2 ≤ 121; decide) ?_
 show ewp _ e10n79 _ _
 by_cases hbig : 4000 < rl.length
 · rw [if_pos hbig]
   repeat' with_reducible first
    | refine s_ ?_
    | refine s_ ?_
    | refine s_ ?_
    | simp -implicitDefEqProofs only [wS, wT, wU, wV, wW, wX, wY, wC, wF, wG, wL, wM, wN, seval, Int.cast_ofNat_Int, Int.reduceLT, Int.reduceLE, Int.reduceEq, Int.reduceToNat, decide_true, decide_false, Bool.false_eq_true]
    | (refine condQ_j (fun h h_ => ?_) (fun h h_ => ?_) <;> (try simp only [wD, reduceCtorEq] at h_) <;> (try (exfalso; first | omega | exact absurd (Eq.trans (Eq.symm h_) (by assumption) : false = true) (by decide) | exact absurd (Eq.trans (Eq.symm h_) (by assumption) : true = false) (by decide) | (refine absurd ?_ h_; focus assumption) | (refine absurd h_ ?_; focus assumption))) <;> (try simp only [h]))
    | ((first | refine gdQ_iT (fun h => ?_) (fun h => ?_) | refine gdQ_iF (fun h => ?_) (fun h => ?_)) <;> have h_ := h <;> (try simp only [wD, reduceCtorEq] at h_) <;> (try (exfalso; first | omega | exact absurd (Eq.trans (Eq.symm h_) (by assumption) : false = true) (by decide) | exact absurd (Eq.trans (Eq.symm h_) (by assumption) : true = false) (by decide) | (refine absurd ?_ h_; focus assumption) | (refine absurd h_ ?_; focus assumption))) <;> (try simp only [h]))
    | (apply ia_slQ; (focus omega); (exact wd_))
    | (apply ia_mslQ; (focus omega); (exact wf_))
    | (apply ia_aslQ; (focus omega); (exact wd_))
    | (apply strAdd; (focus (first | omega | (simp only [wZ] <;> omega))))
    | (apply ldQ_whole)
    | (apply ldQ_sub; (exact wu_); (exact wu_); (focus ((try simp -implicitDefEqProofs only [wE, Nat.reduceAdd]); rfl)))
    | (apply ldQ_obj; (exact wd_); (exact wu_))
    | (apply ldQ_cell; (exact wu_))
    | (apply ldQ_one; (exact wu_))
    | (apply ld_ipQ; (exact wu_))
    | (apply stQ_whole; (exact wu_); (exact wu_))
    | (apply stQ_obj; (exact wf_); (exact wu_); (exact wu_); (focus (intro _; with_unfolding_all rfl)))
    | (apply stQ_one; (exact wu_); (exact wu_); (exact wu_))
    | (apply stQ_cell; (exact wu_); (exact wu_); (exact wu_); (exact wf_))
    | (apply mkQ_T; (exact wf_); (exact wf_); (focus (unfold maxLen; first | omega | (simp only [wZ] <;> omega))))
    | (apply mkQ_F; (exact wf_); (exact wf_); (focus (unfold maxLen; first | omega | (simp only [wZ] <;> omega))))
    | simp -implicitDefEqProofs (disch := omega) only [w64, if_neg]
   refine post1 rfl (Or.inr rfl) ?_
   simp -implicitDefEqProofs only [wL, seval]
   first | refine er_bool ?_ | refine er_int ?_ | refine er_str ?_ | refine er_sl_eq ?_ | refine er_asl_eq ?_
   try (with_reducible rfl)
 · rw [if_neg hbig]
   obtain ⟨n, hrl⟩ : ∃ n, n = rl.length := ⟨_, rfl⟩
   have hrl := hrl.symm
   rw [hrl] at hbig hl ⊢
   repeat' with_reducible first
    | refine s_ ?_
    | refine s_ ?_
    | refine s_ ?_
    | simp -implicitDefEqProofs only [wS, wT, wU, wV, wW, wX, wY, wC, wF, wG, wL, wM, wN, seval, Int.cast_ofNat_Int, Int.reduceLT, Int.reduceLE, Int.reduceEq, Int.reduceToNat, decide_true, decide_false, Bool.false_eq_true, hrl]
    | (refine condQ_j (fun h h_ => ?_) (fun h h_ => ?_) <;> (try simp only [wD, reduceCtorEq] at h_) <;> (try (exfalso; first | omega | exact absurd (Eq.trans (Eq.symm h_) (by assumption) : false = true) (by decide) | exact absurd (Eq.trans (Eq.symm h_) (by assumption) : true = false) (by decide) | (refine absurd ?_ h_; focus assumption) | (refine absurd h_ ?_; focus assumption))) <;> (try simp only [h]))
    | ((first | refine gdQ_iT (fun h => ?_) (fun h => ?_) | refine gdQ_iF (fun h => ?_) (fun h => ?_)) <;> have h_ := h <;> (try simp only [wD, reduceCtorEq] at h_) <;> (try (exfalso; first | omega | exact absurd (Eq.trans (Eq.symm h_) (by assumption) : false = true) (by decide) | exact absurd (Eq.trans (Eq.symm h_) (by assumption) : true = false) (by decide) | (refine absurd ?_ h_; focus assumption) | (refine absurd h_ ?_; focus assumption))) <;> (try simp only [h]))
    | (refine callQWc rfl rfl rfl ((walkC hl hrl hrk).mono ?_); rintro v1 H1 n1 ⟨wi, ni, li, oi, lo, rfl, hD, q2, ⟨sv, gv, gs, W⟩, q4⟩)
    | (apply ia_slQ; (focus omega); (exact wd_))
    | (apply ia_mslQ; (focus omega); (exact wf_))
    | (apply ia_aslQ; (focus omega); (exact wd_))
    | (apply strAdd; (focus (first | omega | (simp only [wZ] <;> omega))))
    | (apply ldQ_whole)
    | (apply ldQ_sub; (exact wu_); (exact wu_); (focus ((try simp -implicitDefEqProofs only [wE, Nat.reduceAdd]); rfl)))
    | (apply ldQ_obj; (exact wd_); (exact wu_))
    | (apply ldQ_cell; (exact wu_))
    | (apply ldQ_one; (exact wu_))
    | (apply ld_ipQ; (exact wu_))
    | (apply stQ_whole; (exact wu_); (exact wu_))
    | (apply stQ_obj; (exact wf_); (exact wu_); (exact wu_); (focus (intro _; with_unfolding_all rfl)))
    | (apply stQ_one; (exact wu_); (exact wu_); (exact wu_))
    | (apply stQ_cell; (exact wu_); (exact wu_); (exact wu_); (exact wf_))
    | (apply mkQ_T; (exact wf_); (exact wf_); (focus (unfold maxLen; first | omega | (simp only [wZ] <;> omega))))
    | (apply mkQ_F; (exact wf_); (exact wf_); (focus (unfold maxLen; first | omega | (simp only [wZ] <;> omega))))
    | simp -implicitDefEqProofs (disch := omega) only [w64, if_neg]
   obtain ⟨hI, hst, hof⟩ := tar_ok (relF rl) n
   generalize ht : tarT (relF rl) n = t at *
   have hgn := grp_len hI
   have hln : lenI gv = some (vi (t.groups.length : Int)) := by rw [W.gr.len, W.ga.ln]
   have hs0 := sets0 t.groups.length
   have hwl : lo ≤ n1 := W.nx
   obtain ⟨b1, b2, b3, b4⟩ := hD.b
   repeat' with_reducible first
    | refine s_ ?_
    | refine s_ ?_
    | refine s_ ?_
    | simp -implicitDefEqProofs only [wS, wT, wU, wV, wW, wX, wY, wC, wF, wG, wL, wM, wN, seval, Int.cast_ofNat_Int, Int.reduceLT, Int.reduceLE, Int.reduceEq, Int.reduceToNat, decide_true, decide_false, Bool.false_eq_true, W.w, hln]
    | (refine condQ_j (fun h h_ => ?_) (fun h h_ => ?_) <;> (try simp only [wD, reduceCtorEq] at h_) <;> (try (exfalso; first | omega | exact absurd (Eq.trans (Eq.symm h_) (by assumption) : false = true) (by decide) | exact absurd (Eq.trans (Eq.symm h_) (by assumption) : true = false) (by decide) | (refine absurd ?_ h_; focus assumption) | (refine absurd h_ ?_; focus assumption))) <;> (try simp only [h]))
    | ((first | refine gdQ_iT (fun h => ?_) (fun h => ?_) | refine gdQ_iF (fun h => ?_) (fun h => ?_)) <;> have h_ := h <;> (try simp only [wD, reduceCtorEq] at h_) <;> (try (exfalso; first | omega | exact absurd (Eq.trans (Eq.symm h_) (by assumption) : false = true) (by decide) | exact absurd (Eq.trans (Eq.symm h_) (by assumption) : true = false) (by decide) | (refine absurd ?_ h_; focus assumption) | (refine absurd h_ ?_; focus assumption))) <;> (try simp only [h]))
    | (apply ia_slQ; (focus omega); (exact wd_))
    | (apply ia_mslQ; (focus omega); (exact wf_))
    | (apply ia_aslQ; (focus omega); (exact wd_))
    | (apply strAdd; (focus (first | omega | (simp only [wZ] <;> omega))))
    | (apply ldQ_whole)
    | (apply ldQ_sub; (exact wu_); (exact wu_); (focus ((try simp -implicitDefEqProofs only [wE, Nat.reduceAdd]); rfl)))
    | (apply ldQ_obj; (exact wd_); (exact wu_))
    | (apply ldQ_cell; (exact wu_))
    | (apply ldQ_one; (exact wu_))
    | (apply ld_ipQ; (exact wu_))
    | (apply stQ_whole; (exact wu_); (exact wu_))
    | (apply stQ_obj; (exact wf_); (exact wu_); (exact wu_); (focus (intro _; with_unfolding_all rfl)))
    | (apply stQ_one; (exact wu_); (exact wu_); (exact wu_))
    | (apply stQ_cell; (exact wu_); (exact wu_); (exact wu_); (exact wf_))
    | (apply mkQ_T; (exact wf_); (exact wf_); (focus (unfold maxLen; first | omega | (simp only [wZ] <;> omega))))
    | (apply mkQ_F; (exact wf_); (exact wf_); (focus (unfold maxLen; first | omega | (simp only [wZ] <;> omega))))
    | simp -implicitDefEqProofs (disch := omega) only [w64, if_neg]
   rw [hs0]
   refine ewp_loopN ?nx1 (fun (k : Nat) s => s.f 0 = ?v1_0 ∧ s.f 1 = ?v1_1 ∧ s.f 5 = ?v1_5 ∧ s.f 6 = ?v1_6 ∧ s.f 29 = ?v1_29 ∧ s.f 30 = ?v1_30 ∧ s.f 31 = vi k ∧ (k ≤ t.groups.length) ∧ ((∃ A, s.H (n1 + 5) = some (.own 16 (setsC t.groups.length A) false) ∧ CloI (relF rl) n t.of (relF sets) A k (fun _ => False) (fun _ _ => False))) ∧ ((∀ j, j < n1 → s.H j = H1 j))) (fun k => t.groups.length - k) (0) wj_ (by refine ⟨?_, ?_, ?_, ?_, ?_, ?_, ?_, (by first | omega | (simp; done) | assumption), (by (exact ⟨fun _ _ => false, by ((try simp only [wM]); (repeat first | rw [if_pos trivial] | rw [if_pos rfl] | rw [if_neg (by omega)])), CloI.start _ _ _ _⟩)), (by (intro j h; ((try simp only [wM]); (repeat first | rw [if_pos trivial] | rw [if_pos rfl] | rw [if_neg (by omega)]))))⟩ <;> first | (simp -implicitDefEqProofs only [wL, wM, wN, wX, seval, Option.some.injEq] <;> exact wt_) | rfl | exact ⟨_, rfl⟩) ?_
   intro k s hnx ⟨g0, g1, g5, g6, g29, g30, g31, k1_0, k1_1, k1_2⟩
   have W1 := W.mono (H' := s.H) (n' := n1) hD (Nat.le_refl _) k1_2
   obtain ⟨A, hA, hC⟩ := k1_1
   by_cases hk : k < t.groups.length
   · rcases W1.gr with ⟨h0, _⟩ | ⟨gid, rfl, hgH, hg1, hg2⟩
     · have := W1.ga.ln; rw [h0] at this; simp at this; omega
     obtain ⟨l, hlk⟩ : ∃ l, t.groups[k]? = some l := ⟨_, List.getElem?_eq_getElem hk⟩
     obtain ⟨id, hgs, hid, hi1, hi2, _, _⟩ := W1.ga.pl k l hlk
     obtain ⟨hl0, hlr, hlm⟩ := hI.grp k l hlk
     have hgl := W1.ga.ln
     have hid1 : H1 id = some (.own 1 (ivs (natI l)) false) := (k1_2 id hi2).symm.trans hid
     have hln2 : l.length ≤ n := nodup_len (hlr.imp fun h => by omega) (fun x hx => of_lt hI (by rw [(hlm x).1 hx]; omega))
     repeat' with_reducible first
      | refine s_ ?_
      | refine s_ ?_
      | refine s_ ?_
      | simp -implicitDefEqProofs only [wS, wT, wU, wV, wW, wX, wY, wC, wF, wG, wL, wM, wN, seval, Int.cast_ofNat_Int, Int.reduceLT, Int.reduceLE, Int.reduceEq, Int.reduceToNat, decide_true, decide_false, Bool.false_eq_true, g0, g1, g5, g6, g29, g30, g31]
      | (refine condQ_j (fun h h_ => ?_) (fun h h_ => ?_) <;> (try simp only [wD, reduceCtorEq] at h_) <;> (try (exfalso; first | omega | exact absurd (Eq.trans (Eq.symm h_) (by assumption) : false = true) (by decide) | exact absurd (Eq.trans (Eq.symm h_) (by assumption) : true = false) (by decide) | (refine absurd ?_ h_; focus assumption) | (refine absurd h_ ?_; focus assumption))) <;> (try simp only [h]))
      | ((first | refine gdQ_iT (fun h => ?_) (fun h => ?_) | refine gdQ_iF (fun h => ?_) (fun h => ?_)) <;> have h_ := h <;> (try simp only [wD, reduceCtorEq] at h_) <;> (try (exfalso; first | omega | exact absurd (Eq.trans (Eq.symm h_) (by assumption) : false = true) (by decide) | exact absurd (Eq.trans (Eq.symm h_) (by assumption) : true = false) (by decide) | (refine absurd ?_ h_; focus assumption) | (refine absurd h_ ?_; focus assumption))) <;> (try simp only [h]))
      | (apply ia_mslQ; (focus omega); (focus omega))
      | (refine ldG k hgH (by omega) hgs rfl ?_)
      | (apply ia_slQ; (focus omega); (exact wd_))
      | (apply ia_mslQ; (focus omega); (exact wf_))
      | (apply ia_aslQ; (focus omega); (exact wd_))
      | (apply strAdd; (focus (first | omega | (simp only [wZ] <;> omega))))
      | (apply ldQ_whole)
      | (apply ldQ_sub; (exact wu_); (exact wu_); (focus ((try simp -implicitDefEqProofs only [wE, Nat.reduceAdd]); rfl)))
      | (apply ldQ_obj; (exact wd_); (exact wu_))
      | (apply ldQ_cell; (exact wu_))
      | (apply ldQ_one; (exact wu_))
      | (apply ld_ipQ; (exact wu_))
      | (apply stQ_whole; (exact wu_); (exact wu_))
      | (apply stQ_obj; (exact wf_); (exact wu_); (exact wu_); (focus (intro _; with_unfolding_all rfl)))
      | (apply stQ_one; (exact wu_); (exact wu_); (exact wu_))
      | (apply stQ_cell; (exact wu_); (exact wu_); (exact wu_); (exact wf_))
      | (apply mkQ_T; (exact wf_); (exact wf_); (focus (unfold maxLen; first | omega | (simp only [wZ] <;> omega))))
      | (apply mkQ_F; (exact wf_); (exact wf_); (focus (unfold maxLen; first | omega | (simp only [wZ] <;> omega))))
      | simp -implicitDefEqProofs (disch := omega) only [w64, if_neg]
     refine ewp_loopN ?nx2 (fun (p : Nat) s => s.f 0 = ?v2_0 ∧ s.f 1 = ?v2_1 ∧ s.f 5 = ?v2_5 ∧ s.f 6 = ?v2_6 ∧ s.f 7 = ?v2_7 ∧ s.f 29 = ?v2_29 ∧ s.f 30 = ?v2_30 ∧ s.f 31 = ?v2_31 ∧ s.f 36 = ?v2_36 ∧ s.f 37 = ?v2_37 ∧ s.f 38 = vi p ∧ (p ≤ l.length) ∧ ((∃ A, s.H (n1 + 5) = some (.own 16 (setsC t.groups.length A) false) ∧ CloI (relF rl) n t.of (relF sets) A k (fun x => x ∈ l.take p) (fun x j => x ∈ l.take p ∧ (j : Int) ∈ relF rl x))) ∧ ((∀ j, j < n1 → s.H j = H1 j))) (fun p => l.length - p) (0) wj_ (by refine ⟨?_, ?_, ?_, ?_, ?_, ?_, ?_, ?_, ?_, ?_, ?_, (by first | omega | (simp; done) | assumption), (by (exact ⟨A, by ((try simp only [wM]); (repeat first | rw [if_pos trivial] | rw [if_pos rfl] | rw [if_neg (by omega)])); exact hA, hC.weak (fun x h => by simp at h) (fun x j h => by simp at h)⟩)), (by (intro j h; ((try simp only [wM]); (repeat first | rw [if_pos trivial] | rw [if_pos rfl] | rw [if_neg (by omega)])); exact k1_2 j h))⟩ <;> first | (simp -implicitDefEqProofs only [wL, wM, wN, wX, seval, Option.some.injEq, g0, g1, g5, g6, g29, g30, g31] <;> exact wt_) | rfl | exact ⟨_, rfl⟩) ?_
     intro p s hnx ⟨g0, g1, g5, g6, g7, g29, g30, g31, g36, g37, g38, k2_0, k2_1, k2_2⟩
     obtain ⟨A2, hA2, hC2⟩ := k2_1
     by_cases hp : p < l.length
     · obtain ⟨x, hlx⟩ : ∃ x, l[p]? = some x := ⟨_, List.getElem?_eq_getElem hp⟩
       have htk : l.take (p + 1) = l.take p ++ [x] := by rw [List.take_add_one, hlx]; rfl
       have hxk : t.of x = (k : Int) := (hlm x).1 (List.mem_of_getElem? hlx)
       have hxn : x < n := of_lt hI (by omega)
       have oid : s.H id = some (.own 1 (ivs (natI l)) false) := (k2_2 id hi2).trans hid1
       show ewp Tryd.prog (.seq (.reg e10r13) (.seq e10n14 (.seq (.block 3 (.seq (.reg e10r15) (.seq e10n19 e10n36))) (.reg e10r40)))) _ _
       generalize hE36 : e10n36 = E36
       by_cases hxs : x < sets.length
       · have hsx : sets[x]? = some (relF sets x) := by unfold relF; rw [List.getD_eq_getElem?_getD, List.getElem?_eq_getElem hxs]; rfl
         have hof := bits_Of (l := relF sets x) (by have := hsk _ (List.mem_of_getElem? hsx); omega)
         have hor := bits_Or (a := A2 k) (b := memS (relF sets x))
         repeat' with_reducible first
          | refine s_ ?_
          | refine s_ ?_
          | refine s_ ?_
          | simp -implicitDefEqProofs only [wS, wT, wU, wV, wW, wX, wY, wC, wF, wG, wL, wM, wN, seval, Int.cast_ofNat_Int, Int.reduceLT, Int.reduceLE, Int.reduceEq, Int.reduceToNat, decide_true, decide_false, Bool.false_eq_true, g0, g1, g5, g6, g7, g29, g30, g31, g36, g37, g38]
          | (refine condQ_j (fun h h_ => ?_) (fun h h_ => ?_) <;> (try simp only [wD, reduceCtorEq] at h_) <;> (try (exfalso; first | omega | exact absurd (Eq.trans (Eq.symm h_) (by assumption) : false = true) (by decide) | exact absurd (Eq.trans (Eq.symm h_) (by assumption) : true = false) (by decide) | (refine absurd ?_ h_; focus assumption) | (refine absurd h_ ?_; focus assumption))) <;> (try simp only [h]))
          | ((first | refine gdQ_iT (fun h => ?_) (fun h => ?_) | refine gdQ_iF (fun h => ?_) (fun h => ?_)) <;> have h_ := h <;> (try simp only [wD, reduceCtorEq] at h_) <;> (try (exfalso; first | omega | exact absurd (Eq.trans (Eq.symm h_) (by assumption) : false = true) (by decide) | exact absurd (Eq.trans (Eq.symm h_) (by assumption) : true = false) (by decide) | (refine absurd ?_ h_; focus assumption) | (refine absurd h_ ?_; focus assumption))) <;> (try simp only [h]))
          | (apply ia_mslQ; (focus omega); (focus omega))
          | (refine ldI p oid (by omega) (natI_get hlx) ?_)
          | (refine ldSE k hA2 (by omega) hk ?_)
          | (apply ia_slQ; (focus omega); (focus with_unfolding_all exact hsx))
          | (apply callQ1 (hp := hof); (focus exact er_cl))
          | (apply callQ2 (hp := hor); (focus exact er_cl); (focus exact er_cl))
          | (refine stSE k hA2 (by omega) hk ?_)
          | (apply ia_slQ; (focus omega); (exact wd_))
          | (apply ia_mslQ; (focus omega); (exact wf_))
          | (apply ia_aslQ; (focus omega); (exact wd_))
          | (apply strAdd; (focus (first | omega | (simp only [wZ] <;> omega))))
          | (apply ldQ_whole)
          | (apply ldQ_sub; (exact wu_); (exact wu_); (focus ((try simp -implicitDefEqProofs only [wE, Nat.reduceAdd]); rfl)))
          | (apply ldQ_obj; (exact wd_); (exact wu_))
          | (apply ldQ_cell; (exact wu_))
          | (apply ldQ_one; (exact wu_))
          | (apply ld_ipQ; (exact wu_))
          | (apply stQ_whole; (exact wu_); (exact wu_))
          | (apply stQ_obj; (exact wf_); (exact wu_); (exact wu_); (focus (intro _; with_unfolding_all rfl)))
          | (apply stQ_one; (exact wu_); (exact wu_); (exact wu_))
          | (apply stQ_cell; (exact wu_); (exact wu_); (exact wu_); (exact wf_))
          | (apply mkQ_T; (exact wf_); (exact wf_); (focus (unfold maxLen; first | omega | (simp only [wZ] <;> omega))))
          | (apply mkQ_F; (exact wf_); (exact wf_); (focus (unfold maxLen; first | omega | (simp only [wZ] <;> omega))))
          | simp -implicitDefEqProofs (disch := omega) only [w64, if_neg]
         have hC5 : CloI (relF rl) n t.of (relF sets) (updA A2 k (fun y => A2 k y || memS (relF sets x) y)) k (fun y => y ∈ l.take p ∨ y = x) (fun y j => y ∈ l.take p ∧ (j : Int) ∈ relF rl y) := hC2.join (fun v hv => ⟨x, x, hxk, .refl _, hv⟩) (fun y hy => by
          rcases hy with hy | rfl
          · exact Or.inl hy
          · exact Or.inr fun v hv => hv) (fun y j h => Or.inl h)
         subst hE36
         refine cloE (n1 := n1) (ng := t.groups.length) (A := updA A2 k (fun y => A2 k y || memS (relF sets x) y)) (L := fun y => y ∈ l.take p) (t := t) (k := k) (x := x) (by (simp -implicitDefEqProofs only [wL, seval, g0])) (by (simp -implicitDefEqProofs only [wL, seval, g5])) (by (simp -implicitDefEqProofs only [wL, seval, g6])) (by (simp -implicitDefEqProofs only [wL, seval, g7])) (by (simp -implicitDefEqProofs only [wL, seval])) hrl hl hrk hD (W.mono hD (Nat.le_refl _) (fun j h => by ((try simp only [wM]); (repeat first | rw [if_pos trivial] | rw [if_pos rfl] | rw [if_neg (by omega)])); exact k2_2 j h)) (by ((try simp only [wN]) <;> omega)) (by ((try simp only [wM]); (repeat first | rw [if_pos trivial] | rw [if_pos rfl] | rw [if_neg (by omega)])); (try exact hA2)) hC5 hI hxk hxn hk (fun s2 A3 h0 h1 h5 h6 h7 h29 h30 h31 h36 h37 h38 hn2 hA3 hC3 hH3 => ?_)
         have e0 : s2.f 0 = .sl 1 false (rl.map intsV) := h0.trans (by (simp -implicitDefEqProofs only [wL, seval, g0]))
         have e1 : s2.f 1 = .sl 1 false (sets.map intsV) := h1.trans (by (simp -implicitDefEqProofs only [wL, seval, g1]))
         have e5 : s2.f 5 = .ptr wi 0 0 := h5.trans (by (simp -implicitDefEqProofs only [wL, seval, g5]))
         have e6 : s2.f 6 = .msl (n1 + 5) 16 0 t.groups.length := h6.trans (by (simp -implicitDefEqProofs only [wL, seval, g6]))
         have e7 : s2.f 7 = vi (k : Int) := h7.trans (by (simp -implicitDefEqProofs only [wL, seval, g7]))
         have e29 : s2.f 29 = .msl gid 1 0 gs.length := h29.trans (by (simp -implicitDefEqProofs only [wL, seval, g29]))
         have e30 : s2.f 30 = vi (t.groups.length : Int) := h30.trans (by (simp -implicitDefEqProofs only [wL, seval, g30]))
         have e31 : s2.f 31 = vi (k : Int) := h31.trans (by (simp -implicitDefEqProofs only [wL, seval, g31]))
         have e36 : s2.f 36 = .msl id 1 0 l.length := h36.trans (by (simp -implicitDefEqProofs only [wL, seval, g36]))
         have e37 : s2.f 37 = .int .i64 (l.length : Int) := h37.trans (by (simp -implicitDefEqProofs only [wL, seval, g37]))
         have e38 : s2.f 38 = vi (p : Int) := h38.trans (by (simp -implicitDefEqProofs only [wL, seval, g38]))
         (try simp only [wN] at hn2)
         have hH4 : ∀ j, j < n1 → s2.H j = H1 j := fun j h => (hH3 j h).trans (by ((try simp only [wM]); (repeat first | rw [if_pos trivial] | rw [if_pos rfl] | rw [if_neg (by omega)])); exact k2_2 j h)
         repeat' with_reducible first
          | refine s_ ?_
          | refine s_ ?_
          | refine s_ ?_
          | simp -implicitDefEqProofs only [wS, wT, wU, wV, wW, wX, wY, wC, wF, wG, wL, wM, wN, seval, Int.cast_ofNat_Int, Int.reduceLT, Int.reduceLE, Int.reduceEq, Int.reduceToNat, decide_true, decide_false, Bool.false_eq_true, g0, g1, g5, g6, g7, g29, g30, g31, g36, g37, g38, e38]
          | (refine condQ_j (fun h h_ => ?_) (fun h h_ => ?_) <;> (try simp only [wD, reduceCtorEq] at h_) <;> (try (exfalso; first | omega | exact absurd (Eq.trans (Eq.symm h_) (by assumption) : false = true) (by decide) | exact absurd (Eq.trans (Eq.symm h_) (by assumption) : true = false) (by decide) | (refine absurd ?_ h_; focus assumption) | (refine absurd h_ ?_; focus assumption))) <;> (try simp only [h]))
          | ((first | refine gdQ_iT (fun h => ?_) (fun h => ?_) | refine gdQ_iF (fun h => ?_) (fun h => ?_)) <;> have h_ := h <;> (try simp only [wD, reduceCtorEq] at h_) <;> (try (exfalso; first | omega | exact absurd (Eq.trans (Eq.symm h_) (by assumption) : false = true) (by decide) | exact absurd (Eq.trans (Eq.symm h_) (by assumption) : true = false) (by decide) | (refine absurd ?_ h_; focus assumption) | (refine absurd h_ ?_; focus assumption))) <;> (try simp only [h]))
          | (apply ia_slQ; (focus omega); (exact wd_))
          | (apply ia_mslQ; (focus omega); (exact wf_))
          | (apply ia_aslQ; (focus omega); (exact wd_))
          | (apply strAdd; (focus (first | omega | (simp only [wZ] <;> omega))))
          | (apply ldQ_whole)
          | (apply ldQ_sub; (exact wu_); (exact wu_); (focus ((try simp -implicitDefEqProofs only [wE, Nat.reduceAdd]); rfl)))
          | (apply ldQ_obj; (exact wd_); (exact wu_))
          | (apply ldQ_cell; (exact wu_))
          | (apply ldQ_one; (exact wu_))
          | (apply ld_ipQ; (exact wu_))
          | (apply stQ_whole; (exact wu_); (exact wu_))
          | (apply stQ_obj; (exact wf_); (exact wu_); (exact wu_); (focus (intro _; with_unfolding_all rfl)))
          | (apply stQ_one; (exact wu_); (exact wu_); (exact wu_))
          | (apply stQ_cell; (exact wu_); (exact wu_); (exact wu_); (exact wf_))
          | (apply mkQ_T; (exact wf_); (exact wf_); (focus (unfold maxLen; first | omega | (simp only [wZ] <;> omega))))
          | (apply mkQ_F; (exact wf_); (exact wf_); (focus (unfold maxLen; first | omega | (simp only [wZ] <;> omega))))
          | simp -implicitDefEqProofs (disch := omega) only [w64, if_neg]
         refine ⟨by ((try simp only [wN]) <;> omega), p + 1, by omega, ?_⟩
         refine ⟨(by (simp -implicitDefEqProofs only [wL, seval, e0])), (by (simp -implicitDefEqProofs only [wL, seval, e1])), (by (simp -implicitDefEqProofs only [wL, seval, e5])), (by (simp -implicitDefEqProofs only [wL, seval, e6])), (by (simp -implicitDefEqProofs only [wL, seval, e7])), (by (simp -implicitDefEqProofs only [wL, seval, e29])), (by (simp -implicitDefEqProofs only [wL, seval, e30])), (by (simp -implicitDefEqProofs only [wL, seval, e31])), (by (simp -implicitDefEqProofs only [wL, seval, e36])), (by (simp -implicitDefEqProofs only [wL, seval, e37])), rfl, by omega, ⟨A3, by ((try simp only [wM]); (repeat first | rw [if_pos trivial] | rw [if_pos rfl] | rw [if_neg (by omega)])); exact hA3, hC3.weak (fun y h => ?_) (fun y j h => ?_)⟩, fun j h => by ((try simp only [wM]); (repeat first | rw [if_pos trivial] | rw [if_pos rfl] | rw [if_neg (by omega)])); exact hH4 j h⟩
         · rw [htk] at h
           rcases List.mem_append.1 h with h | h
           · exact Or.inl h
           · exact Or.inr (List.mem_singleton.1 h)
         · rw [htk] at h
           rcases List.mem_append.1 h.1 with h1 | h1
           · exact ⟨Or.inl h1, h.2⟩
           · exact ⟨Or.inr (List.mem_singleton.1 h1), h.2⟩
       · have hsx : relF sets x = [] := by unfold relF; rw [List.getD_eq_getElem?_getD, List.getElem?_eq_none (by omega)]; rfl
         repeat' with_reducible first
          | refine s_ ?_
          | refine s_ ?_
          | refine s_ ?_
          | simp -implicitDefEqProofs only [wS, wT, wU, wV, wW, wX, wY, wC, wF, wG, wL, wM, wN, seval, Int.cast_ofNat_Int, Int.reduceLT, Int.reduceLE, Int.reduceEq, Int.reduceToNat, decide_true, decide_false, Bool.false_eq_true, g0, g1, g5, g6, g7, g29, g30, g31, g36, g37, g38]
          | (refine condQ_j (fun h h_ => ?_) (fun h h_ => ?_) <;> (try simp only [wD, reduceCtorEq] at h_) <;> (try (exfalso; first | omega | exact absurd (Eq.trans (Eq.symm h_) (by assumption) : false = true) (by decide) | exact absurd (Eq.trans (Eq.symm h_) (by assumption) : true = false) (by decide) | (refine absurd ?_ h_; focus assumption) | (refine absurd h_ ?_; focus assumption))) <;> (try simp only [h]))
          | ((first | refine gdQ_iT (fun h => ?_) (fun h => ?_) | refine gdQ_iF (fun h => ?_) (fun h => ?_)) <;> have h_ := h <;> (try simp only [wD, reduceCtorEq] at h_) <;> (try (exfalso; first | omega | exact absurd (Eq.trans (Eq.symm h_) (by assumption) : false = true) (by decide) | exact absurd (Eq.trans (Eq.symm h_) (by assumption) : true = false) (by decide) | (refine absurd ?_ h_; focus assumption) | (refine absurd h_ ?_; focus assumption))) <;> (try simp only [h]))
          | (apply ia_mslQ; (focus omega); (focus omega))
          | (refine ldI p oid (by omega) (natI_get hlx) ?_)
          | (apply ia_slQ; (focus omega); (exact wd_))
          | (apply ia_mslQ; (focus omega); (exact wf_))
          | (apply ia_aslQ; (focus omega); (exact wd_))
          | (apply strAdd; (focus (first | omega | (simp only [wZ] <;> omega))))
          | (apply ldQ_whole)
          | (apply ldQ_sub; (exact wu_); (exact wu_); (focus ((try simp -implicitDefEqProofs only [wE, Nat.reduceAdd]); rfl)))
          | (apply ldQ_obj; (exact wd_); (exact wu_))
          | (apply ldQ_cell; (exact wu_))
          | (apply ldQ_one; (exact wu_))
          | (apply ld_ipQ; (exact wu_))
          | (apply stQ_whole; (exact wu_); (exact wu_))
          | (apply stQ_obj; (exact wf_); (exact wu_); (exact wu_); (focus (intro _; with_unfolding_all rfl)))
          | (apply stQ_one; (exact wu_); (exact wu_); (exact wu_))
          | (apply stQ_cell; (exact wu_); (exact wu_); (exact wu_); (exact wf_))
          | (apply mkQ_T; (exact wf_); (exact wf_); (focus (unfold maxLen; first | omega | (simp only [wZ] <;> omega))))
          | (apply mkQ_F; (exact wf_); (exact wf_); (focus (unfold maxLen; first | omega | (simp only [wZ] <;> omega))))
          | simp -implicitDefEqProofs (disch := omega) only [w64, if_neg]
         have hC5 : CloI (relF rl) n t.of (relF sets) A2 k (fun y => y ∈ l.take p ∨ y = x) (fun y j => y ∈ l.take p ∧ (j : Int) ∈ relF rl y) := ⟨hC2.lt, hC2.sd, fun y hy v hv => (by
          rcases hy with hy | rfl
          · exact hC2.d1 y hy v hv
          · obtain ⟨z, _, hz⟩ := hv
            rw [hsx, memS_nil] at hz; cases hz), hC2.d2, hC2.hi⟩
         subst hE36
         refine cloE (n1 := n1) (ng := t.groups.length) (A := A2) (L := fun y => y ∈ l.take p) (t := t) (k := k) (x := x) (by (simp -implicitDefEqProofs only [wL, seval, g0])) (by (simp -implicitDefEqProofs only [wL, seval, g5])) (by (simp -implicitDefEqProofs only [wL, seval, g6])) (by (simp -implicitDefEqProofs only [wL, seval, g7])) (by (simp -implicitDefEqProofs only [wL, seval])) hrl hl hrk hD (W.mono hD (Nat.le_refl _) (fun j h => by ((try simp only [wM]); (repeat first | rw [if_pos trivial] | rw [if_pos rfl] | rw [if_neg (by omega)])); exact k2_2 j h)) (by ((try simp only [wN]) <;> omega)) (by ((try simp only [wM]); (repeat first | rw [if_pos trivial] | rw [if_pos rfl] | rw [if_neg (by omega)])); (try exact hA2)) hC5 hI hxk hxn hk (fun s2 A3 h0 h1 h5 h6 h7 h29 h30 h31 h36 h37 h38 hn2 hA3 hC3 hH3 => ?_)
         have e0 : s2.f 0 = .sl 1 false (rl.map intsV) := h0.trans (by (simp -implicitDefEqProofs only [wL, seval, g0]))
         have e1 : s2.f 1 = .sl 1 false (sets.map intsV) := h1.trans (by (simp -implicitDefEqProofs only [wL, seval, g1]))
         have e5 : s2.f 5 = .ptr wi 0 0 := h5.trans (by (simp -implicitDefEqProofs only [wL, seval, g5]))
         have e6 : s2.f 6 = .msl (n1 + 5) 16 0 t.groups.length := h6.trans (by (simp -implicitDefEqProofs only [wL, seval, g6]))
         have e7 : s2.f 7 = vi (k : Int) := h7.trans (by (simp -implicitDefEqProofs only [wL, seval, g7]))
         have e29 : s2.f 29 = .msl gid 1 0 gs.length := h29.trans (by (simp -implicitDefEqProofs only [wL, seval, g29]))
         have e30 : s2.f 30 = vi (t.groups.length : Int) := h30.trans (by (simp -implicitDefEqProofs only [wL, seval, g30]))
         have e31 : s2.f 31 = vi (k : Int) := h31.trans (by (simp -implicitDefEqProofs only [wL, seval, g31]))
         have e36 : s2.f 36 = .msl id 1 0 l.length := h36.trans (by (simp -implicitDefEqProofs only [wL, seval, g36]))
         have e37 : s2.f 37 = .int .i64 (l.length : Int) := h37.trans (by (simp -implicitDefEqProofs only [wL, seval, g37]))
         have e38 : s2.f 38 = vi (p : Int) := h38.trans (by (simp -implicitDefEqProofs only [wL, seval, g38]))
         (try simp only [wN] at hn2)
         have hH4 : ∀ j, j < n1 → s2.H j = H1 j := fun j h => (hH3 j h).trans (by ((try simp only [wM]); (repeat first | rw [if_pos trivial] | rw [if_pos rfl] | rw [if_neg (by omega)])); exact k2_2 j h)
         repeat' with_reducible first
          | refine s_ ?_
          | refine s_ ?_
          | refine s_ ?_
          | simp -implicitDefEqProofs only [wS, wT, wU, wV, wW, wX, wY, wC, wF, wG, wL, wM, wN, seval, Int.cast_ofNat_Int, Int.reduceLT, Int.reduceLE, Int.reduceEq, Int.reduceToNat, decide_true, decide_false, Bool.false_eq_true, g0, g1, g5, g6, g7, g29, g30, g31, g36, g37, g38, e38]
          | (refine condQ_j (fun h h_ => ?_) (fun h h_ => ?_) <;> (try simp only [wD, reduceCtorEq] at h_) <;> (try (exfalso; first | omega | exact absurd (Eq.trans (Eq.symm h_) (by assumption) : false = true) (by decide) | exact absurd (Eq.trans (Eq.symm h_) (by assumption) : true = false) (by decide) | (refine absurd ?_ h_; focus assumption) | (refine absurd h_ ?_; focus assumption))) <;> (try simp only [h]))
          | ((first | refine gdQ_iT (fun h => ?_) (fun h => ?_) | refine gdQ_iF (fun h => ?_) (fun h => ?_)) <;> have h_ := h <;> (try simp only [wD, reduceCtorEq] at h_) <;> (try (exfalso; first | omega | exact absurd (Eq.trans (Eq.symm h_) (by assumption) : false = true) (by decide) | exact absurd (Eq.trans (Eq.symm h_) (by assumption) : true = false) (by decide) | (refine absurd ?_ h_; focus assumption) | (refine absurd h_ ?_; focus assumption))) <;> (try simp only [h]))
          | (apply ia_slQ; (focus omega); (exact wd_))
          | (apply ia_mslQ; (focus omega); (exact wf_))
          | (apply ia_aslQ; (focus omega); (exact wd_))
          | (apply strAdd; (focus (first | omega | (simp only [wZ] <;> omega))))
          | (apply ldQ_whole)
          | (apply ldQ_sub; (exact wu_); (exact wu_); (focus ((try simp -implicitDefEqProofs only [wE, Nat.reduceAdd]); rfl)))
          | (apply ldQ_obj; (exact wd_); (exact wu_))
          | (apply ldQ_cell; (exact wu_))
          | (apply ldQ_one; (exact wu_))
          | (apply ld_ipQ; (exact wu_))
          | (apply stQ_whole; (exact wu_); (exact wu_))
          | (apply stQ_obj; (exact wf_); (exact wu_); (exact wu_); (focus (intro _; with_unfolding_all rfl)))
          | (apply stQ_one; (exact wu_); (exact wu_); (exact wu_))
          | (apply stQ_cell; (exact wu_); (exact wu_); (exact wu_); (exact wf_))
          | (apply mkQ_T; (exact wf_); (exact wf_); (focus (unfold maxLen; first | omega | (simp only [wZ] <;> omega))))
          | (apply mkQ_F; (exact wf_); (exact wf_); (focus (unfold maxLen; first | omega | (simp only [wZ] <;> omega))))
          | simp -implicitDefEqProofs (disch := omega) only [w64, if_neg]
         refine ⟨by ((try simp only [wN]) <;> omega), p + 1, by omega, ?_⟩
         refine ⟨(by (simp -implicitDefEqProofs only [wL, seval, e0])), (by (simp -implicitDefEqProofs only [wL, seval, e1])), (by (simp -implicitDefEqProofs only [wL, seval, e5])), (by (simp -implicitDefEqProofs only [wL, seval, e6])), (by (simp -implicitDefEqProofs only [wL, seval, e7])), (by (simp -implicitDefEqProofs only [wL, seval, e29])), (by (simp -implicitDefEqProofs only [wL, seval, e30])), (by (simp -implicitDefEqProofs only [wL, seval, e31])), (by (simp -implicitDefEqProofs only [wL, seval, e36])), (by (simp -implicitDefEqProofs only [wL, seval, e37])), rfl, by omega, ⟨A3, by ((try simp only [wM]); (repeat first | rw [if_pos trivial] | rw [if_pos rfl] | rw [if_neg (by omega)])); exact hA3, hC3.weak (fun y h => ?_) (fun y j h => ?_)⟩, fun j h => by ((try simp only [wM]); (repeat first | rw [if_pos trivial] | rw [if_pos rfl] | rw [if_neg (by omega)])); exact hH4 j h⟩
         · rw [htk] at h
           rcases List.mem_append.1 h with h | h
           · exact Or.inl h
           · exact Or.inr (List.mem_singleton.1 h)
         · rw [htk] at h
           rcases List.mem_append.1 h.1 with h1 | h1
           · exact ⟨Or.inl h1, h.2⟩
           · exact ⟨Or.inr (List.mem_singleton.1 h1), h.2⟩
     · have htk : l.take p = l := List.take_of_length_le (by omega)
       rw [htk] at hC2
       have hC6 := hC2.next hI (fun y hy => (hlm y).2 hy) (fun y j hy hE => ⟨(hlm y).2 hy, hE.2.2⟩)
       repeat' with_reducible first
        | refine s_ ?_
        | refine s_ ?_
        | refine s_ ?_
        | simp -implicitDefEqProofs only [wS, wT, wU, wV, wW, wX, wY, wC, wF, wG, wL, wM, wN, seval, Int.cast_ofNat_Int, Int.reduceLT, Int.reduceLE, Int.reduceEq, Int.reduceToNat, decide_true, decide_false, Bool.false_eq_true, g0, g1, g5, g6, g7, g29, g30, g31, g36, g37, g38]
        | (refine condQ_j (fun h h_ => ?_) (fun h h_ => ?_) <;> (try simp only [wD, reduceCtorEq] at h_) <;> (try (exfalso; first | omega | exact absurd (Eq.trans (Eq.symm h_) (by assumption) : false = true) (by decide) | exact absurd (Eq.trans (Eq.symm h_) (by assumption) : true = false) (by decide) | (refine absurd ?_ h_; focus assumption) | (refine absurd h_ ?_; focus assumption))) <;> (try simp only [h]))
        | ((first | refine gdQ_iT (fun h => ?_) (fun h => ?_) | refine gdQ_iF (fun h => ?_) (fun h => ?_)) <;> have h_ := h <;> (try simp only [wD, reduceCtorEq] at h_) <;> (try (exfalso; first | omega | exact absurd (Eq.trans (Eq.symm h_) (by assumption) : false = true) (by decide) | exact absurd (Eq.trans (Eq.symm h_) (by assumption) : true = false) (by decide) | (refine absurd ?_ h_; focus assumption) | (refine absurd h_ ?_; focus assumption))) <;> (try simp only [h]))
        | (apply ia_slQ; (focus omega); (exact wd_))
        | (apply ia_mslQ; (focus omega); (exact wf_))
        | (apply ia_aslQ; (focus omega); (exact wd_))
        | (apply strAdd; (focus (first | omega | (simp only [wZ] <;> omega))))
        | (apply ldQ_whole)
        | (apply ldQ_sub; (exact wu_); (exact wu_); (focus ((try simp -implicitDefEqProofs only [wE, Nat.reduceAdd]); rfl)))
        | (apply ldQ_obj; (exact wd_); (exact wu_))
        | (apply ldQ_cell; (exact wu_))
        | (apply ldQ_one; (exact wu_))
        | (apply ld_ipQ; (exact wu_))
        | (apply stQ_whole; (exact wu_); (exact wu_))
        | (apply stQ_obj; (exact wf_); (exact wu_); (exact wu_); (focus (intro _; with_unfolding_all rfl)))
        | (apply stQ_one; (exact wu_); (exact wu_); (exact wu_))
        | (apply stQ_cell; (exact wu_); (exact wu_); (exact wu_); (exact wf_))
        | (apply mkQ_T; (exact wf_); (exact wf_); (focus (unfold maxLen; first | omega | (simp only [wZ] <;> omega))))
        | (apply mkQ_F; (exact wf_); (exact wf_); (focus (unfold maxLen; first | omega | (simp only [wZ] <;> omega))))
        | simp -implicitDefEqProofs (disch := omega) only [w64, if_neg]
       refine ⟨by ((try simp only [wN]) <;> omega), k + 1, by omega, ?_⟩; (repeat refine ⟨True.intro, ?_⟩)
       exact ⟨rfl, by omega, ⟨A2, by ((try simp only [wM]); (repeat first | rw [if_pos trivial] | rw [if_pos rfl] | rw [if_neg (by omega)])); exact hA2, hC6⟩, fun j h => by ((try simp only [wM]); (repeat first | rw [if_pos trivial] | rw [if_pos rfl] | rw [if_neg (by omega)])); exact k2_2 j h⟩
   · skip
     have hkg : k = t.groups.length := by omega
     rw [hkg] at hC
     have hl0 := lsC_0 n (cloM (relF rl) n (relF sets))
     repeat' with_reducible first
      | refine s_ ?_
      | refine s_ ?_
      | refine s_ ?_
      | simp -implicitDefEqProofs only [wS, wT, wU, wV, wW, wX, wY, wC, wF, wG, wL, wM, wN, seval, Int.cast_ofNat_Int, Int.reduceLT, Int.reduceLE, Int.reduceEq, Int.reduceToNat, decide_true, decide_false, Bool.false_eq_true, g0, g1, g5, g6, g29, g30, g31, hrl]
      | (refine condQ_j (fun h h_ => ?_) (fun h h_ => ?_) <;> (try simp only [wD, reduceCtorEq] at h_) <;> (try (exfalso; first | omega | exact absurd (Eq.trans (Eq.symm h_) (by assumption) : false = true) (by decide) | exact absurd (Eq.trans (Eq.symm h_) (by assumption) : true = false) (by decide) | (refine absurd ?_ h_; focus assumption) | (refine absurd h_ ?_; focus assumption))) <;> (try simp only [h]))
      | ((first | refine gdQ_iT (fun h => ?_) (fun h => ?_) | refine gdQ_iF (fun h => ?_) (fun h => ?_)) <;> have h_ := h <;> (try simp only [wD, reduceCtorEq] at h_) <;> (try (exfalso; first | omega | exact absurd (Eq.trans (Eq.symm h_) (by assumption) : false = true) (by decide) | exact absurd (Eq.trans (Eq.symm h_) (by assumption) : true = false) (by decide) | (refine absurd ?_ h_; focus assumption) | (refine absurd h_ ?_; focus assumption))) <;> (try simp only [h]))
      | (apply ia_slQ; (focus omega); (exact wd_))
      | (apply ia_mslQ; (focus omega); (exact wf_))
      | (apply ia_aslQ; (focus omega); (exact wd_))
      | (apply strAdd; (focus (first | omega | (simp only [wZ] <;> omega))))
      | (apply ldQ_whole)
      | (apply ldQ_sub; (exact wu_); (exact wu_); (focus ((try simp -implicitDefEqProofs only [wE, Nat.reduceAdd]); rfl)))
      | (apply ldQ_obj; (exact wd_); (exact wu_))
      | (apply ldQ_cell; (exact wu_))
      | (apply ldQ_one; (exact wu_))
      | (apply ld_ipQ; (exact wu_))
      | (apply stQ_whole; (exact wu_); (exact wu_))
      | (apply stQ_obj; (exact wf_); (exact wu_); (exact wu_); (focus (intro _; with_unfolding_all rfl)))
      | (apply stQ_one; (exact wu_); (exact wu_); (exact wu_))
      | (apply stQ_cell; (exact wu_); (exact wu_); (exact wu_); (exact wf_))
      | (apply mkQ_T; (exact wf_); (exact wf_); (focus (unfold maxLen; first | omega | (simp only [wZ] <;> omega))))
      | (apply mkQ_F; (exact wf_); (exact wf_); (focus (unfold maxLen; first | omega | (simp only [wZ] <;> omega))))
      | simp -implicitDefEqProofs (disch := omega) only [w64, if_neg]
     rw [hl0]
     obtain ⟨oid, ho2⟩ : ∃ oid, oid = s.next + 1 + 2 := ⟨_, rfl⟩
     have ho1 : n1 + 6 < oid := by omega
     rw [← ho2]
     skip
     refine ewp_loopN ?nx4 (fun (i : Nat) s => s.f 5 = ?v4_5 ∧ s.f 6 = ?v4_6 ∧ s.f 13 = ?v4_13 ∧ s.f 101 = ?v4_101 ∧ s.f 102 = vi i ∧ (i ≤ n) ∧ ((s.H oid = some (.own 1 (lsC n i (cloM (relF rl) n (relF sets))) false))) ∧ ((s.H (n1 + 5) = some (.own 16 (setsC t.groups.length A) false))) ∧ ((∀ j, j < n1 → s.H j = H1 j))) (fun i => n - i) (0) wj_ (by refine ⟨?_, ?_, ?_, ?_, ?_, (by first | omega | (simp; done) | assumption), (by (((try simp only [wM]); (repeat first | rw [if_pos trivial] | rw [if_pos rfl] | rw [if_neg (by omega)])))), (by (((try simp only [wM]); (repeat first | rw [if_pos trivial] | rw [if_pos rfl] | rw [if_neg (by omega)])); exact hA)), (by (intro j h; ((try simp only [wM]); (repeat first | rw [if_pos trivial] | rw [if_pos rfl] | rw [if_neg (by omega)])); exact k1_2 j h))⟩ <;> first | (simp -implicitDefEqProofs only [wL, wM, wN, wX, seval, Option.some.injEq, g0, g1, g5, g6, g29, g30, g31] <;> exact wt_) | rfl | exact ⟨_, rfl⟩) ?_
     intro i s hnx ⟨g5, g6, g13, g101, g102, k4_0, k4_1, k4_2, k4_3⟩
     have W4 := W.mono (H' := s.H) (n' := n1) hD (Nat.le_refl _) k4_3
     by_cases hi : i < n
     · have ho := hof i hi
       obtain ⟨g, hg⟩ : ∃ g : Nat, t.of i = g := ⟨(t.of i).toNat, by omega⟩
       have hgl := (hI.ofb i).2
       have hgl2 : g < t.groups.length := by omega
       have hAg := hC.out hI hg hgl2
       have hgo := rowI_get (l := t.of) hi
       rw [hg] at hgo
       have hls : Pure Tryd.prog 21 [setC (A g)] (intsV (lst (cloM (relF rl) n (relF sets) i) 1024)) := by rw [hAg]; exact bits_Set_List
       repeat' with_reducible first
        | refine s_ ?_
        | refine s_ ?_
        | refine s_ ?_
        | simp -implicitDefEqProofs only [wS, wT, wU, wV, wW, wX, wY, wC, wF, wG, wL, wM, wN, seval, Int.cast_ofNat_Int, Int.reduceLT, Int.reduceLE, Int.reduceEq, Int.reduceToNat, decide_true, decide_false, Bool.false_eq_true, g5, g6, g13, g101, g102, W4.w]
        | (refine condQ_j (fun h h_ => ?_) (fun h h_ => ?_) <;> (try simp only [wD, reduceCtorEq] at h_) <;> (try (exfalso; first | omega | exact absurd (Eq.trans (Eq.symm h_) (by assumption) : false = true) (by decide) | exact absurd (Eq.trans (Eq.symm h_) (by assumption) : true = false) (by decide) | (refine absurd ?_ h_; focus assumption) | (refine absurd h_ ?_; focus assumption))) <;> (try simp only [h]))
        | ((first | refine gdQ_iT (fun h => ?_) (fun h => ?_) | refine gdQ_iF (fun h => ?_) (fun h => ?_)) <;> have h_ := h <;> (try simp only [wD, reduceCtorEq] at h_) <;> (try (exfalso; first | omega | exact absurd (Eq.trans (Eq.symm h_) (by assumption) : false = true) (by decide) | exact absurd (Eq.trans (Eq.symm h_) (by assumption) : true = false) (by decide) | (refine absurd ?_ h_; focus assumption) | (refine absurd h_ ?_; focus assumption))) <;> (try simp only [h]))
        | (apply ia_mslQ; (focus omega); (focus omega))
        | (refine ldI i W4.of (by omega) hgo ?_)
        | (refine ldSE g k4_2 (by omega) hgl2 ?_)
        | (apply callQ1 (hp := hls); (focus exact er_cl))
        | (refine stLsE i k4_1 (by omega) hi ?_)
        | (apply ia_slQ; (focus omega); (exact wd_))
        | (apply ia_mslQ; (focus omega); (exact wf_))
        | (apply ia_aslQ; (focus omega); (exact wd_))
        | (apply strAdd; (focus (first | omega | (simp only [wZ] <;> omega))))
        | (apply ldQ_whole)
        | (apply ldQ_sub; (exact wu_); (exact wu_); (focus ((try simp -implicitDefEqProofs only [wE, Nat.reduceAdd]); rfl)))
        | (apply ldQ_obj; (exact wd_); (exact wu_))
        | (apply ldQ_cell; (exact wu_))
        | (apply ldQ_one; (exact wu_))
        | (apply ld_ipQ; (exact wu_))
        | (apply stQ_whole; (exact wu_); (exact wu_))
        | (apply stQ_obj; (exact wf_); (exact wu_); (exact wu_); (focus (intro _; with_unfolding_all rfl)))
        | (apply stQ_one; (exact wu_); (exact wu_); (exact wu_))
        | (apply stQ_cell; (exact wu_); (exact wu_); (exact wu_); (exact wf_))
        | (apply mkQ_T; (exact wf_); (exact wf_); (focus (unfold maxLen; first | omega | (simp only [wZ] <;> omega))))
        | (apply mkQ_F; (exact wf_); (exact wf_); (focus (unfold maxLen; first | omega | (simp only [wZ] <;> omega))))
        | simp -implicitDefEqProofs (disch := omega) only [w64, if_neg]
       refine ⟨by ((try simp only [wN]) <;> omega), i + 1, by omega, ?_⟩; (repeat refine ⟨True.intro, ?_⟩)
       exact ⟨rfl, by omega, by ((try simp only [wM]); (repeat first | rw [if_pos trivial] | rw [if_pos rfl] | rw [if_neg (by omega)])), by ((try simp only [wM]); (repeat first | rw [if_pos trivial] | rw [if_pos rfl] | rw [if_neg (by omega)])); exact k4_2, fun j h => by ((try simp only [wM]); (repeat first | rw [if_pos trivial] | rw [if_pos rfl] | rw [if_neg (by omega)])); exact k4_3 j h⟩
     · have e : i = n := by omega
       rw [e, lsC_n] at k4_1
       repeat' with_reducible first
        | refine s_ ?_
        | refine s_ ?_
        | refine s_ ?_
        | simp -implicitDefEqProofs only [wS, wT, wU, wV, wW, wX, wY, wC, wF, wG, wL, wM, wN, seval, Int.cast_ofNat_Int, Int.reduceLT, Int.reduceLE, Int.reduceEq, Int.reduceToNat, decide_true, decide_false, Bool.false_eq_true, g5, g6, g13, g101, g102]
        | (refine condQ_j (fun h h_ => ?_) (fun h h_ => ?_) <;> (try simp only [wD, reduceCtorEq] at h_) <;> (try (exfalso; first | omega | exact absurd (Eq.trans (Eq.symm h_) (by assumption) : false = true) (by decide) | exact absurd (Eq.trans (Eq.symm h_) (by assumption) : true = false) (by decide) | (refine absurd ?_ h_; focus assumption) | (refine absurd h_ ?_; focus assumption))) <;> (try simp only [h]))
        | ((first | refine gdQ_iT (fun h => ?_) (fun h => ?_) | refine gdQ_iF (fun h => ?_) (fun h => ?_)) <;> have h_ := h <;> (try simp only [wD, reduceCtorEq] at h_) <;> (try (exfalso; first | omega | exact absurd (Eq.trans (Eq.symm h_) (by assumption) : false = true) (by decide) | exact absurd (Eq.trans (Eq.symm h_) (by assumption) : true = false) (by decide) | (refine absurd ?_ h_; focus assumption) | (refine absurd h_ ?_; focus assumption))) <;> (try simp only [h]))
        | (apply ia_slQ; (focus omega); (exact wd_))
        | (apply ia_mslQ; (focus omega); (exact wf_))
        | (apply ia_aslQ; (focus omega); (exact wd_))
        | (apply strAdd; (focus (first | omega | (simp only [wZ] <;> omega))))
        | (apply ldQ_whole)
        | (apply ldQ_sub; (exact wu_); (exact wu_); (focus ((try simp -implicitDefEqProofs only [wE, Nat.reduceAdd]); rfl)))
        | (apply ldQ_obj; (exact wd_); (exact wu_))
        | (apply ldQ_cell; (exact wu_))
        | (apply ldQ_one; (exact wu_))
        | (apply ld_ipQ; (exact wu_))
        | (apply stQ_whole; (exact wu_); (exact wu_))
        | (apply stQ_obj; (exact wf_); (exact wu_); (exact wu_); (focus (intro _; with_unfolding_all rfl)))
        | (apply stQ_one; (exact wu_); (exact wu_); (exact wu_))
        | (apply stQ_cell; (exact wu_); (exact wu_); (exact wu_); (exact wf_))
        | (apply mkQ_T; (exact wf_); (exact wf_); (focus (unfold maxLen; first | omega | (simp only [wZ] <;> omega))))
        | (apply mkQ_F; (exact wf_); (exact wf_); (focus (unfold maxLen; first | omega | (simp only [wZ] <;> omega))))
        | simp -implicitDefEqProofs (disch := omega) only [w64, if_neg]
       refine post1 (t := 4) rfl (Or.inr rfl) ?_
       (simp -implicitDefEqProofs only [wL, seval])
       exact er_msl_eq (ro := false) (by ((try simp only [wM]); (repeat first | rw [if_pos trivial] | rw [if_pos rfl] | rw [if_neg (by omega)])); exact k4_1) (by simp [ofL]) (by rw [List.drop_zero]; exact List.take_of_length_le (by simp [ofL]))
end Go.Proofs
