/- Part of a proof that a law of the given program answers true. -/
import Derived.Test.YtnglccjjgbdfgaaDoorGWA
import Derived.Test.YtnglccjjgbdfgaaDoorGCA
import Derived.Test.YtnglccjjgbdfgaaDoorGPB
set_option linter.unusedSimpArgs false
set_option linter.unusedVariables false
set_option maxHeartbeats 4000000
namespace Go.Proofs
open Go.E
theorem st_max2 {P : Program} [Glob P] {cls : Cls} {id : Nat} {s : St} {K : V → St → Prop} (m : Bool) (x y : Opd) : stepOp P cls id s K (.minmax m [x, y]) = onS (minmaxV m [ev s x, ev s y]) fun v => K v s := rfl
theorem min2_ii (a b : Int) : minmaxV false [.int .i64 a, .int .i64 b] = some (.int .i64 (if b < a then b else a)) := by simp [minmaxV]
theorem minI (a b : Int) : (if b < a then b else a) = min a b := by omega
def relF (rl : List (List Int)) (i : Nat) : List Int := rl.getD i []
theorem WIn.mono {H H' : Nat → Option MObj} {next n' wi ni li oi lo n : Nat} {rel : List (List Int)} {s : TS} {sv gv : V} {gs : List V} (h : WIn H next wi ni li oi lo n rel s sv gv gs) (hD : WD wi ni li oi lo) (hn : next ≤ n') (hh : ∀ j, j < next → H' j = H j) : WIn H' n' wi ni li oi lo n rel s sv gv gs := by
 obtain ⟨_, b1, b2, b3, b4⟩ := hD
 have hx := h.nx
 exact ⟨(hh _ (by omega)).trans h.w, (hh _ (by omega)).trans h.nu, (hh _ (by omega)).trans h.lw, (hh _ (by omega)).trans h.of, h.st.mono hn fun j _ _ hj => hh j hj, GrM.mono h.gr hn fun j _ _ hj => hh j hj, h.ga.mono hn fun j _ hj a b => ⟨hh j hj, a, b⟩, h.sg, by omega⟩
theorem WIn.lowT {H H' : Nat → Option MObj} {next n' wi ni li oi lo n : Nat} {rel : List (List Int)} {s : TS} {sv gv : V} {gs : List V} {l : Nat → Int} (h : WIn H next wi ni li oi lo n rel s sv gv gs) (hD : WD wi ni li oi lo) (hn : next ≤ n') (hl : H' li = some (.own 1 (ivs (rowI n l)) false)) (hh : ∀ j, j < next → j ≠ li → H' j = H j) : WIn H' n' wi ni li oi lo n rel { s with low := l } sv gv gs := by
 obtain ⟨⟨d1, d2, d3, d4, d5, d6⟩, b1, b2, b3, b4⟩ := hD
 have hx := h.nx
 exact ⟨(hh _ (by omega) d2).trans h.w, (hh _ (by omega) d4).trans h.nu, hl, (hh _ (by omega) (Ne.symm d6)).trans h.of, h.st.mono hn fun j _ hj hj2 => hh j hj2 (by omega), GrM.mono h.gr hn fun j _ hj hj2 => hh j hj2 (by omega), h.ga.mono hn fun j hj hj2 a b => ⟨hh j hj2 (by omega), a, b⟩, h.sg, by omega⟩
def BdT (n : Nat) (s : TS) : Prop := s.next + unvT n s ≤ n
theorem ent_bd {n i : Nat} {s : TS} (h : BdT n s) (hi : i < n) (h0 : s.num i = 0) : BdT n (entT i s) := by
 have : unvT n (entT i s) < unvT n s := unv_lt (fun x hx => by
  show updT _ _ _ x ≠ 0
  by_cases e : x = i
  · subst e; rw [updT_eq]; omega
  · rw [updT_ne e]; exact hx) hi h0 (by show updT _ _ _ i ≠ 0; rw [updT_eq]; omega)
 unfold BdT at *
 show s.next + 1 + _ ≤ n
 omega
theorem fin_bd {n i : Nat} {s : TS} (h : BdT n s) : BdT n (finT i s) := by
 unfold finT
 split
 · exact h
 · exact h
theorem vis_bd (rel : Nat → List Int) (n : Nat) : ∀ f i s, i < n → s.num i = 0 → BdT n s → BdT n (visT rel n f i s)
 | 0, _, _, _, _, h => h
 | f + 1, i, s, hi, h0, h => by
   rw [visT]
   refine fin_bd ?_
   have key : ∀ (l : List Int) (t : TS), BdT n t → BdT n (l.foldl (edgT n i (visT rel n f)) t) := by
    intro l
    induction l with
    | nil => intro t h; exact h
    | cons j l ih =>
      intro t h
      rw [List.foldl_cons]
      refine ih _ ?_
      unfold edgT
      split
      · exact h
      · rename_i hr
        split
        · rename_i hk
          have := vis_bd rel n f j.toNat t (by omega) hk h
          exact this
        · split
          · exact h
          · exact h
   exact key _ _ (ent_bd h hi h0)
theorem nodup_len {n : Nat} {l : List Nat} (h : l.Nodup) (hl : ∀ x ∈ l, x < n) : l.length ≤ n := by
 have h1 : Rise (natI (sortN l)) := by
  unfold natI
  exact List.Pairwise.map (S := (· < ·)) _ (fun a b hab => by omega) (sortN_rise h)
 have h2 := rise_bound (n := n) h1 (fun x hx => by
  obtain ⟨y, hy, rfl⟩ := List.mem_map.1 hx
  have := hl y (sortN_mem.1 hy)
  exact ⟨by omega, by omega⟩)
 have h3 := congrArg List.length (srt_sortN h)
 rw [List.length_mergeSort, natI_len] at h3
 omega
theorem grp_len {rel : Nat → List Int} {n : Nat} {G : Nat → Prop} {s : TS} (h : TInv rel n G s) : s.groups.length ≤ n := by
 have key : ∀ k, k < s.groups.length → ∃ x, s.of x = (k : Int) := fun k hk => by
  obtain ⟨h1, _, h3⟩ := h.grp k _ (List.getElem?_eq_getElem hk)
  cases hl : s.groups[k] with
  | nil => exact absurd hl h1
  | cons x r => exact ⟨x, (h3 x).1 (by rw [hl]; simp)⟩
 have hf : ∀ k, ∃ x, k < s.groups.length → s.of x = (k : Int) := fun k => by
  by_cases hk : k < s.groups.length
  · obtain ⟨x, hx⟩ := key k hk; exact ⟨x, fun _ => hx⟩
  · exact ⟨0, fun h => absurd h hk⟩
 let g : Nat → Nat := fun k => (hf k).choose
 have hg : ∀ k, k < s.groups.length → s.of (g k) = (k : Int) := fun k => (hf k).choose_spec
 have hnd : ((List.range s.groups.length).map g).Nodup := by
  refine List.pairwise_map.2 ((List.nodup_range (n := s.groups.length)).imp_of_mem fun {a b} ha hb hab e => hab ?_)
  have h1 := hg a (List.mem_range.1 ha)
  have h2 := hg b (List.mem_range.1 hb)
  rw [e] at h1
  omega
 have := nodup_len hnd (fun x hx => by
  obtain ⟨k, hk, rfl⟩ := List.mem_map.1 hx
  exact of_lt h (by rw [hg k (List.mem_range.1 hk)]; omega))
 simpa using this
theorem WIn.ent {H H' : Nat → Option MObj} {next n' wi ni li oi lo n i id : Nat} {rel : List (List Int)} {s : TS} {sv gv : V} {gs : List V} (h : WIn H next wi ni li oi lo n rel s sv gv gs) (hD : WD wi ni li oi lo) (hid : next ≤ id) (hn : id < n')
 (h1 : H' wi = some (.own 7 [wkV rel ni li oi n (.msl id 1 0 (s.stack ++ [i]).length) gv (s.next + 1)] false)) (h2 : H' ni = some (.own 1 (ivs (rowI n (updT s.num i ((s.next + 1 : Nat) : Int)))) false)) (h3 : H' li = some (.own 1 (ivs (rowI n (updT s.low i ((s.next + 1 : Nat) : Int)))) false)) (h4 : H' id = some (.own 1 (ivs (natI (s.stack ++ [i]))) false))
 (hh : ∀ j, j < next → j ≠ wi → j ≠ ni → j ≠ li → mid sv ≠ some j → H' j = H j) : WIn H' n' wi ni li oi lo n rel (entT i s) (.msl id 1 0 (s.stack ++ [i]).length) gv gs := by
 obtain ⟨⟨d1, d2, d3, d4, d5, d6⟩, b1, b2, b3, b4⟩ := hD
 have hx := h.nx
 exact ⟨h1, h2, h3, (hh oi (by omega) (by omega) (by omega) (by omega) (h.st.mid oi (Or.inl b4))).trans h.of, Or.inr ⟨id, natI (s.stack ++ [i]), rfl, h4, by rw [List.take_of_length_le (by rw [natI_len]; exact Nat.le_refl _)]; rfl, by omega, hn⟩,
  GrM.mono h.gr (by omega) fun j e a b => hh j b (by omega) (by omega) (by omega) (fun e2 => h.sg j e2 e), h.ga.mono (by omega) fun j a b c d => ⟨hh j b (by omega) (by omega) (by omega) c, (fun e => by have := Option.some.inj e; omega), d⟩,
  fun j e e2 => by have := Option.some.inj e; exact GrM.mid h.gr j (Or.inr (by omega)) e2, by omega⟩
def fE (rl : List (List Int)) (n i f : Nat) (s0 : TS) (k : Nat) : TS := ((relF rl i).take k).foldl (edgT n i (visT (relF rl) n f)) (entT i s0)
theorem fE_succ {rl : List (List Int)} {n i f k : Nat} {s0 : TS} {j : Int} (h : (relF rl i)[k]? = some j) : fE rl n i f s0 (k + 1) = edgT n i (visT (relF rl) n f) (fE rl n i f s0 k) j := by
 unfold fE
 rw [List.take_add_one, h, Option.toList_some, List.foldl_append]; rfl
abbrev VisC (f wi ni li oi lo n : Nat) (rl : List (List Int)) : Prop := ∀ (H : Nat → Option MObj) (next i : Nat) (s : TS) (G : Nat → Prop), s.num i = 0 → i < n → unvT n s ≤ f → BdT n s → TInv (relF rl) n G s → (∀ g, G g → Rch (relF rl) n g i) → WAt H next wi ni li oi lo n rl s →
 ECalls Tryd.prog 28 [.ptr wi 0 0, vi (i : Int)] H next (WQ H next wi ni li oi lo n rl (visT (relF rl) n f i s))
theorem vis_step {H : Nat → Option MObj} {next f wi ni li oi lo n i : Nat} {rl : List (List Int)} {s0 : TS} {G : Nat → Prop} (hD : WD wi ni li oi lo) (hn : n ≤ 1000000) (hrl : rl.length = n) (hrk : ∀ l ∈ rl, l.length ≤ 1000000) (IH : VisC f wi ni li oi lo n rl) (h0 : s0.num i = 0) (hi : i < n) (hu : unvT n s0 ≤ f + 1) (hb : BdT n s0) (hI : TInv (relF rl) n G s0) (hG : ∀ g, G g → Rch (relF rl) n g i) (hW : WAt H next wi ni li oi lo n rl s0) : ECalls Tryd.prog 28 [.ptr wi 0 0, vi (i : Int)] H next (WQ H next wi ni li oi lo n rl (visT (relF rl) n (f + 1) i s0)) := by
 refine ecalls_intro Tryd.func28 e28_nm e28_ok (by show 2 ≤ 149; decide) ?_
 show ewp _ e28n37 _ _
 obtain ⟨sv, gv, gs, W⟩ := hW
 have W' := W
 obtain ⟨hw, hnu, hlw, hof, hS, hGm, hA, hsg, hnx⟩ := W'
 have hD' := hD
 obtain ⟨⟨d1, d2, d3, d4, d5, d6⟩, b1, b2, b3, b4⟩ := hD'
 have hnl : s0.next ≤ n := by unfold BdT at hb; omega
 have hstl : s0.stack.length ≤ n := by
  exact nodup_len (rise_nodup hI.rise) (fun x hx => hI.lt x ((hI.stk x).1 hx).1)
 have hz : IntKind.i64.wrap ((s0.next : Int) + 1) = ((s0.next + 1 : Nat) : Int) := by rw [wrap64 (by omega) (by omega)]; omega
 repeat' with_reducible first
  | refine s_ ?_
  | refine s_ ?_
  | refine s_ ?_
  | simp -implicitDefEqProofs only [wS, wT, wU, wV, wW, wX, wY, wC, wF, wG, wL, wM, wN, seval, Int.cast_ofNat_Int, Int.reduceLT, Int.reduceLE, Int.reduceEq, Int.reduceToNat, decide_true, decide_false, Bool.false_eq_true, hw, hz]
  | (refine condQ_j (fun h h_ => ?_) (fun h h_ => ?_) <;> (try simp only [wD, reduceCtorEq] at h_) <;> (try (exfalso; first | omega | exact absurd (Eq.trans (Eq.symm h_) (by assumption) : false = true) (by decide) | exact absurd (Eq.trans (Eq.symm h_) (by assumption) : true = false) (by decide) | (refine absurd ?_ h_; focus assumption) | (refine absurd h_ ?_; focus assumption))) <;> (try simp only [h]))
  | ((first | refine gdQ_iT (fun h => ?_) (fun h => ?_) | refine gdQ_iF (fun h => ?_) (fun h => ?_)) <;> have h_ := h <;> (try simp only [wD, reduceCtorEq] at h_) <;> (try (exfalso; first | omega | exact absurd (Eq.trans (Eq.symm h_) (by assumption) : false = true) (by decide) | exact absurd (Eq.trans (Eq.symm h_) (by assumption) : true = false) (by decide) | (refine absurd ?_ h_; focus assumption) | (refine absurd h_ ?_; focus assumption))) <;> (try simp only [h]))
  | (apply ia_mslQ; (focus omega); (focus omega))
  | (refine stI i hnu (by omega) hi ?_)
  | (refine stI i (l := s0.low) (by first | exact hlw | (((try simp only [wM]); (repeat first | rw [if_pos trivial] | rw [if_pos rfl] | rw [if_neg (by omega)])); exact hlw)) (by omega) hi ?_)
  | (apply ia_slQ; (focus omega); (exact wd_))
  | (apply ia_mslQ; (focus omega); (exact wf_))
  | (apply ia_aslQ; (focus omega); (exact wd_))
  | (apply appQ_C; (focus (first | exact SrcN.sl | exact SrcN.asl | exact SrcN.str)); (exact wf_); (focus (unfold maxLen; first | omega | (simp only [wZ] <;> omega))))
  | (refine app_asl ?_; simp -implicitDefEqProofs only [wM, wN, seval, hw, hz]; apply appT_i; (focus (first | exact SrcN.sl | exact SrcN.asl | exact SrcN.str)); (exact wf_); (focus (unfold maxLen; first | omega | (simp only [wZ] <;> omega))))
  | (apply fil_part; (exact wu_); (exact wu_); (exact wu_); (focus ((try simp -implicitDefEqProofs only [wY]); rfl)))
  | (apply strAdd; (focus (first | omega | (simp only [wZ] <;> omega))))
  | (apply ldQ_whole)
  | (apply ldQ_sub; (exact wu_); (exact wu_); (focus ((try simp -implicitDefEqProofs only [wE, Nat.reduceAdd]); rfl)))
  | (apply ldQ_obj; (exact wd_); (exact wu_))
  | (apply ldQ_cell; (exact wu_))
  | (apply ldQ_one; (exact wu_))
  | (apply ld_ipQ; (exact wu_))
  | (apply stQ_whole; (exact wu_); (exact wu_))
  | (apply stQ_obj; (exact wf_); (exact wu_); (exact wu_); (focus (intro _; with_unfolding_all rfl)))
  | (apply stQ_one; (exact wu_); (exact wu_); (exact wu_))
  | (apply stQ_cell; (exact wu_); (exact wu_); (exact wu_); (exact wf_))
  | simp -implicitDefEqProofs (disch := omega) only [w64, if_neg]
 refine appQ_S rfl (hS.mono (Nat.le_refl _) (fun j e a b => by ((try simp only [wM]); (repeat first | rw [if_pos trivial] | rw [if_pos rfl] | rw [if_neg (by omega)])))) rfl (by omega) (fun H3 w1 w2 => ?_)
 have w3 : ∀ j, j < next → j ≠ wi → j ≠ ni → j ≠ li → mid sv ≠ some j → H3 j = H j := fun j h1 h2 h3 h4 h5 => (w2 j (by omega) h5).trans (by ((try simp only [wM]); (repeat first | rw [if_pos trivial] | rw [if_pos rfl] | rw [if_neg (by omega)])))
 have hsm : ∀ j, j < lo → mid sv ≠ some j := fun j h => hS.mid j (Or.inl h)
 have hw3 : H3 wi = some (.own 7 [wkV rl ni li oi n sv gv (s0.next + 1)] false) := (w2 wi (by omega) (hsm wi b1)).trans (by ((try simp only [wM]); (repeat first | rw [if_pos trivial] | rw [if_pos rfl] | rw [if_neg (by omega)])))
 have hn3 : H3 ni = some (.own 1 (ivs (rowI n (updT s0.num i ((s0.next + 1 : Nat) : Int)))) false) := (w2 ni (by omega) (hsm ni b2)).trans (by ((try simp only [wM]); (repeat first | rw [if_pos trivial] | rw [if_pos rfl] | rw [if_neg (by omega)])))
 have hl3 : H3 li = some (.own 1 (ivs (rowI n (updT s0.low i ((s0.next + 1 : Nat) : Int)))) false) := (w2 li (by omega) (hsm li b3)).trans (by ((try simp only [wM]); (repeat first | rw [if_pos trivial] | rw [if_pos rfl] | rw [if_neg (by omega)])))
 have hri : rl[i]? = some (relF rl i) := by unfold relF; rw [List.getD_eq_getElem?_getD, List.getElem?_eq_getElem (by omega)]; rfl
 have hrl2 : (relF rl i).length ≤ 1000000 := hrk _ (List.mem_of_getElem? hri)
 repeat' with_reducible first
  | refine s_ ?_
  | refine s_ ?_
  | refine s_ ?_
  | simp -implicitDefEqProofs only [wS, wT, wU, wV, wW, wX, wY, wC, wF, wG, wL, wM, wN, seval, Int.cast_ofNat_Int, Int.reduceLT, Int.reduceLE, Int.reduceEq, Int.reduceToNat, decide_true, decide_false, Bool.false_eq_true, hw3]
  | (refine condQ_j (fun h h_ => ?_) (fun h h_ => ?_) <;> (try simp only [wD, reduceCtorEq] at h_) <;> (try (exfalso; first | omega | exact absurd (Eq.trans (Eq.symm h_) (by assumption) : false = true) (by decide) | exact absurd (Eq.trans (Eq.symm h_) (by assumption) : true = false) (by decide) | (refine absurd ?_ h_; focus assumption) | (refine absurd h_ ?_; focus assumption))) <;> (try simp only [h]))
  | ((first | refine gdQ_iT (fun h => ?_) (fun h => ?_) | refine gdQ_iF (fun h => ?_) (fun h => ?_)) <;> have h_ := h <;> (try simp only [wD, reduceCtorEq] at h_) <;> (try (exfalso; first | omega | exact absurd (Eq.trans (Eq.symm h_) (by assumption) : false = true) (by decide) | exact absurd (Eq.trans (Eq.symm h_) (by assumption) : true = false) (by decide) | (refine absurd ?_ h_; focus assumption) | (refine absurd h_ ?_; focus assumption))) <;> (try simp only [h]))
  | (apply ia_slQ; (focus omega); (focus with_unfolding_all exact hri))
  | (apply ia_slQ; (focus omega); (exact wd_))
  | (apply ia_mslQ; (focus omega); (exact wf_))
  | (apply ia_aslQ; (focus omega); (exact wd_))
  | (apply appQ_C; (focus (first | exact SrcN.sl | exact SrcN.asl | exact SrcN.str)); (exact wf_); (focus (unfold maxLen; first | omega | (simp only [wZ] <;> omega))))
  | (refine app_asl ?_; simp -implicitDefEqProofs only [wM, wN, seval, hw3]; apply appT_i; (focus (first | exact SrcN.sl | exact SrcN.asl | exact SrcN.str)); (exact wf_); (focus (unfold maxLen; first | omega | (simp only [wZ] <;> omega))))
  | (apply fil_part; (exact wu_); (exact wu_); (exact wu_); (focus ((try simp -implicitDefEqProofs only [wY]); rfl)))
  | (apply strAdd; (focus (first | omega | (simp only [wZ] <;> omega))))
  | (apply ldQ_whole)
  | (apply ldQ_sub; (exact wu_); (exact wu_); (focus ((try simp -implicitDefEqProofs only [wE, Nat.reduceAdd]); rfl)))
  | (apply ldQ_obj; (exact wd_); (exact wu_))
  | (apply ldQ_cell; (exact wu_))
  | (apply ldQ_one; (exact wu_))
  | (apply ld_ipQ; (exact wu_))
  | (apply stQ_whole; (exact wu_); (exact wu_))
  | (apply stQ_obj; (exact wf_); (exact wu_); (exact wu_); (focus (intro _; with_unfolding_all rfl)))
  | (apply stQ_one; (exact wu_); (exact wu_); (exact wu_))
  | (apply stQ_cell; (exact wu_); (exact wu_); (exact wu_); (exact wf_))
  | simp -implicitDefEqProofs (disch := omega) only [w64, if_neg]
 refine ewp_loopN ?nx1 (fun (k : Nat) s => s.f 0 = ?v1_0 ∧ s.f 1 = ?v1_1 ∧ s.f 49 = ?v1_49 ∧ s.f 50 = ?v1_50 ∧ s.f 51 = vi k ∧ (k ≤ (relF rl i).length) ∧ ((∃ sv gv gs, WIn s.H s.next wi ni li oi lo n rl (fE rl n i f s0 k) sv gv gs)) ∧ ((TLoop (relF rl) n i G s0 (fE rl n i f s0 k) ((relF rl i).take k))) ∧ ((BdT n (fE rl n i f s0 k))) ∧ ((∀ j, j < lo → j ≠ wi → j ≠ ni → j ≠ li → j ≠ oi → s.H j = H j))) (fun k => (relF rl i).length - k) (0) wj_ (by refine ⟨?_, ?_, ?_, ?_, ?_, (by first | omega | (simp; done) | assumption), (by (exact ⟨_, _, _, WIn.ent (id := next + 8 + 22 + 7) W hD (by omega) (by ((try simp only [wN]) <;> omega)) wc_ (by (simp only [wM]; (repeat first | rw [if_pos trivial] | rw [if_pos rfl] | rw [if_neg (by omega)])); (try exact hn3)) (by (simp only [wM]; (repeat first | rw [if_pos trivial] | rw [if_pos rfl] | rw [if_neg (by omega)])); (try exact hl3)) (by (simp only [wM]; (repeat first | rw [if_pos trivial] | rw [if_pos rfl] | rw [if_neg (by omega)])); (try exact w1)) (fun j h1 h2 h3 h4 h5 => by (simp only [wM]; (repeat first | rw [if_pos trivial] | rw [if_pos rfl] | rw [if_neg (by omega)])); (try exact w3 j h1 h2 h3 h4 h5))⟩)), (by (exact ent_loop hI h0 hi hG)), (by (exact ent_bd hb hi h0)), (by (intro j h1 h2 h3 h4 h5; (simp only [wM]; (repeat first | rw [if_pos trivial] | rw [if_pos rfl] | rw [if_neg (by omega)])); exact w3 j (by omega) h2 h3 h4 (hsm j h1)))⟩ <;> first | (simp -implicitDefEqProofs only [wL, wM, wN, wX, seval, Option.some.injEq] <;> exact wt_) | rfl | exact ⟨_, rfl⟩) ?_
 intro k s hnx ⟨g0, g1, g49, g50, g51, k1_0, k1_1, k1_2, k1_3, k1_4⟩
 obtain ⟨sv1, gv1, gs1, W1⟩ := k1_1
 by_cases hk : k < (relF rl i).length
 · obtain ⟨x, hx⟩ : ∃ x, (relF rl i)[k]? = some x := ⟨_, List.getElem?_eq_getElem hk⟩
   have hfs := fE_succ (n := n) (f := f) (s0 := s0) hx
   have hL2 := edg_ok (visT_ok (relF rl) n f) hI h0 hi hu hG (List.mem_of_getElem? hx) k1_2
   rw [← hfs, show (relF rl i).take k ++ [x] = (relF rl i).take (k + 1) by rw [List.take_add_one, hx]; rfl] at hL2
   generalize htt : fE rl n i f s0 k = t at *
   by_cases hr : x < 0 ∨ (n : Int) ≤ x
   · have hfs2 : fE rl n i f s0 (k + 1) = t := by rw [hfs]; unfold edgT; rw [if_pos hr]
     rcases hr with hr | hr
     · repeat' with_reducible first
        | refine s_ ?_
        | refine s_ ?_
        | refine s_ ?_
        | simp -implicitDefEqProofs only [wS, wT, wU, wV, wW, wX, wY, wC, wF, wG, wL, wM, wN, seval, Int.cast_ofNat_Int, Int.reduceLT, Int.reduceLE, Int.reduceEq, Int.reduceToNat, decide_true, decide_false, Bool.false_eq_true, g0, g1, g49, g50, g51, W1.w, hrl]
        | (refine condQ_j (fun h h_ => ?_) (fun h h_ => ?_) <;> (try simp only [wD, reduceCtorEq] at h_) <;> (try (exfalso; first | omega | exact absurd (Eq.trans (Eq.symm h_) (by assumption) : false = true) (by decide) | exact absurd (Eq.trans (Eq.symm h_) (by assumption) : true = false) (by decide) | (refine absurd ?_ h_; focus assumption) | (refine absurd h_ ?_; focus assumption))) <;> (try simp only [h]))
        | ((first | refine gdQ_iT (fun h => ?_) (fun h => ?_) | refine gdQ_iF (fun h => ?_) (fun h => ?_)) <;> have h_ := h <;> (try simp only [wD, reduceCtorEq] at h_) <;> (try (exfalso; first | omega | exact absurd (Eq.trans (Eq.symm h_) (by assumption) : false = true) (by decide) | exact absurd (Eq.trans (Eq.symm h_) (by assumption) : true = false) (by decide) | (refine absurd ?_ h_; focus assumption) | (refine absurd h_ ?_; focus assumption))) <;> (try simp only [h]))
        | (apply ia_slQ; (focus omega); (focus with_unfolding_all exact hx))
        | (apply ia_slQ; (focus omega); (exact wd_))
        | (apply ia_mslQ; (focus omega); (exact wf_))
        | (apply ia_aslQ; (focus omega); (exact wd_))
        | (apply appQ_C; (focus (first | exact SrcN.sl | exact SrcN.asl | exact SrcN.str)); (exact wf_); (focus (unfold maxLen; first | omega | (simp only [wZ] <;> omega))))
        | (refine app_asl ?_; simp -implicitDefEqProofs only [wM, wN, seval, g0, g1, g49, g50, g51, W1.w, hrl]; apply appT_i; (focus (first | exact SrcN.sl | exact SrcN.asl | exact SrcN.str)); (exact wf_); (focus (unfold maxLen; first | omega | (simp only [wZ] <;> omega))))
        | (apply fil_part; (exact wu_); (exact wu_); (exact wu_); (focus ((try simp -implicitDefEqProofs only [wY]); rfl)))
        | (apply strAdd; (focus (first | omega | (simp only [wZ] <;> omega))))
        | (apply ldQ_whole)
        | (apply ldQ_sub; (exact wu_); (exact wu_); (focus ((try simp -implicitDefEqProofs only [wE, Nat.reduceAdd]); rfl)))
        | (apply ldQ_obj; (exact wd_); (exact wu_))
        | (apply ldQ_cell; (exact wu_))
        | (apply ldQ_one; (exact wu_))
        | (apply ld_ipQ; (exact wu_))
        | (apply stQ_whole; (exact wu_); (exact wu_))
        | (apply stQ_obj; (exact wf_); (exact wu_); (exact wu_); (focus (intro _; with_unfolding_all rfl)))
        | (apply stQ_one; (exact wu_); (exact wu_); (exact wu_))
        | (apply stQ_cell; (exact wu_); (exact wu_); (exact wu_); (exact wf_))
        | simp -implicitDefEqProofs (disch := omega) only [w64, if_neg]
       refine ⟨by ((try simp only [wN]) <;> omega), k + 1, by omega, ?_⟩; (repeat refine ⟨True.intro, ?_⟩)
       exact ⟨rfl, by omega, ⟨_, _, _, by rw [hfs2]; exact WIn.mono W1 hD (by ((try simp only [wN]) <;> omega)) (fun j _ => by ((try simp only [wM]); (repeat first | rw [if_pos trivial] | rw [if_pos rfl] | rw [if_neg (by omega)])))⟩, hL2, by rw [hfs2]; exact k1_3, fun j h1 h2 h3 h4 h5 => by ((try simp only [wM]); (repeat first | rw [if_pos trivial] | rw [if_pos rfl] | rw [if_neg (by omega)])); (try exact k1_4 j h1 h2 h3 h4 h5)⟩
     · repeat' with_reducible first
        | refine s_ ?_
        | refine s_ ?_
        | refine s_ ?_
        | simp -implicitDefEqProofs only [wS, wT, wU, wV, wW, wX, wY, wC, wF, wG, wL, wM, wN, seval, Int.cast_ofNat_Int, Int.reduceLT, Int.reduceLE, Int.reduceEq, Int.reduceToNat, decide_true, decide_false, Bool.false_eq_true, g0, g1, g49, g50, g51, W1.w, hrl]
        | (refine condQ_j (fun h h_ => ?_) (fun h h_ => ?_) <;> (try simp only [wD, reduceCtorEq] at h_) <;> (try (exfalso; first | omega | exact absurd (Eq.trans (Eq.symm h_) (by assumption) : false = true) (by decide) | exact absurd (Eq.trans (Eq.symm h_) (by assumption) : true = false) (by decide) | (refine absurd ?_ h_; focus assumption) | (refine absurd h_ ?_; focus assumption))) <;> (try simp only [h]))
        | ((first | refine gdQ_iT (fun h => ?_) (fun h => ?_) | refine gdQ_iF (fun h => ?_) (fun h => ?_)) <;> have h_ := h <;> (try simp only [wD, reduceCtorEq] at h_) <;> (try (exfalso; first | omega | exact absurd (Eq.trans (Eq.symm h_) (by assumption) : false = true) (by decide) | exact absurd (Eq.trans (Eq.symm h_) (by assumption) : true = false) (by decide) | (refine absurd ?_ h_; focus assumption) | (refine absurd h_ ?_; focus assumption))) <;> (try simp only [h]))
        | (apply ia_slQ; (focus omega); (focus with_unfolding_all exact hx))
        | (apply ia_slQ; (focus omega); (exact wd_))
        | (apply ia_mslQ; (focus omega); (exact wf_))
        | (apply ia_aslQ; (focus omega); (exact wd_))
        | (apply appQ_C; (focus (first | exact SrcN.sl | exact SrcN.asl | exact SrcN.str)); (exact wf_); (focus (unfold maxLen; first | omega | (simp only [wZ] <;> omega))))
        | (refine app_asl ?_; simp -implicitDefEqProofs only [wM, wN, seval, g0, g1, g49, g50, g51, W1.w, hrl]; apply appT_i; (focus (first | exact SrcN.sl | exact SrcN.asl | exact SrcN.str)); (exact wf_); (focus (unfold maxLen; first | omega | (simp only [wZ] <;> omega))))
        | (apply fil_part; (exact wu_); (exact wu_); (exact wu_); (focus ((try simp -implicitDefEqProofs only [wY]); rfl)))
        | (apply strAdd; (focus (first | omega | (simp only [wZ] <;> omega))))
        | (apply ldQ_whole)
        | (apply ldQ_sub; (exact wu_); (exact wu_); (focus ((try simp -implicitDefEqProofs only [wE, Nat.reduceAdd]); rfl)))
        | (apply ldQ_obj; (exact wd_); (exact wu_))
        | (apply ldQ_cell; (exact wu_))
        | (apply ldQ_one; (exact wu_))
        | (apply ld_ipQ; (exact wu_))
        | (apply stQ_whole; (exact wu_); (exact wu_))
        | (apply stQ_obj; (exact wf_); (exact wu_); (exact wu_); (focus (intro _; with_unfolding_all rfl)))
        | (apply stQ_one; (exact wu_); (exact wu_); (exact wu_))
        | (apply stQ_cell; (exact wu_); (exact wu_); (exact wu_); (exact wf_))
        | simp -implicitDefEqProofs (disch := omega) only [w64, if_neg]
       refine ⟨by ((try simp only [wN]) <;> omega), k + 1, by omega, ?_⟩; (repeat refine ⟨True.intro, ?_⟩)
       exact ⟨rfl, by omega, ⟨_, _, _, by rw [hfs2]; exact WIn.mono W1 hD (by ((try simp only [wN]) <;> omega)) (fun j _ => by ((try simp only [wM]); (repeat first | rw [if_pos trivial] | rw [if_pos rfl] | rw [if_neg (by omega)])))⟩, hL2, by rw [hfs2]; exact k1_3, fun j h1 h2 h3 h4 h5 => by ((try simp only [wM]); (repeat first | rw [if_pos trivial] | rw [if_pos rfl] | rw [if_neg (by omega)])); (try exact k1_4 j h1 h2 h3 h4 h5)⟩
   · obtain ⟨m, rfl⟩ : ∃ m : Nat, x = m := ⟨x.toNat, by omega⟩
     have hm : m < n := by omega
     have hfs2 : fE rl n i f s0 (k + 1) = (if t.num m = 0 then { visT (relF rl) n f m t with low := updT (visT (relF rl) n f m t).low i (min ((visT (relF rl) n f m t).low i) ((visT (relF rl) n f m t).low m)) } else if t.of m < 0 then { t with low := updT t.low i (min (t.low i) (t.num m)) } else t) := by
      rw [hfs]; unfold edgT; rw [if_neg hr, Int.toNat_natCast]
     have hgm := rowI_get (l := t.num) hm
     by_cases hk0 : t.num m = 0
     · rw [if_pos hk0] at hfs2
       have hrec := fun H next W => IH H next m t (fun g => G g ∨ g = i) hk0 hm (by have := k1_2.unv; omega) k1_3 k1_2.inv (fun g hg => by
        have hE : Edge (relF rl) n i m := ⟨hi, hm, List.mem_of_getElem? hx⟩
        rcases hg with hg | rfl
        · exact (hG g hg).trans (.one hE)
        · exact .one hE) W
       have hb2 := vis_bd (relF rl) n f m t hm hk0 k1_3
       generalize visT (relF rl) n f m t = t2 at *
       repeat' with_reducible first
        | refine s_ ?_
        | refine s_ ?_
        | refine s_ ?_
        | simp -implicitDefEqProofs only [wS, wT, wU, wV, wW, wX, wY, wC, wF, wG, wL, wM, wN, seval, Int.cast_ofNat_Int, Int.reduceLT, Int.reduceLE, Int.reduceEq, Int.reduceToNat, decide_true, decide_false, Bool.false_eq_true, g0, g1, g49, g50, g51, W1.w, hrl]
        | (refine condQ_j (fun h h_ => ?_) (fun h h_ => ?_) <;> (try simp only [wD, reduceCtorEq] at h_) <;> (try (exfalso; first | omega | exact absurd (Eq.trans (Eq.symm h_) (by assumption) : false = true) (by decide) | exact absurd (Eq.trans (Eq.symm h_) (by assumption) : true = false) (by decide) | (refine absurd ?_ h_; focus assumption) | (refine absurd h_ ?_; focus assumption))) <;> (try simp only [h]))
        | ((first | refine gdQ_iT (fun h => ?_) (fun h => ?_) | refine gdQ_iF (fun h => ?_) (fun h => ?_)) <;> have h_ := h <;> (try simp only [wD, reduceCtorEq] at h_) <;> (try (exfalso; first | omega | exact absurd (Eq.trans (Eq.symm h_) (by assumption) : false = true) (by decide) | exact absurd (Eq.trans (Eq.symm h_) (by assumption) : true = false) (by decide) | (refine absurd ?_ h_; focus assumption) | (refine absurd h_ ?_; focus assumption))) <;> (try simp only [h]))
        | (apply ia_slQ; (focus omega); (focus with_unfolding_all exact hx))
        | (apply ia_mslQ; (focus omega); (focus omega))
        | (refine ldI m W1.nu (by omega) hgm ?_)
        | (refine callQWc rfl rfl rfl ((hrec _ _ ⟨_, _, _, WIn.mono W1 hD (by ((try simp only [wN]) <;> omega)) (fun j _ => by ((try simp only [wM]); (repeat first | rw [if_pos trivial] | rw [if_pos rfl] | rw [if_neg (by omega)])))⟩).mono ?_); rintro v1 H1 n1 ⟨rfl, q1, ⟨sv2, gv2, gs2, W2⟩, q3⟩; (try simp only [wN] at q1); (try simp only [wN] at q3))
        | (apply ia_slQ; (focus omega); (exact wd_))
        | (apply ia_mslQ; (focus omega); (exact wf_))
        | (apply ia_aslQ; (focus omega); (exact wd_))
        | (apply appQ_C; (focus (first | exact SrcN.sl | exact SrcN.asl | exact SrcN.str)); (exact wf_); (focus (unfold maxLen; first | omega | (simp only [wZ] <;> omega))))
        | (refine app_asl ?_; simp -implicitDefEqProofs only [wM, wN, seval, g0, g1, g49, g50, g51, W1.w, hrl]; apply appT_i; (focus (first | exact SrcN.sl | exact SrcN.asl | exact SrcN.str)); (exact wf_); (focus (unfold maxLen; first | omega | (simp only [wZ] <;> omega))))
        | (apply fil_part; (exact wu_); (exact wu_); (exact wu_); (focus ((try simp -implicitDefEqProofs only [wY]); rfl)))
        | (apply strAdd; (focus (first | omega | (simp only [wZ] <;> omega))))
        | (apply ldQ_whole)
        | (apply ldQ_sub; (exact wu_); (exact wu_); (focus ((try simp -implicitDefEqProofs only [wE, Nat.reduceAdd]); rfl)))
        | (apply ldQ_obj; (exact wd_); (exact wu_))
        | (apply ldQ_cell; (exact wu_))
        | (apply ldQ_one; (exact wu_))
        | (apply ld_ipQ; (exact wu_))
        | (apply stQ_whole; (exact wu_); (exact wu_))
        | (apply stQ_obj; (exact wf_); (exact wu_); (exact wu_); (focus (intro _; with_unfolding_all rfl)))
        | (apply stQ_one; (exact wu_); (exact wu_); (exact wu_))
        | (apply stQ_cell; (exact wu_); (exact wu_); (exact wu_); (exact wf_))
        | simp -implicitDefEqProofs (disch := omega) only [w64, if_neg]
       have g2i := rowI_get (l := t2.low) hi
       have g2m := rowI_get (l := t2.low) hm
       repeat' with_reducible first
        | refine s_ ?_
        | refine s_ ?_
        | refine s_ ?_
        | simp -implicitDefEqProofs only [wS, wT, wU, wV, wW, wX, wY, wC, wF, wG, wL, wM, wN, seval, Int.cast_ofNat_Int, Int.reduceLT, Int.reduceLE, Int.reduceEq, Int.reduceToNat, decide_true, decide_false, Bool.false_eq_true, g0, g1, g49, g50, g51, W2.w]
        | (refine condQ_j (fun h h_ => ?_) (fun h h_ => ?_) <;> (try simp only [wD, reduceCtorEq] at h_) <;> (try (exfalso; first | omega | exact absurd (Eq.trans (Eq.symm h_) (by assumption) : false = true) (by decide) | exact absurd (Eq.trans (Eq.symm h_) (by assumption) : true = false) (by decide) | (refine absurd ?_ h_; focus assumption) | (refine absurd h_ ?_; focus assumption))) <;> (try simp only [h]))
        | ((first | refine gdQ_iT (fun h => ?_) (fun h => ?_) | refine gdQ_iF (fun h => ?_) (fun h => ?_)) <;> have h_ := h <;> (try simp only [wD, reduceCtorEq] at h_) <;> (try (exfalso; first | omega | exact absurd (Eq.trans (Eq.symm h_) (by assumption) : false = true) (by decide) | exact absurd (Eq.trans (Eq.symm h_) (by assumption) : true = false) (by decide) | (refine absurd ?_ h_; focus assumption) | (refine absurd h_ ?_; focus assumption))) <;> (try simp only [h]))
        | (apply ia_mslQ; (focus omega); (focus omega))
        | (refine ldI i W2.lw (by omega) g2i ?_)
        | (refine ldI m W2.lw (by omega) g2m ?_)
        | (simp only [st_max2, min2_ii, minI])
        | (refine stI i (l := t2.low) (by first | exact W2.lw | (((try simp only [wM]); (repeat first | rw [if_pos trivial] | rw [if_pos rfl] | rw [if_neg (by omega)])); exact W2.lw)) (by omega) hi ?_)
        | (apply ia_slQ; (focus omega); (exact wd_))
        | (apply ia_mslQ; (focus omega); (exact wf_))
        | (apply ia_aslQ; (focus omega); (exact wd_))
        | (apply appQ_C; (focus (first | exact SrcN.sl | exact SrcN.asl | exact SrcN.str)); (exact wf_); (focus (unfold maxLen; first | omega | (simp only [wZ] <;> omega))))
        | (refine app_asl ?_; simp -implicitDefEqProofs only [wM, wN, seval, g0, g1, g49, g50, g51, W2.w]; apply appT_i; (focus (first | exact SrcN.sl | exact SrcN.asl | exact SrcN.str)); (exact wf_); (focus (unfold maxLen; first | omega | (simp only [wZ] <;> omega))))
        | (apply fil_part; (exact wu_); (exact wu_); (exact wu_); (focus ((try simp -implicitDefEqProofs only [wY]); rfl)))
        | (apply strAdd; (focus (first | omega | (simp only [wZ] <;> omega))))
        | (apply ldQ_whole)
        | (apply ldQ_sub; (exact wu_); (exact wu_); (focus ((try simp -implicitDefEqProofs only [wE, Nat.reduceAdd]); rfl)))
        | (apply ldQ_obj; (exact wd_); (exact wu_))
        | (apply ldQ_cell; (exact wu_))
        | (apply ldQ_one; (exact wu_))
        | (apply ld_ipQ; (exact wu_))
        | (apply stQ_whole; (exact wu_); (exact wu_))
        | (apply stQ_obj; (exact wf_); (exact wu_); (exact wu_); (focus (intro _; with_unfolding_all rfl)))
        | (apply stQ_one; (exact wu_); (exact wu_); (exact wu_))
        | (apply stQ_cell; (exact wu_); (exact wu_); (exact wu_); (exact wf_))
        | simp -implicitDefEqProofs (disch := omega) only [w64, if_neg]
       refine ⟨by ((try simp only [wN]) <;> omega), k + 1, by omega, ?_⟩; (repeat refine ⟨True.intro, ?_⟩)
       exact ⟨rfl, by omega, ⟨_, _, _, by rw [hfs2]; exact WIn.lowT W2 hD (by ((try simp only [wN]) <;> omega)) (by ((try simp only [wM]); (repeat first | rw [if_pos trivial] | rw [if_pos rfl] | rw [if_neg (by omega)]))) (fun j h1 h2 => by ((try simp only [wM]); (repeat first | rw [if_pos trivial] | rw [if_pos rfl] | rw [if_neg (by omega)])))⟩, hL2, by rw [hfs2]; exact hb2, fun j h1 h2 h3 h4 h5 => by ((try simp only [wM]); (repeat first | rw [if_pos trivial] | rw [if_pos rfl] | rw [if_neg (by omega)])); rw [q3 j h1 h2 h3 h4 h5]; ((try simp only [wM]); (repeat first | rw [if_pos trivial] | rw [if_pos rfl] | rw [if_neg (by omega)])); (try exact k1_4 j h1 h2 h3 h4 h5)⟩
     · rw [if_neg hk0] at hfs2
       have hom := rowI_get (l := t.of) hm
       by_cases hko : t.of m < 0
       · rw [if_pos hko] at hfs2
         have g2i := rowI_get (l := t.low) hi
         repeat' with_reducible first
          | refine s_ ?_
          | refine s_ ?_
          | refine s_ ?_
          | simp -implicitDefEqProofs only [wS, wT, wU, wV, wW, wX, wY, wC, wF, wG, wL, wM, wN, seval, Int.cast_ofNat_Int, Int.reduceLT, Int.reduceLE, Int.reduceEq, Int.reduceToNat, decide_true, decide_false, Bool.false_eq_true, g0, g1, g49, g50, g51, W1.w, hrl]
          | (refine condQ_j (fun h h_ => ?_) (fun h h_ => ?_) <;> (try simp only [wD, reduceCtorEq] at h_) <;> (try (exfalso; first | omega | exact absurd (Eq.trans (Eq.symm h_) (by assumption) : false = true) (by decide) | exact absurd (Eq.trans (Eq.symm h_) (by assumption) : true = false) (by decide) | (refine absurd ?_ h_; focus assumption) | (refine absurd h_ ?_; focus assumption))) <;> (try simp only [h]))
          | ((first | refine gdQ_iT (fun h => ?_) (fun h => ?_) | refine gdQ_iF (fun h => ?_) (fun h => ?_)) <;> have h_ := h <;> (try simp only [wD, reduceCtorEq] at h_) <;> (try (exfalso; first | omega | exact absurd (Eq.trans (Eq.symm h_) (by assumption) : false = true) (by decide) | exact absurd (Eq.trans (Eq.symm h_) (by assumption) : true = false) (by decide) | (refine absurd ?_ h_; focus assumption) | (refine absurd h_ ?_; focus assumption))) <;> (try simp only [h]))
          | (apply ia_slQ; (focus omega); (focus with_unfolding_all exact hx))
          | (apply ia_mslQ; (focus omega); (focus omega))
          | (refine ldI m W1.nu (by omega) hgm ?_)
          | (refine ldI m W1.of (by omega) hom ?_)
          | (refine ldI i W1.lw (by omega) g2i ?_)
          | (simp only [st_max2, min2_ii, minI])
          | (refine stI i (l := t.low) (by first | exact W1.lw | (((try simp only [wM]); (repeat first | rw [if_pos trivial] | rw [if_pos rfl] | rw [if_neg (by omega)])); exact W1.lw)) (by omega) hi ?_)
          | (apply ia_slQ; (focus omega); (exact wd_))
          | (apply ia_mslQ; (focus omega); (exact wf_))
          | (apply ia_aslQ; (focus omega); (exact wd_))
          | (apply appQ_C; (focus (first | exact SrcN.sl | exact SrcN.asl | exact SrcN.str)); (exact wf_); (focus (unfold maxLen; first | omega | (simp only [wZ] <;> omega))))
          | (refine app_asl ?_; simp -implicitDefEqProofs only [wM, wN, seval, g0, g1, g49, g50, g51, W1.w, hrl]; apply appT_i; (focus (first | exact SrcN.sl | exact SrcN.asl | exact SrcN.str)); (exact wf_); (focus (unfold maxLen; first | omega | (simp only [wZ] <;> omega))))
          | (apply fil_part; (exact wu_); (exact wu_); (exact wu_); (focus ((try simp -implicitDefEqProofs only [wY]); rfl)))
          | (apply strAdd; (focus (first | omega | (simp only [wZ] <;> omega))))
          | (apply ldQ_whole)
          | (apply ldQ_sub; (exact wu_); (exact wu_); (focus ((try simp -implicitDefEqProofs only [wE, Nat.reduceAdd]); rfl)))
          | (apply ldQ_obj; (exact wd_); (exact wu_))
          | (apply ldQ_cell; (exact wu_))
          | (apply ldQ_one; (exact wu_))
          | (apply ld_ipQ; (exact wu_))
          | (apply stQ_whole; (exact wu_); (exact wu_))
          | (apply stQ_obj; (exact wf_); (exact wu_); (exact wu_); (focus (intro _; with_unfolding_all rfl)))
          | (apply stQ_one; (exact wu_); (exact wu_); (exact wu_))
          | (apply stQ_cell; (exact wu_); (exact wu_); (exact wu_); (exact wf_))
          | simp -implicitDefEqProofs (disch := omega) only [w64, if_neg]
         refine ⟨by ((try simp only [wN]) <;> omega), k + 1, by omega, ?_⟩; (repeat refine ⟨True.intro, ?_⟩)
         exact ⟨rfl, by omega, ⟨_, _, _, by rw [hfs2]; exact WIn.lowT W1 hD (by ((try simp only [wN]) <;> omega)) (by ((try simp only [wM]); (repeat first | rw [if_pos trivial] | rw [if_pos rfl] | rw [if_neg (by omega)]))) (fun j h1 h2 => by ((try simp only [wM]); (repeat first | rw [if_pos trivial] | rw [if_pos rfl] | rw [if_neg (by omega)])))⟩, hL2, by rw [hfs2]; exact k1_3, fun j h1 h2 h3 h4 h5 => by ((try simp only [wM]); (repeat first | rw [if_pos trivial] | rw [if_pos rfl] | rw [if_neg (by omega)])); (try exact k1_4 j h1 h2 h3 h4 h5)⟩
       · rw [if_neg hko] at hfs2
         repeat' with_reducible first
          | refine s_ ?_
          | refine s_ ?_
          | refine s_ ?_
          | simp -implicitDefEqProofs only [wS, wT, wU, wV, wW, wX, wY, wC, wF, wG, wL, wM, wN, seval, Int.cast_ofNat_Int, Int.reduceLT, Int.reduceLE, Int.reduceEq, Int.reduceToNat, decide_true, decide_false, Bool.false_eq_true, g0, g1, g49, g50, g51, W1.w, hrl]
          | (refine condQ_j (fun h h_ => ?_) (fun h h_ => ?_) <;> (try simp only [wD, reduceCtorEq] at h_) <;> (try (exfalso; first | omega | exact absurd (Eq.trans (Eq.symm h_) (by assumption) : false = true) (by decide) | exact absurd (Eq.trans (Eq.symm h_) (by assumption) : true = false) (by decide) | (refine absurd ?_ h_; focus assumption) | (refine absurd h_ ?_; focus assumption))) <;> (try simp only [h]))
          | ((first | refine gdQ_iT (fun h => ?_) (fun h => ?_) | refine gdQ_iF (fun h => ?_) (fun h => ?_)) <;> have h_ := h <;> (try simp only [wD, reduceCtorEq] at h_) <;> (try (exfalso; first | omega | exact absurd (Eq.trans (Eq.symm h_) (by assumption) : false = true) (by decide) | exact absurd (Eq.trans (Eq.symm h_) (by assumption) : true = false) (by decide) | (refine absurd ?_ h_; focus assumption) | (refine absurd h_ ?_; focus assumption))) <;> (try simp only [h]))
          | (apply ia_slQ; (focus omega); (focus with_unfolding_all exact hx))
          | (apply ia_mslQ; (focus omega); (focus omega))
          | (refine ldI m W1.nu (by omega) hgm ?_)
          | (refine ldI m W1.of (by omega) hom ?_)
          | (apply ia_slQ; (focus omega); (exact wd_))
          | (apply ia_mslQ; (focus omega); (exact wf_))
          | (apply ia_aslQ; (focus omega); (exact wd_))
          | (apply appQ_C; (focus (first | exact SrcN.sl | exact SrcN.asl | exact SrcN.str)); (exact wf_); (focus (unfold maxLen; first | omega | (simp only [wZ] <;> omega))))
          | (refine app_asl ?_; simp -implicitDefEqProofs only [wM, wN, seval, g0, g1, g49, g50, g51, W1.w, hrl]; apply appT_i; (focus (first | exact SrcN.sl | exact SrcN.asl | exact SrcN.str)); (exact wf_); (focus (unfold maxLen; first | omega | (simp only [wZ] <;> omega))))
          | (apply fil_part; (exact wu_); (exact wu_); (exact wu_); (focus ((try simp -implicitDefEqProofs only [wY]); rfl)))
          | (apply strAdd; (focus (first | omega | (simp only [wZ] <;> omega))))
          | (apply ldQ_whole)
          | (apply ldQ_sub; (exact wu_); (exact wu_); (focus ((try simp -implicitDefEqProofs only [wE, Nat.reduceAdd]); rfl)))
          | (apply ldQ_obj; (exact wd_); (exact wu_))
          | (apply ldQ_cell; (exact wu_))
          | (apply ldQ_one; (exact wu_))
          | (apply ld_ipQ; (exact wu_))
          | (apply stQ_whole; (exact wu_); (exact wu_))
          | (apply stQ_obj; (exact wf_); (exact wu_); (exact wu_); (focus (intro _; with_unfolding_all rfl)))
          | (apply stQ_one; (exact wu_); (exact wu_); (exact wu_))
          | (apply stQ_cell; (exact wu_); (exact wu_); (exact wu_); (exact wf_))
          | simp -implicitDefEqProofs (disch := omega) only [w64, if_neg]
         refine ⟨by ((try simp only [wN]) <;> omega), k + 1, by omega, ?_⟩; (repeat refine ⟨True.intro, ?_⟩)
         exact ⟨rfl, by omega, ⟨_, _, _, by rw [hfs2]; exact WIn.mono W1 hD (by ((try simp only [wN]) <;> omega)) (fun j _ => by ((try simp only [wM]); (repeat first | rw [if_pos trivial] | rw [if_pos rfl] | rw [if_neg (by omega)])))⟩, hL2, by rw [hfs2]; exact k1_3, fun j h1 h2 h3 h4 h5 => by ((try simp only [wM]); (repeat first | rw [if_pos trivial] | rw [if_pos rfl] | rw [if_neg (by omega)])); (try exact k1_4 j h1 h2 h3 h4 h5)⟩
 · have hall : visT (relF rl) n (f + 1) i s0 = finT i (fE rl n i f s0 k) := by
    rw [visT]; unfold fE; rw [List.take_of_length_le (by omega)]
   rw [List.take_of_length_le (by omega)] at k1_2
   obtain ⟨seg, hst⟩ := k1_2.stk
   generalize fE rl n i f s0 k = t at *
   have g2i := rowI_get (l := t.low) hi
   have gni := rowI_get (l := t.num) hi
   rw [hall]
   unfold finT
   by_cases hln : t.low i = t.num i
   · rw [if_pos hln]
     have hgr := fun H next W => grp (H := H) (next := next) (rel := rl) (i := i) (pre := s0.stack) (seg := seg) hD W hst (rise_nodup k1_2.inv.rise) (fun x hx => k1_2.inv.lt x ((k1_2.inv.stk x).1 hx).1) (by have := nodup_len (rise_nodup k1_2.inv.rise) (fun x hx => k1_2.inv.lt x ((k1_2.inv.stk x).1 hx).1); omega) (by have := grp_len k1_2.inv; omega)
     repeat' with_reducible first
      | refine s_ ?_
      | refine s_ ?_
      | refine s_ ?_
      | simp -implicitDefEqProofs only [wS, wT, wU, wV, wW, wX, wY, wC, wF, wG, wL, wM, wN, seval, Int.cast_ofNat_Int, Int.reduceLT, Int.reduceLE, Int.reduceEq, Int.reduceToNat, decide_true, decide_false, Bool.false_eq_true, g0, g1, g49, g50, g51, W1.w]
      | (refine condQ_j (fun h h_ => ?_) (fun h h_ => ?_) <;> (try simp only [wD, reduceCtorEq] at h_) <;> (try (exfalso; first | omega | exact absurd (Eq.trans (Eq.symm h_) (by assumption) : false = true) (by decide) | exact absurd (Eq.trans (Eq.symm h_) (by assumption) : true = false) (by decide) | (refine absurd ?_ h_; focus assumption) | (refine absurd h_ ?_; focus assumption))) <;> (try simp only [h]))
      | ((first | refine gdQ_iT (fun h => ?_) (fun h => ?_) | refine gdQ_iF (fun h => ?_) (fun h => ?_)) <;> have h_ := h <;> (try simp only [wD, reduceCtorEq] at h_) <;> (try (exfalso; first | omega | exact absurd (Eq.trans (Eq.symm h_) (by assumption) : false = true) (by decide) | exact absurd (Eq.trans (Eq.symm h_) (by assumption) : true = false) (by decide) | (refine absurd ?_ h_; focus assumption) | (refine absurd h_ ?_; focus assumption))) <;> (try simp only [h]))
      | (apply ia_mslQ; (focus omega); (focus omega))
      | (refine ldI i W1.lw (by omega) g2i ?_)
      | (refine ldI i W1.nu (by omega) gni ?_)
      | (refine callQWc rfl rfl rfl ((hgr _ _ ⟨_, _, _, WIn.mono W1 hD (by ((try simp only [wN]) <;> omega)) (fun j _ => by ((try simp only [wM]); (repeat first | rw [if_pos trivial] | rw [if_pos rfl] | rw [if_neg (by omega)])))⟩).mono ?_); rintro v1 H1 n1 ⟨rfl, q1, q2, q3⟩; (try simp only [wN] at q1); (try simp only [wN] at q3))
      | (apply ia_slQ; (focus omega); (exact wd_))
      | (apply ia_mslQ; (focus omega); (exact wf_))
      | (apply ia_aslQ; (focus omega); (exact wd_))
      | (apply appQ_C; (focus (first | exact SrcN.sl | exact SrcN.asl | exact SrcN.str)); (exact wf_); (focus (unfold maxLen; first | omega | (simp only [wZ] <;> omega))))
      | (refine app_asl ?_; simp -implicitDefEqProofs only [wM, wN, seval, g0, g1, g49, g50, g51, W1.w]; apply appT_i; (focus (first | exact SrcN.sl | exact SrcN.asl | exact SrcN.str)); (exact wf_); (focus (unfold maxLen; first | omega | (simp only [wZ] <;> omega))))
      | (apply fil_part; (exact wu_); (exact wu_); (exact wu_); (focus ((try simp -implicitDefEqProofs only [wY]); rfl)))
      | (apply strAdd; (focus (first | omega | (simp only [wZ] <;> omega))))
      | (apply ldQ_whole)
      | (apply ldQ_sub; (exact wu_); (exact wu_); (focus ((try simp -implicitDefEqProofs only [wE, Nat.reduceAdd]); rfl)))
      | (apply ldQ_obj; (exact wd_); (exact wu_))
      | (apply ldQ_cell; (exact wu_))
      | (apply ldQ_one; (exact wu_))
      | (apply ld_ipQ; (exact wu_))
      | (apply stQ_whole; (exact wu_); (exact wu_))
      | (apply stQ_obj; (exact wf_); (exact wu_); (exact wu_); (focus (intro _; with_unfolding_all rfl)))
      | (apply stQ_one; (exact wu_); (exact wu_); (exact wu_))
      | (apply stQ_cell; (exact wu_); (exact wu_); (exact wu_); (exact wf_))
      | simp -implicitDefEqProofs (disch := omega) only [w64, if_neg]
     exact heap0 rfl (Or.inl rfl) ⟨rfl, by ((try simp only [wN]) <;> omega), q2, fun j h1 h2 h3 h4 h5 => by ((try simp only [wM]); (repeat first | rw [if_pos trivial] | rw [if_pos rfl] | rw [if_neg (by omega)])); rw [q3 j h1 h2 h3 h4 h5]; ((try simp only [wM]); (repeat first | rw [if_pos trivial] | rw [if_pos rfl] | rw [if_neg (by omega)])); (try exact k1_4 j h1 h2 h3 h4 h5)⟩
   · rw [if_neg hln]
     repeat' with_reducible first
      | refine s_ ?_
      | refine s_ ?_
      | refine s_ ?_
      | simp -implicitDefEqProofs only [wS, wT, wU, wV, wW, wX, wY, wC, wF, wG, wL, wM, wN, seval, Int.cast_ofNat_Int, Int.reduceLT, Int.reduceLE, Int.reduceEq, Int.reduceToNat, decide_true, decide_false, Bool.false_eq_true, g0, g1, g49, g50, g51, W1.w]
      | (refine condQ_j (fun h h_ => ?_) (fun h h_ => ?_) <;> (try simp only [wD, reduceCtorEq] at h_) <;> (try (exfalso; first | omega | exact absurd (Eq.trans (Eq.symm h_) (by assumption) : false = true) (by decide) | exact absurd (Eq.trans (Eq.symm h_) (by assumption) : true = false) (by decide) | (refine absurd ?_ h_; focus assumption) | (refine absurd h_ ?_; focus assumption))) <;> (try simp only [h]))
      | ((first | refine gdQ_iT (fun h => ?_) (fun h => ?_) | refine gdQ_iF (fun h => ?_) (fun h => ?_)) <;> have h_ := h <;> (try simp only [wD, reduceCtorEq] at h_) <;> (try (exfalso; first | omega | exact absurd (Eq.trans (Eq.symm h_) (by assumption) : false = true) (by decide) | exact absurd (Eq.trans (Eq.symm h_) (by assumption) : true = false) (by decide) | (refine absurd ?_ h_; focus assumption) | (refine absurd h_ ?_; focus assumption))) <;> (try simp only [h]))
      | (apply ia_mslQ; (focus omega); (focus omega))
      | (refine ldI i W1.lw (by omega) g2i ?_)
      | (refine ldI i W1.nu (by omega) gni ?_)
      | (apply ia_slQ; (focus omega); (exact wd_))
      | (apply ia_mslQ; (focus omega); (exact wf_))
      | (apply ia_aslQ; (focus omega); (exact wd_))
      | (apply appQ_C; (focus (first | exact SrcN.sl | exact SrcN.asl | exact SrcN.str)); (exact wf_); (focus (unfold maxLen; first | omega | (simp only [wZ] <;> omega))))
      | (refine app_asl ?_; simp -implicitDefEqProofs only [wM, wN, seval, g0, g1, g49, g50, g51, W1.w]; apply appT_i; (focus (first | exact SrcN.sl | exact SrcN.asl | exact SrcN.str)); (exact wf_); (focus (unfold maxLen; first | omega | (simp only [wZ] <;> omega))))
      | (apply fil_part; (exact wu_); (exact wu_); (exact wu_); (focus ((try simp -implicitDefEqProofs only [wY]); rfl)))
      | (apply strAdd; (focus (first | omega | (simp only [wZ] <;> omega))))
      | (apply ldQ_whole)
      | (apply ldQ_sub; (exact wu_); (exact wu_); (focus ((try simp -implicitDefEqProofs only [wE, Nat.reduceAdd]); rfl)))
      | (apply ldQ_obj; (exact wd_); (exact wu_))
      | (apply ldQ_cell; (exact wu_))
      | (apply ldQ_one; (exact wu_))
      | (apply ld_ipQ; (exact wu_))
      | (apply stQ_whole; (exact wu_); (exact wu_))
      | (apply stQ_obj; (exact wf_); (exact wu_); (exact wu_); (focus (intro _; with_unfolding_all rfl)))
      | (apply stQ_one; (exact wu_); (exact wu_); (exact wu_))
      | (apply stQ_cell; (exact wu_); (exact wu_); (exact wu_); (exact wf_))
      | simp -implicitDefEqProofs (disch := omega) only [w64, if_neg]
     exact heap0 rfl (Or.inl rfl) ⟨rfl, by ((try simp only [wN]) <;> omega), ⟨_, _, _, WIn.mono W1 hD (by ((try simp only [wN]) <;> omega)) (fun j _ => by ((try simp only [wM]); (repeat first | rw [if_pos trivial] | rw [if_pos rfl] | rw [if_neg (by omega)])))⟩, fun j h1 h2 h3 h4 h5 => by ((try simp only [wM]); (repeat first | rw [if_pos trivial] | rw [if_pos rfl] | rw [if_neg (by omega)])); (try exact k1_4 j h1 h2 h3 h4 h5)⟩
theorem vis_all {wi ni li oi lo n : Nat} {rl : List (List Int)} (hD : WD wi ni li oi lo) (hn : n ≤ 1000000) (hrl : rl.length = n) (hrk : ∀ l ∈ rl, l.length ≤ 1000000) : ∀ f, VisC f wi ni li oi lo n rl
 | 0 => fun H next i s G h0 hi hu => by
   exfalso
   have : unvT n { s with num := fun _ => 1 } < unvT n s := unv_lt (fun x _ => by dsimp only; omega) hi h0 (by dsimp only; omega)
   omega
 | f + 1 => fun H next i s G h0 hi hu hb hI hG hW => vis_step hD hn hrl hrk (vis_all hD hn hrl hrk f) h0 hi hu hb hI hG hW

theorem ext_of {α : Type} {r : α → α → Prop} (irr : ∀ x, ¬ r x x) (asy : ∀ x y, r x y → ¬ r y x) : ∀ {a b : List α}, a.Pairwise r → b.Pairwise r → (∀ x, x ∈ a ↔ x ∈ b) → a = b
 | [], [], _, _, _ => rfl
 | [], y :: b, _, _, h => by have := (h y).2 (by simp); cases this
 | x :: a, [], _, _, h => by have := (h x).1 (by simp); cases this
 | x :: a, y :: b, ha, hb, h => by
   obtain ⟨ha1, ha2⟩ := List.pairwise_cons.1 ha
   obtain ⟨hb1, hb2⟩ := List.pairwise_cons.1 hb
   have e : x = y := by
    rcases List.mem_cons.1 ((h x).1 (by simp)) with e | e
    · exact e
    · rcases List.mem_cons.1 ((h y).2 (by simp)) with e2 | e2
      · exact e2.symm
      · exact absurd (ha1 y e2) (asy _ _ (hb1 x e))
   subst e
   rw [ext_of irr asy ha2 hb2 fun z => ⟨fun hz => (List.mem_cons.1 ((h z).1 (List.mem_cons_of_mem _ hz))).resolve_left (fun e => irr _ (e ▸ ha1 z hz)), fun hz => (List.mem_cons.1 ((h z).2 (List.mem_cons_of_mem _ hz))).resolve_left (fun e => irr _ (e ▸ hb1 z hz))⟩]
noncomputable def clsL (rel : Nat → List Int) (n i : Nat) : List Nat := (List.range n).filter fun j => @decide (Rch rel n i j ∧ Rch rel n j i) (Classical.propDecidable _)
theorem clsL_mem {rel : Nat → List Int} {n i j : Nat} : j ∈ clsL rel n i ↔ j < n ∧ Rch rel n i j ∧ Rch rel n j i := by
 unfold clsL
 rw [List.mem_filter, List.mem_range, @decide_eq_true_eq _ (Classical.propDecidable _)]
theorem clsL_rise (rel : Nat → List Int) (n i : Nat) : (clsL rel n i).Pairwise (· < ·) := List.pairwise_lt_range.filter _
noncomputable def compM (rel : Nat → List Int) (n : Nat) : List (List Nat) := (List.range n).filterMap fun i => if (clsL rel n i).head? = some i then some (clsL rel n i) else none
theorem compM_mem {rel : Nat → List Int} {n : Nat} {l : List Nat} : l ∈ compM rel n ↔ ∃ i, i < n ∧ (clsL rel n i).head? = some i ∧ l = clsL rel n i := by
 unfold compM
 rw [List.mem_filterMap]
 constructor
 · rintro ⟨i, hi, e⟩
   split at e
   · exact ⟨i, List.mem_range.1 hi, by assumption, (Option.some.inj e).symm⟩
   · cases e
 · rintro ⟨i, hi, h, rfl⟩
   exact ⟨i, List.mem_range.2 hi, by rw [if_pos h]⟩
def hdK (l : List Nat) : Int := ((l.headD 0 : Nat) : Int)
theorem compM_rise (rel : Nat → List Int) (n : Nat) : (compM rel n).Pairwise fun a b => hdK a < hdK b := by
 unfold compM
 rw [List.pairwise_filterMap]
 refine List.pairwise_lt_range.imp fun {i j} hij a ha b hb => ?_
 simp only [Option.ite_none_right_eq_some] at ha hb
 obtain ⟨h1, e1⟩ := ha
 obtain ⟨h2, e2⟩ := hb
 cases e1
 cases e2
 unfold hdK
 rw [List.headD_eq_head?_getD, List.headD_eq_head?_getD, h1, h2]
 show (i : Int) < (j : Int)
 omega
theorem cls_grp {rel : Nat → List Int} {n : Nat} {G : Nat → Prop} {s : TS} (h : TInv rel n G s) {k : Nat} {l : List Nat} (hk : s.groups[k]? = some l) {x : Nat} (hx : x ∈ l) : clsL rel n x = l := by
 obtain ⟨h1, h2, h3⟩ := h.grp k l hk
 have hxk := (h3 x).1 hx
 refine ext_of (r := (· < ·)) (fun x => Nat.lt_irrefl x) (fun x y a b => by omega) (clsL_rise rel n x) h2 fun y => ?_
 rw [clsL_mem, h3 y]
 constructor
 · intro ⟨a, b⟩
   rw [(h.scc x (by omega) y).1 b, hxk]
 · intro hy
   exact ⟨of_lt h (by omega), (h.scc x (by omega) y).2 (by omega)⟩
theorem grp_sort {rel : Nat → List Int} {n : Nat} {s : TS} (h : TInv rel n (fun _ => False) s) (hof : ∀ x, x < n → 0 ≤ s.of x) {p : List Nat} (hp : p.Perm (List.range s.groups.length)) (hs : (p.map fun k => hdK (s.groups.getD k [])).Pairwise (· ≤ ·)) :
 (p.map fun k => s.groups.getD k []) = compM rel n := by
 have hlt : ∀ k ∈ p, k < s.groups.length := fun k hk => List.mem_range.1 (hp.mem_iff.1 hk)
 have hnd : p.Nodup := hp.nodup_iff.2 List.nodup_range
 have hget : ∀ k ∈ p, s.groups[k]? = some (s.groups.getD k []) := fun k hk => by
  have := hlt k hk
  simp [List.getD, this]
 have hhd : ∀ k ∈ p, s.of ((s.groups.getD k []).headD 0) = (k : Int) := fun k hk => by
  obtain ⟨h1, _, h3⟩ := h.grp k _ (hget k hk)
  refine (h3 _).1 ?_
  cases hl : s.groups.getD k [] with
  | nil => exact absurd hl h1
  | cons x r => simp
 have hr : (p.map fun k => s.groups.getD k []).Pairwise fun a b => hdK a < hdK b := by
  rw [List.pairwise_map] at hs ⊢
  refine (List.Pairwise.and hs hnd).imp_of_mem fun {a b} ha hb hab => ?_
  have h1 := hab.1
  have h2 : hdK (s.groups.getD a []) ≠ hdK (s.groups.getD b []) := fun e => by
   have e2 : (s.groups.getD a []).headD 0 = (s.groups.getD b []).headD 0 := by unfold hdK at e; omega
   have h3 := hhd a ha
   have h4 := hhd b hb
   rw [e2] at h3
   exact hab.2 (by omega)
  omega
 refine ext_of (r := fun a b => hdK a < hdK b) (fun x => Int.lt_irrefl _) (fun x y a b => by omega) hr (compM_rise rel n) fun l => ?_
 rw [compM_mem, List.mem_map]
 constructor
 · rintro ⟨k, hk, rfl⟩
   have hg := hget k hk
   have hh := hhd k hk
   obtain ⟨h1, _, h3⟩ := h.grp k _ hg
   cases hl : s.groups.getD k [] with
   | nil => exact absurd hl h1
   | cons x r =>
     rw [hl] at hh hg
     have hc := cls_grp h hg (x := x) (by simp)
     exact ⟨x, of_lt h (by simp at hh; omega), by rw [hc]; rfl, hc.symm⟩
 · rintro ⟨i, hi, hh, rfl⟩
   obtain ⟨k, hk⟩ : ∃ k : Nat, s.of i = k := ⟨(s.of i).toNat, by have := hof i hi; omega⟩
   have hkl : k < s.groups.length := by have := (h.ofb i).2; omega
   have hkp : k ∈ p := hp.mem_iff.2 (List.mem_range.2 hkl)
   exact ⟨k, hkp, (cls_grp h (hget k hkp) (((h.grp k _ (hget k hkp)).2.2 i).2 hk)).symm⟩
end Go.Proofs
