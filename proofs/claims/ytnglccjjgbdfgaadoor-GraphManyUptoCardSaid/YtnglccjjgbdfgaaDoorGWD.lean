/- Part of a proof that a law of the given program answers true. -/
import Derived.Test.YtnglccjjgbdfgaaDoorGWC
import Derived.Test.YtnglccjjgbdfgaaDoorGWB
import Derived.Shelf.SlSortCmp.NoneTotal
import Derived.Test.YtnglccjjgbdfgaaDoorGCA
import Derived.Test.YtnglccjjgbdfgaaDoorGPB
set_option linter.unusedSimpArgs false
set_option linter.unusedVariables false
set_option maxHeartbeats 4000000
namespace Go.Proofs
open Go.E
theorem er_mslL {H : Nat → Option MObj} {id z n : Nat} {es es' : List V} {ro : Bool} (hH : H id = some (.own z es ro)) (he : ErL true H es es') (hn : es.length = n) : Er true H (.msl id z 0 n) (.sl z false es') := by
 obtain ⟨h1, h2⟩ := he.get
 refine .msl id z 0 n es ro es' rfl hH (by omega) (by omega) fun i c c' h3 h4 => ?_
 rw [Nat.zero_add] at h3
 exact h2 i c c' h3 h4
theorem erL_map {α : Type} {H : Nat → Option MObj} {f g : α → V} : ∀ {l : List α}, (∀ x ∈ l, Er true H (f x) (g x)) → ErL true H (l.map f) (l.map g)
 | [], _ => .nil
 | x :: l, h => .cons (h x (by simp)) (erL_map fun y hy => h y (List.mem_cons_of_mem _ hy))
theorem sort0 : Pure Tryd.prog 24 [.sl 1 false [], .fn 25 []] (.tup []) := by
 refine ⟨⟨Tryd.f24, Tryd.func24, by kernel_rfl, by kernel_rfl⟩, fun w lim ra hg hra => ?_⟩
 obtain ⟨hsz, hrs⟩ := hra
 obtain ⟨r, r2, rfl⟩ : ∃ r r2, ra = #[r, r2] := by
  rcases ra with ⟨l⟩
  match l, hsz with
  | [r, r2], _ => exact ⟨r, r2, rfl⟩
 have h0 := hrs 0 _ r rfl rfl
 obtain ⟨a, cap, rfl⟩ : ∃ a cap, r = .slice a 0 cap := by
  generalize hv : V.sl 1 false [] = v at h0
  cases h0 <;> cases hv
  · exact ⟨_, _, rfl⟩
  · exact ⟨_, _, rfl⟩
 refine (AnyF.slices_SortFunc_none { Tryd.sortL with } a cap r2 w).mono ?_
 rintro e w' ⟨rfl, rfl⟩
 exact ⟨.tuple #[], rfl, RowKit.Below.refl _ _, .tup [] #[] rfl (by simp)⟩
theorem graph_Comps {rl : List (List Int)} (hl : rl.length ≤ 1000000) (hrk : ∀ l ∈ rl, l.length ≤ 1000000) : Pure Tryd.prog 13 [.sl 1 false (rl.map intsV)] (.sl 1 false (((if 4000 < rl.length then [] else compM (relF rl) rl.length).map natI).map intsV)) := by
 refine pure_intro Tryd.func13 e13_nm e13_ok (by show 1 ≤ 15; decide) ?_
 show ewp _ e13n13 _ _
 by_cases hbig : 4000 < rl.length
 · rw [if_pos hbig]
   repeat' with_reducible first
    | refine s_ ?_
    | refine s_ ?_
    | simp -implicitDefEqProofs only [wS, wT, wU, wV, wW, wX, wY, wC, wF, wG, wL, wM, wN, seval, Int.cast_ofNat_Int, Int.reduceLT, Int.reduceLE, Int.reduceEq, Int.reduceToNat, decide_true, decide_false, Bool.false_eq_true]
    | (refine condQ_j (fun h h_ => ?_) (fun h h_ => ?_) <;> (try simp only [wD, reduceCtorEq] at h_) <;> (try (exfalso; first | omega | exact absurd (Eq.trans (Eq.symm h_) (by assumption) : false = true) (by decide) | exact absurd (Eq.trans (Eq.symm h_) (by assumption) : true = false) (by decide) | (refine absurd ?_ h_; focus assumption) | (refine absurd h_ ?_; focus assumption))) <;> (try simp only [h]))
    | (apply strAdd; (focus (first | omega | (simp only [wZ] <;> omega))))
    | (apply ldQ_whole)
    | (apply ldQ_sub; (exact wu_); (exact wu_); (focus ((try simp -implicitDefEqProofs only [wE, Nat.reduceAdd]); rfl)))
    | (apply ldQ_obj; (exact wd_); (exact wu_))
    | (apply ldQ_cell; (exact wu_))
    | (apply ldQ_one; (exact wu_))
    | (apply ld_ipQ; (exact wu_))
    | simp -implicitDefEqProofs (disch := omega) only [w64, if_neg]
   refine post1 rfl (Or.inr rfl) ?_
   simp -implicitDefEqProofs only [wL, seval]
   first | refine er_bool ?_ | refine er_int ?_ | refine er_str ?_ | refine er_sl_eq ?_ | refine er_asl_eq ?_
   try (with_reducible rfl)
 · rw [if_neg hbig]
   obtain ⟨n, hrl⟩ : ∃ n, n = rl.length := ⟨_, rfl⟩
   have hrl := hrl.symm
   rw [hrl] at hbig hl ⊢
   repeat' with_reducible first
    | refine s_ ?_
    | refine s_ ?_
    | simp -implicitDefEqProofs only [wS, wT, wU, wV, wW, wX, wY, wC, wF, wG, wL, wM, wN, seval, Int.cast_ofNat_Int, Int.reduceLT, Int.reduceLE, Int.reduceEq, Int.reduceToNat, decide_true, decide_false, Bool.false_eq_true, hrl]
    | (refine condQ_j (fun h h_ => ?_) (fun h h_ => ?_) <;> (try simp only [wD, reduceCtorEq] at h_) <;> (try (exfalso; first | omega | exact absurd (Eq.trans (Eq.symm h_) (by assumption) : false = true) (by decide) | exact absurd (Eq.trans (Eq.symm h_) (by assumption) : true = false) (by decide) | (refine absurd ?_ h_; focus assumption) | (refine absurd h_ ?_; focus assumption))) <;> (try simp only [h]))
    | (refine callQWc rfl rfl rfl ((walkC hl hrl hrk).mono ?_); rintro v1 H1 n1 ⟨wi, ni, li, oi, lo, rfl, hD, q2, ⟨sv, gv, gs, W⟩, q4⟩)
    | (apply strAdd; (focus (first | omega | (simp only [wZ] <;> omega))))
    | (apply ldQ_whole)
    | (apply ldQ_sub; (exact wu_); (exact wu_); (focus ((try simp -implicitDefEqProofs only [wE, Nat.reduceAdd]); rfl)))
    | (apply ldQ_obj; (exact wd_); (exact wu_))
    | (apply ldQ_cell; (exact wu_))
    | (apply ldQ_one; (exact wu_))
    | (apply ld_ipQ; (exact wu_))
    | simp -implicitDefEqProofs (disch := omega) only [w64, if_neg]
   obtain ⟨hI, hst, hof⟩ := tar_ok (relF rl) n
   generalize ht : tarT (relF rl) n = t at *
   by_cases h0 : gs = []
   · have hg0 : t.groups.length = 0 := by rw [← W.ga.ln, h0]; rfl
     have hn0 : n = 0 := by
      rcases Nat.eq_zero_or_pos n with e | e
      · exact e
      · have := hof 0 e
        have := (hI.ofb 0).2
        omega
     have hge : ∀ HH : Nat → Option MObj, HH = H1 → Er true HH gv (.sl 1 false []) := fun HH e => W.gr.er e h0
     repeat' with_reducible first
      | refine s_ ?_
      | refine s_ ?_
      | simp -implicitDefEqProofs only [wS, wT, wU, wV, wW, wX, wY, wC, wF, wG, wL, wM, wN, seval, Int.cast_ofNat_Int, Int.reduceLT, Int.reduceLE, Int.reduceEq, Int.reduceToNat, decide_true, decide_false, Bool.false_eq_true, W.w]
      | (refine condQ_j (fun h h_ => ?_) (fun h h_ => ?_) <;> (try simp only [wD, reduceCtorEq] at h_) <;> (try (exfalso; first | omega | exact absurd (Eq.trans (Eq.symm h_) (by assumption) : false = true) (by decide) | exact absurd (Eq.trans (Eq.symm h_) (by assumption) : true = false) (by decide) | (refine absurd ?_ h_; focus assumption) | (refine absurd h_ ?_; focus assumption))) <;> (try simp only [h]))
      | (apply callQB2 (hp := sort0); (focus exact hge _ rfl); (focus exact .fn _ _ _ rfl (fun i c c' h => by simp at h)); (exact wu_); (focus exact .tup _ (fun c h => by simp at h)))
      | (apply strAdd; (focus (first | omega | (simp only [wZ] <;> omega))))
      | (apply ldQ_whole)
      | (apply ldQ_sub; (exact wu_); (exact wu_); (focus ((try simp -implicitDefEqProofs only [wE, Nat.reduceAdd]); rfl)))
      | (apply ldQ_obj; (exact wd_); (exact wu_))
      | (apply ldQ_cell; (exact wu_))
      | (apply ldQ_one; (exact wu_))
      | (apply ld_ipQ; (exact wu_))
      | simp -implicitDefEqProofs (disch := omega) only [w64, if_neg]
     refine post1 (t := 2) rfl (Or.inr rfl) ?_
     (simp -implicitDefEqProofs only [wL, seval])
     rw [hn0]
     exact hge _ rfl
   · rcases W.gr with ⟨h1, _⟩ | ⟨gid, rfl, hgH, hg1, hg2⟩
     · exact absurd h1 h0
     have hgl := W.ga.ln
     have hpl : ∀ k, k < t.groups.length → ∃ id, gs[k]? = some (.msl id 1 0 (t.groups.getD k []).length) ∧ H1 id = some (.own 1 (ivs (natI (t.groups.getD k []))) false) ∧ id ≠ gid ∧ 0 < (t.groups.getD k []).length := fun k hk => by
      have hgk : t.groups[k]? = some (t.groups.getD k []) := by simp [List.getD, hk]
      obtain ⟨id, a, b, _, _, _, c⟩ := W.ga.pl k _ hgk
      exact ⟨id, a, b, fun e => c (by rw [e]; rfl), List.length_pos_iff.2 (hI.grp k _ hgk).1⟩
     have hgp : 0 < gs.length := List.length_pos_iff.2 h0
     have hsrt := fun (HH : Nat → Option MObj) (nn : Nat) (e : ∀ j, HH j = H1 j) => slices_SortFunc (H := HH) (next := nn) (id := gid) (key := fun k => hdK (t.groups.getD k [])) ((e gid).trans hgH) hgp (by have := grp_len hI; omega) (fun i e2 he => by
      have hi : i < t.groups.length := by have := (List.getElem?_eq_some_iff.1 he).1; omega
      obtain ⟨id, a, b, c, d⟩ := hpl i hi
      rw [he] at a
      refine ⟨id, _, false, natI (t.groups.getD i []), Option.some.inj a, c, (e id).trans b, d, ?_⟩
      cases hl : t.groups.getD i [] with
      | nil => rw [hl] at d; simp at d
      | cons x r => simp [natI, hdK])
     repeat' with_reducible first
      | refine s_ ?_
      | refine s_ ?_
      | simp -implicitDefEqProofs only [wS, wT, wU, wV, wW, wX, wY, wC, wF, wG, wL, wM, wN, seval, Int.cast_ofNat_Int, Int.reduceLT, Int.reduceLE, Int.reduceEq, Int.reduceToNat, decide_true, decide_false, Bool.false_eq_true, W.w]
      | (refine condQ_j (fun h h_ => ?_) (fun h h_ => ?_) <;> (try simp only [wD, reduceCtorEq] at h_) <;> (try (exfalso; first | omega | exact absurd (Eq.trans (Eq.symm h_) (by assumption) : false = true) (by decide) | exact absurd (Eq.trans (Eq.symm h_) (by assumption) : true = false) (by decide) | (refine absurd ?_ h_; focus assumption) | (refine absurd h_ ?_; focus assumption))) <;> (try simp only [h]))
      | (refine callQWc rfl rfl rfl ((hsrt _ _ (fun j => by first | rfl | ((try simp only [wM]); (repeat first | rw [if_pos trivial] | rw [if_pos rfl] | rw [if_neg (by omega)])))).mono ?_); rintro v2 H2 n2 ⟨rfl, rfl, ⟨p, hp1, hp2, hp3⟩, u4⟩)
      | (apply strAdd; (focus (first | omega | (simp only [wZ] <;> omega))))
      | (apply ldQ_whole)
      | (apply ldQ_sub; (exact wu_); (exact wu_); (focus ((try simp -implicitDefEqProofs only [wE, Nat.reduceAdd]); rfl)))
      | (apply ldQ_obj; (exact wd_); (exact wu_))
      | (apply ldQ_cell; (exact wu_))
      | (apply ldQ_one; (exact wu_))
      | (apply ld_ipQ; (exact wu_))
      | simp -implicitDefEqProofs (disch := omega) only [w64, if_neg]
     refine post1 (t := 2) rfl (Or.inr rfl) ?_
     (simp -implicitDefEqProofs only [wL, seval])
     have hpl2 : p.length = gs.length := by have := hp1.length_eq; simpa using this
     rw [hgl] at hp1
     rw [← grp_sort hI hof hp1 hp2, List.map_map, List.map_map]
     refine er_mslL (ro := false) (by ((try simp only [wM]); (repeat first | rw [if_pos trivial] | rw [if_pos rfl] | rw [if_neg (by omega)])); exact hp3) (erL_map fun k hk => ?_) (by simp [hpl2])
     have hkl := List.mem_range.1 (hp1.mem_iff.1 hk)
     obtain ⟨id, a, b, c, d⟩ := hpl k hkl
     have ea : gs.getD k .undef = .msl id 1 0 (t.groups.getD k []).length := by rw [List.getD_eq_getElem?_getD, a]; rfl
     rw [ea]
     have hb2 := (u4 id c).trans b
     exact er_msl_eq (ro := false) (by ((try simp only [wM]); (repeat first | rw [if_pos trivial] | rw [if_pos rfl] | rw [if_neg (by omega)])); exact hb2) (by simp [natI_len]) (by rw [List.drop_zero]; exact List.take_of_length_le (by simp [natI_len]))

theorem Gr.slcQ {α : Type} {f : α → V} {H : Nat → Option MObj} {next z : Nat} {l : List α} {v : V} (hg : Gr H next z (l.map f) v) {k : IntKind} {i : Int} {K : V → Prop} (h0 : 0 ≤ i) (h : i.toNat ≤ l.length) (hk : ∀ v', Gr H next z ((l.drop i.toNat).map f) v' → K v') : onS (sliceV z v (some (.int k i)) none none) K := by
 rcases hg with rfl | ⟨id, fin, rfl, h1, h2⟩
 · exact slm_loQ h0 h (hk _ (Or.inl rfl))
 · exact slm_lo_aslQ h0 h (hk _ (Or.inr ⟨id, fin, rfl, h1, h2⟩))
structure RchA (rel : Nat → List Int) (n i : Nat) (out todo : List Int) : Prop where
 rise : Rise out
 mem : ∀ x ∈ out, ∃ k : Nat, x = k ∧ k < n ∧ Rch rel n i k
 sub : ∀ x ∈ todo, x ∈ out
theorem RchA.len {rel : Nat → List Int} {n i : Nat} {out todo : List Int} (h : RchA rel n i out todo) : out.length ≤ n :=
 rise_bound h.rise (fun x hx => by obtain ⟨k, rfl, hk, _⟩ := h.mem x hx; omega)
theorem RchA.step {rel : Nat → List Int} {n i k : Nat} {out todo l : List Int} (h : RchA rel n i out ((k : Int) :: todo)) (hl : ∀ j ∈ l, j ∈ rel k) :
 RchA rel n i (l.foldl (rchS n) (out, todo)).1 (l.foldl (rchS n) (out, todo)).2 ∧ (l.foldl (rchS n) (out, todo)).2.length + out.length = todo.length + (l.foldl (rchS n) (out, todo)).1.length := by
 obtain ⟨k', e, hk, hr⟩ := h.mem k (h.sub k (by simp))
 obtain rfl : k = k' := by omega
 obtain ⟨a1, a2, a3, a4, a5, a6, a7, a8⟩ := rchS_ok hk hr l out todo hl h.rise h.mem (fun y hy => h.sub y (List.mem_cons_of_mem _ hy))
 exact ⟨⟨a1, a2, a3⟩, a8⟩
theorem yuccaref1_Reach {rl : List (List Int)} {i : Nat} (hl : rl.length ≤ 1000000) (hrk : ∀ l ∈ rl, l.length ≤ 1000000) (hi : i < rl.length) : Pure Tryd.prog 22 [.sl 1 false (rl.map intsV), vi (i : Int)] (ints (reachS (relF rl) rl.length i)) := by
 refine pure_intro Tryd.func22 e22_nm e22_ok (by show 2 ≤ 60; decide) ?_
 show ewp _ e22n38 _ _
 obtain ⟨R, hR⟩ : ∃ R, R = reachS (relF rl) rl.length i := ⟨_, rfl⟩
 rw [← hR]
 repeat' with_reducible first
  | refine s_ ?_
  | refine s_ ?_
  | refine s_ ?_
  | simp -implicitDefEqProofs only [wS, wT, wU, wV, wW, wX, wY, wC, wF, wG, wL, wM, wN, seval, Int.cast_ofNat_Int, Int.reduceLT, Int.reduceLE, Int.reduceEq, Int.reduceToNat, decide_true, decide_false, Bool.false_eq_true]
  | (refine condQ_j (fun h h_ => ?_) (fun h h_ => ?_) <;> (try simp only [wD, reduceCtorEq] at h_) <;> (try (exfalso; first | omega | exact absurd (Eq.trans (Eq.symm h_) (by assumption) : false = true) (by decide) | exact absurd (Eq.trans (Eq.symm h_) (by assumption) : true = false) (by decide) | (refine absurd ?_ h_; focus assumption) | (refine absurd h_ ?_; focus assumption))) <;> (try simp only [h]))
  | ((first | refine gdQ_iT (fun h => ?_) (fun h => ?_) | refine gdQ_iF (fun h => ?_) (fun h => ?_)) <;> have h_ := h <;> (try simp only [wD, reduceCtorEq] at h_) <;> (try (exfalso; first | omega | exact absurd (Eq.trans (Eq.symm h_) (by assumption) : false = true) (by decide) | exact absurd (Eq.trans (Eq.symm h_) (by assumption) : true = false) (by decide) | (refine absurd ?_ h_; focus assumption) | (refine absurd h_ ?_; focus assumption))) <;> (try simp only [h]))
  | (apply ia_slQ; (focus omega); (exact wd_))
  | (apply ia_aslQ; (focus omega); (exact wd_))
  | (apply appQ_C; (focus (first | exact SrcN.sl | exact SrcN.asl | exact SrcN.str)); (exact wf_); (focus (unfold maxLen; first | omega | (simp only [wZ] <;> omega))))
  | (refine app_asl ?_; simp -implicitDefEqProofs only [wM, wN, seval]; apply appT_i; (focus (first | exact SrcN.sl | exact SrcN.asl | exact SrcN.str)); (exact wf_); (focus (unfold maxLen; first | omega | (simp only [wZ] <;> omega))))
  | (apply slm_hiQ; (focus omega); (exact wf_))
  | (apply slm_loQ; (focus omega); (exact wf_))
  | (apply slm_lohiQ; (focus omega); (focus omega); (exact wf_))
  | (apply slm_lo_aslQ; (focus omega); (exact wf_))
  | (apply fil_part; (exact wu_); (exact wu_); (exact wu_); (focus ((try simp -implicitDefEqProofs only [wY]); rfl)))
  | (apply strAdd; (focus (first | omega | (simp only [wZ] <;> omega))))
  | (apply ldQ_whole)
  | (apply ldQ_sub; (exact wu_); (exact wu_); (focus ((try simp -implicitDefEqProofs only [wE, Nat.reduceAdd]); rfl)))
  | (apply ldQ_obj; (exact wd_); (exact wu_))
  | (apply ldQ_cell; (exact wu_))
  | (apply ldQ_one; (exact wu_))
  | (apply ld_ipQ; (exact wu_))
  | (apply callQ2 (hp := yuccaref0_Has ?_); (exact we_); (exact we_); rotate_left; (exact wf_))
  | (apply callQ2 (hp := yuccaref0_Put ?_); (exact we_); (exact we_); rotate_left; (exact wf_))
  | simp -implicitDefEqProofs (disch := omega) only [w64, if_neg]
 refine ewp_loopN ?nx1 (fun (q : Nat × List Int × List Int) s => s.f 0 = ?v1_0 ∧ (∃ c, s.f 5 = .sl 1 c (q.2.1.map (V.int .i64))) ∧ (∃ v, s.f 6 = v ∧ Gr s.H s.next 1 (q.2.2.map (V.int .i64)) v) ∧ (RchA (relF rl) rl.length i q.2.1 q.2.2) ∧ (rchF (relF rl) rl.length q.1 q.2.1 q.2.2 = R) ∧ (q.2.2.length + rl.length < q.1 + q.2.1.length) ∧ (q.1 ≤ rl.length + 1)) (fun q => q.1) ((rl.length + 1, [(i : Int)], [(i : Int)])) wj_ (by refine ⟨?_, ?_, ?_, (by exact ⟨List.pairwise_singleton _ _, fun x hx => ⟨i, List.mem_singleton.1 hx, hi, .refl _⟩, fun x hx => hx⟩), (by exact hR.symm), (by (dsimp only [List.length_cons, List.length_nil]; omega)), (by exact Nat.le_refl _)⟩ <;> first | (simp -implicitDefEqProofs only [wL, wM, wN, wX, seval, Option.some.injEq] <;> exact wt_) | rfl | exact ⟨_, rfl⟩) ?_
 intro q s hnx ⟨g0, ⟨c5, g5⟩, ⟨v6, g6, G6⟩, k1_0, k1_1, k1_2, k1_3⟩
 obtain ⟨f, out, todo⟩ := q
 dsimp only at *
 have hol := k1_0.len
 cases todo with
 | nil =>
   have e : out = R := by
    rw [← k1_1]; cases f <;> rfl
   rw [e] at g5
   repeat' with_reducible first
    | refine s_ ?_
    | refine s_ ?_
    | refine s_ ?_
    | simp -implicitDefEqProofs only [wS, wT, wU, wV, wW, wX, wY, wC, wF, wG, wL, wM, wN, seval, Int.cast_ofNat_Int, Int.reduceLT, Int.reduceLE, Int.reduceEq, Int.reduceToNat, decide_true, decide_false, Bool.false_eq_true, g0, g5, g6, G6.len]
    | (refine condQ_j (fun h h_ => ?_) (fun h h_ => ?_) <;> (try simp only [wD, reduceCtorEq] at h_) <;> (try (exfalso; first | omega | exact absurd (Eq.trans (Eq.symm h_) (by assumption) : false = true) (by decide) | exact absurd (Eq.trans (Eq.symm h_) (by assumption) : true = false) (by decide) | (refine absurd ?_ h_; focus assumption) | (refine absurd h_ ?_; focus assumption))) <;> (try simp only [h]))
    | ((first | refine gdQ_iT (fun h => ?_) (fun h => ?_) | refine gdQ_iF (fun h => ?_) (fun h => ?_)) <;> have h_ := h <;> (try simp only [wD, reduceCtorEq] at h_) <;> (try (exfalso; first | omega | exact absurd (Eq.trans (Eq.symm h_) (by assumption) : false = true) (by decide) | exact absurd (Eq.trans (Eq.symm h_) (by assumption) : true = false) (by decide) | (refine absurd ?_ h_; focus assumption) | (refine absurd h_ ?_; focus assumption))) <;> (try simp only [h]))
    | (apply ia_slQ; (focus omega); (exact wd_))
    | (apply Gr.iaQ G6; (focus omega); (exact wd_))
    | (apply ia_aslQ; (focus omega); (exact wd_))
    | (apply appQ_G (hg := G6); (focus (first | rfl | (simp -implicitDefEqProofs only [wM]; done))); (focus (first | exact SrcN.sl | exact SrcN.asl | exact SrcN.gr G6 | exact SrcN.str)); (exact wf_); (focus (unfold maxLen; first | omega | (simp only [wZ] <;> omega))))
    | (apply appQ_C; (focus (first | exact SrcN.sl | exact SrcN.asl | exact SrcN.gr G6 | exact SrcN.str)); (exact wf_); (focus (unfold maxLen; first | omega | (simp only [wZ] <;> omega))))
    | (refine app_asl ?_; simp -implicitDefEqProofs only [wM, wN, seval, g0, g5, g6]; apply appT_i; (focus (first | exact SrcN.sl | exact SrcN.asl | exact SrcN.gr G6 | exact SrcN.str)); (exact wf_); (focus (unfold maxLen; first | omega | (simp only [wZ] <;> omega))))
    | (apply slm_hiQ; (focus omega); (exact wf_))
    | (apply slm_loQ; (focus omega); (exact wf_))
    | (apply slm_lohiQ; (focus omega); (focus omega); (exact wf_))
    | (apply slm_lo_aslQ; (focus omega); (exact wf_))
    | (apply fil_part; (exact wu_); (exact wu_); (exact wu_); (focus ((try simp -implicitDefEqProofs only [wY]); rfl)))
    | (apply strAdd; (focus (first | omega | (simp only [wZ] <;> omega))))
    | (apply ldQ_whole)
    | (apply ldQ_sub; (exact wu_); (exact wu_); (focus ((try simp -implicitDefEqProofs only [wE, Nat.reduceAdd]); rfl)))
    | (apply ldQ_obj; (exact wd_); (exact wu_))
    | (apply ldQ_cell; (exact wu_))
    | (apply ldQ_one; (exact wu_))
    | (apply ld_ipQ; (exact wu_))
    | (apply callQ2 (hp := yuccaref0_Has ?_); (focus (first | exact er_intsL | exact er_cl | exact er_sl | exact er_asl | exact G6.er rfl)); (focus (first | exact er_intsL | exact er_cl | exact er_sl | exact er_asl | exact G6.er rfl)); rotate_left; (exact wf_))
    | (apply callQ2 (hp := yuccaref0_Put ?_); (focus (first | exact er_intsL | exact er_cl | exact er_sl | exact er_asl | exact G6.er rfl)); (focus (first | exact er_intsL | exact er_cl | exact er_sl | exact er_asl | exact G6.er rfl)); rotate_left; (exact wf_))
    | simp -implicitDefEqProofs (disch := omega) only [w64, if_neg]
   refine post1 rfl (Or.inr rfl) ?_
   simp -implicitDefEqProofs only [wL, seval, g0, g5, g6]
   first | refine er_bool ?_ | refine er_int ?_ | refine er_str ?_ | refine er_sl_eq ?_ | refine er_asl_eq ?_ | refine G6.er ?_
   try (with_reducible rfl)
 | cons x todo =>
   obtain ⟨k, rfl, hk, hr⟩ := k1_0.mem x (k1_0.sub x (by simp))
   obtain ⟨f, rfl⟩ : ∃ f', f = f' + 1 := ⟨f - 1, by simp at k1_2; omega⟩
   have hgr : rl[k]? = some (relF rl k) := by unfold relF; rw [List.getD_eq_getElem?_getD, List.getElem?_eq_getElem hk]; rfl
   have hrk2 := hrk _ (List.mem_of_getElem? hgr)
   rw [rchF, Int.toNat_natCast] at k1_1
   have hs := fun r => k1_0.step (l := (relF rl k).take r) (fun j hj => List.mem_of_mem_take hj)
   have hx : (((k : Int)) :: todo)[(0 : Int).toNat]? = some ((k : Int)) := rfl
   rw [List.length_cons] at k1_2
   repeat' with_reducible first
    | refine s_ ?_
    | refine s_ ?_
    | refine s_ ?_
    | simp -implicitDefEqProofs only [wS, wT, wU, wV, wW, wX, wY, wC, wF, wG, wL, wM, wN, seval, Int.cast_ofNat_Int, Int.reduceLT, Int.reduceLE, Int.reduceEq, Int.reduceToNat, decide_true, decide_false, Bool.false_eq_true, g0, g5, g6, G6.len]
    | (refine condQ_j (fun h h_ => ?_) (fun h h_ => ?_) <;> (try simp only [wD, reduceCtorEq] at h_) <;> (try (exfalso; first | omega | exact absurd (Eq.trans (Eq.symm h_) (by assumption) : false = true) (by decide) | exact absurd (Eq.trans (Eq.symm h_) (by assumption) : true = false) (by decide) | (refine absurd ?_ h_; focus assumption) | (refine absurd h_ ?_; focus assumption))) <;> (try simp only [h]))
    | ((first | refine gdQ_iT (fun h => ?_) (fun h => ?_) | refine gdQ_iF (fun h => ?_) (fun h => ?_)) <;> have h_ := h <;> (try simp only [wD, reduceCtorEq] at h_) <;> (try (exfalso; first | omega | exact absurd (Eq.trans (Eq.symm h_) (by assumption) : false = true) (by decide) | exact absurd (Eq.trans (Eq.symm h_) (by assumption) : true = false) (by decide) | (refine absurd ?_ h_; focus assumption) | (refine absurd h_ ?_; focus assumption))) <;> (try simp only [h]))
    | (apply Gr.iaQ G6; (focus omega); (focus exact hx))
    | (refine Gr.slcQ G6 (by omega) (by simp) (fun v6 G6 => ?_))
    | (apply ia_slQ; (focus omega); (exact wd_))
    | (apply Gr.iaQ G6; (focus omega); (exact wd_))
    | (apply ia_aslQ; (focus omega); (exact wd_))
    | (apply appQ_G (hg := G6); (focus (first | rfl | (simp -implicitDefEqProofs only [wM]; done))); (focus (first | exact SrcN.sl | exact SrcN.asl | exact SrcN.gr G6 | exact SrcN.str)); (exact wf_); (focus (unfold maxLen; first | omega | (simp only [wZ] <;> omega))))
    | (apply appQ_C; (focus (first | exact SrcN.sl | exact SrcN.asl | exact SrcN.gr G6 | exact SrcN.str)); (exact wf_); (focus (unfold maxLen; first | omega | (simp only [wZ] <;> omega))))
    | (refine app_asl ?_; simp -implicitDefEqProofs only [wM, wN, seval, g0, g5, g6]; apply appT_i; (focus (first | exact SrcN.sl | exact SrcN.asl | exact SrcN.gr G6 | exact SrcN.str)); (exact wf_); (focus (unfold maxLen; first | omega | (simp only [wZ] <;> omega))))
    | (apply slm_hiQ; (focus omega); (exact wf_))
    | (apply slm_loQ; (focus omega); (exact wf_))
    | (apply slm_lohiQ; (focus omega); (focus omega); (exact wf_))
    | (apply slm_lo_aslQ; (focus omega); (exact wf_))
    | (apply fil_part; (exact wu_); (exact wu_); (exact wu_); (focus ((try simp -implicitDefEqProofs only [wY]); rfl)))
    | (apply strAdd; (focus (first | omega | (simp only [wZ] <;> omega))))
    | (apply ldQ_whole)
    | (apply ldQ_sub; (exact wu_); (exact wu_); (focus ((try simp -implicitDefEqProofs only [wE, Nat.reduceAdd]); rfl)))
    | (apply ldQ_obj; (exact wd_); (exact wu_))
    | (apply ldQ_cell; (exact wu_))
    | (apply ldQ_one; (exact wu_))
    | (apply ld_ipQ; (exact wu_))
    | (apply callQ2 (hp := yuccaref0_Has ?_); (focus (first | exact er_intsL | exact er_cl | exact er_sl | exact er_asl | exact G6.er rfl)); (focus (first | exact er_intsL | exact er_cl | exact er_sl | exact er_asl | exact G6.er rfl)); rotate_left; (exact wf_))
    | (apply callQ2 (hp := yuccaref0_Put ?_); (focus (first | exact er_intsL | exact er_cl | exact er_sl | exact er_asl | exact G6.er rfl)); (focus (first | exact er_intsL | exact er_cl | exact er_sl | exact er_asl | exact G6.er rfl)); rotate_left; (exact wf_))
    | simp -implicitDefEqProofs (disch := omega) only [w64, if_neg]
   refine ewp_loopN ?nx2 (fun (r : Nat) s => s.f 0 = ?v2_0 ∧ s.f 7 = ?v2_7 ∧ (∃ c, s.f 5 = .sl 1 c ((((relF rl k).take r).foldl (rchS rl.length) (out, todo)).1.map (V.int .i64))) ∧ (∃ v, s.f 6 = v ∧ Gr s.H s.next 1 ((((relF rl k).take r).foldl (rchS rl.length) (out, todo)).2.map (V.int .i64)) v) ∧ s.f 8 = vi r ∧ (r ≤ (relF rl k).length)) (fun r => (relF rl k).length - r) (0) wj_ (by refine ⟨?_, ?_, ?_, ?_, ?_, (by first | omega | (simp; done) | assumption)⟩ <;> first | (simp -implicitDefEqProofs only [wL, wM, wN, wX, seval, Option.some.injEq, g0, g5, g6] <;> first | rfl | exact ⟨_, rfl⟩ | exact ⟨_, rfl, by first | assumption | exact Gr.nil | exact Gr.tok rfl (by omega) | exact Gr.tok (by simp -implicitDefEqProofs only [wM, seval] <;> rfl) (by omega) | exact Gr.clip | exact G6.to (by first | rfl | (simp [*]; done)) (by omega) rfl⟩) | rfl | exact ⟨_, rfl⟩ | exact ⟨_, rfl, by first | assumption | exact G6.to (by first | rfl | (simp [*]; done)) (by omega) rfl⟩) ?_
   intro r s hnx ⟨g0, g7, ⟨c5, g5⟩, ⟨v6, g6, G6⟩, g8, k2_0⟩
   obtain ⟨hA, hle⟩ := hs r
   have hal := hA.len
   by_cases hr : r < (relF rl k).length
   · have hg : (relF rl k)[r]? = some (relF rl k)[r] := List.getElem?_eq_getElem hr
     have ht : (relF rl k).take (r + 1) = (relF rl k).take r ++ [(relF rl k)[r]] := by rw [List.take_add_one, hg]; rfl
     generalize (relF rl k)[r] = j at *
     have hst : ((relF rl k).take (r + 1)).foldl (rchS rl.length) (out, todo) = rchS rl.length (((relF rl k).take r).foldl (rchS rl.length) (out, todo)) j := by rw [ht, List.foldl_append]; rfl
     generalize ((relF rl k).take r).foldl (rchS rl.length) (out, todo) = q at *
     obtain ⟨o, td⟩ := q
     dsimp only at *
     have hhas := yuccaref0_Has (a := o) (x := j) (by omega)
     have hput := yuccaref0_Put (l := o) (x := j) (by omega)
     have hz : IntKind.i64.wrap ((r + 1 : Nat) : Int) = ((r + 1 : Nat) : Int) := wrap64 (by omega) (by omega)
     by_cases hc : 0 ≤ j ∧ j < (rl.length : Int) ∧ j ∉ o
     · have e : rchS rl.length (o, td) j = (putL o j, td ++ [j]) := if_pos hc
       rw [e] at hst
       obtain ⟨c1, c2, c3⟩ := hc
       rw [decide_eq_false c3] at hhas
       repeat' with_reducible first
        | refine s_ ?_
        | refine s_ ?_
        | refine s_ ?_
        | simp -implicitDefEqProofs only [wS, wT, wU, wV, wW, wX, wY, wC, wF, wG, wL, wM, wN, seval, Int.cast_ofNat_Int, Int.reduceLT, Int.reduceLE, Int.reduceEq, Int.reduceToNat, decide_true, decide_false, Bool.false_eq_true, g0, g7, g5, g6, g8, hz, G6.len]
        | (refine condQ_j (fun h h_ => ?_) (fun h h_ => ?_) <;> (try simp only [wD, reduceCtorEq] at h_) <;> (try (exfalso; first | omega | exact absurd (Eq.trans (Eq.symm h_) (by assumption) : false = true) (by decide) | exact absurd (Eq.trans (Eq.symm h_) (by assumption) : true = false) (by decide) | (refine absurd ?_ h_; focus assumption) | (refine absurd h_ ?_; focus assumption))) <;> (try simp only [h]))
        | ((first | refine gdQ_iT (fun h => ?_) (fun h => ?_) | refine gdQ_iF (fun h => ?_) (fun h => ?_)) <;> have h_ := h <;> (try simp only [wD, reduceCtorEq] at h_) <;> (try (exfalso; first | omega | exact absurd (Eq.trans (Eq.symm h_) (by assumption) : false = true) (by decide) | exact absurd (Eq.trans (Eq.symm h_) (by assumption) : true = false) (by decide) | (refine absurd ?_ h_; focus assumption) | (refine absurd h_ ?_; focus assumption))) <;> (try simp only [h]))
        | (apply ia_slQ; (focus omega); (focus with_unfolding_all exact hgr))
        | (apply ia_slQ; (focus omega); (focus with_unfolding_all exact hg))
        | (apply callQ2 (hp := hhas); (focus first | exact er_sl | exact er_cl); (focus exact er_cl))
        | (apply callQ2 (hp := hput); (focus first | exact er_sl | exact er_cl); (focus exact er_cl))
        | (apply appQ_G rfl (G6.mono (Nat.le_refl _) (fun id h1 h2 => by (try simp only [wM]); (repeat rw [if_neg (by omega)]))); (focus (first | exact SrcN.sl | exact SrcN.asl)); (focus (simp only [wZ] <;> omega)); (focus (unfold maxLen; simp only [wZ] <;> omega)))
        | (apply ia_slQ; (focus omega); (exact wd_))
        | (apply Gr.iaQ G6; (focus omega); (exact wd_))
        | (apply ia_aslQ; (focus omega); (exact wd_))
        | (apply appQ_G (hg := G6); (focus (first | rfl | (simp -implicitDefEqProofs only [wM]; done))); (focus (first | exact SrcN.sl | exact SrcN.asl | exact SrcN.gr G6 | exact SrcN.str)); (exact wf_); (focus (unfold maxLen; first | omega | (simp only [wZ] <;> omega))))
        | (apply appQ_C; (focus (first | exact SrcN.sl | exact SrcN.asl | exact SrcN.gr G6 | exact SrcN.str)); (exact wf_); (focus (unfold maxLen; first | omega | (simp only [wZ] <;> omega))))
        | (refine app_asl ?_; simp -implicitDefEqProofs only [wM, wN, seval, g0, g7, g5, g6, g8, hz]; apply appT_i; (focus (first | exact SrcN.sl | exact SrcN.asl | exact SrcN.gr G6 | exact SrcN.str)); (exact wf_); (focus (unfold maxLen; first | omega | (simp only [wZ] <;> omega))))
        | (apply slm_hiQ; (focus omega); (exact wf_))
        | (apply slm_loQ; (focus omega); (exact wf_))
        | (apply slm_lohiQ; (focus omega); (focus omega); (exact wf_))
        | (apply slm_lo_aslQ; (focus omega); (exact wf_))
        | (apply fil_part; (exact wu_); (exact wu_); (exact wu_); (focus ((try simp -implicitDefEqProofs only [wY]); rfl)))
        | (apply strAdd; (focus (first | omega | (simp only [wZ] <;> omega))))
        | (apply ldQ_whole)
        | (apply ldQ_sub; (exact wu_); (exact wu_); (focus ((try simp -implicitDefEqProofs only [wE, Nat.reduceAdd]); rfl)))
        | (apply ldQ_obj; (exact wd_); (exact wu_))
        | (apply ldQ_cell; (exact wu_))
        | (apply ldQ_one; (exact wu_))
        | (apply ld_ipQ; (exact wu_))
        | (apply callQ2 (hp := yuccaref0_Has ?_); (focus (first | exact er_intsL | exact er_cl | exact er_sl | exact er_asl | exact G6.er rfl)); (focus (first | exact er_intsL | exact er_cl | exact er_sl | exact er_asl | exact G6.er rfl)); rotate_left; (exact wf_))
        | (apply callQ2 (hp := yuccaref0_Put ?_); (focus (first | exact er_intsL | exact er_cl | exact er_sl | exact er_asl | exact G6.er rfl)); (focus (first | exact er_intsL | exact er_cl | exact er_sl | exact er_asl | exact G6.er rfl)); rotate_left; (exact wf_))
        | simp -implicitDefEqProofs (disch := omega) only [w64, if_neg]
       refine ⟨wk_, r + 1, (by omega), ?_⟩
       refine ⟨?_, ?_, ?_, ?_, ?_, ?_⟩
       iterate 5 (focus (first | (simp -implicitDefEqProofs only [wL, wM, wN, wX, seval, Option.some.injEq, g0, g7, g5, g6, g8, hst] <;> first | rfl | exact ⟨_, rfl⟩ | exact ⟨_, rfl, by first | assumption | exact Gr.nil | exact Gr.tok rfl (by omega) | exact Gr.tok (by simp -implicitDefEqProofs only [wM, seval] <;> rfl) (by omega) | exact Gr.clip | exact G6.to (by first | rfl | (simp [*]; done)) (by omega) rfl⟩) | rfl | exact ⟨_, rfl⟩ | exact ⟨_, rfl, by first | assumption | exact G6.to (by first | rfl | (simp [*]; done)) (by omega) rfl⟩))
       all_goals try omega
     · have e : rchS rl.length (o, td) j = (o, td) := if_neg hc
       rw [e] at hst
       by_cases c1 : 0 ≤ j
       · by_cases c2 : j < (rl.length : Int)
         · have c3 : j ∈ o := Classical.byContradiction fun h => hc ⟨c1, c2, h⟩
           rw [decide_eq_true c3] at hhas
           repeat' with_reducible first
            | refine s_ ?_
            | refine s_ ?_
            | refine s_ ?_
            | simp -implicitDefEqProofs only [wS, wT, wU, wV, wW, wX, wY, wC, wF, wG, wL, wM, wN, seval, Int.cast_ofNat_Int, Int.reduceLT, Int.reduceLE, Int.reduceEq, Int.reduceToNat, decide_true, decide_false, Bool.false_eq_true, g0, g7, g5, g6, g8, hz, G6.len]
            | (refine condQ_j (fun h h_ => ?_) (fun h h_ => ?_) <;> (try simp only [wD, reduceCtorEq] at h_) <;> (try (exfalso; first | omega | exact absurd (Eq.trans (Eq.symm h_) (by assumption) : false = true) (by decide) | exact absurd (Eq.trans (Eq.symm h_) (by assumption) : true = false) (by decide) | (refine absurd ?_ h_; focus assumption) | (refine absurd h_ ?_; focus assumption))) <;> (try simp only [h]))
            | ((first | refine gdQ_iT (fun h => ?_) (fun h => ?_) | refine gdQ_iF (fun h => ?_) (fun h => ?_)) <;> have h_ := h <;> (try simp only [wD, reduceCtorEq] at h_) <;> (try (exfalso; first | omega | exact absurd (Eq.trans (Eq.symm h_) (by assumption) : false = true) (by decide) | exact absurd (Eq.trans (Eq.symm h_) (by assumption) : true = false) (by decide) | (refine absurd ?_ h_; focus assumption) | (refine absurd h_ ?_; focus assumption))) <;> (try simp only [h]))
            | (apply ia_slQ; (focus omega); (focus with_unfolding_all exact hgr))
            | (apply ia_slQ; (focus omega); (focus with_unfolding_all exact hg))
            | (apply callQ2 (hp := hhas); (focus first | exact er_sl | exact er_cl); (focus exact er_cl))
            | (apply ia_slQ; (focus omega); (exact wd_))
            | (apply Gr.iaQ G6; (focus omega); (exact wd_))
            | (apply ia_aslQ; (focus omega); (exact wd_))
            | (apply appQ_G (hg := G6); (focus (first | rfl | (simp -implicitDefEqProofs only [wM]; done))); (focus (first | exact SrcN.sl | exact SrcN.asl | exact SrcN.gr G6 | exact SrcN.str)); (exact wf_); (focus (unfold maxLen; first | omega | (simp only [wZ] <;> omega))))
            | (apply appQ_C; (focus (first | exact SrcN.sl | exact SrcN.asl | exact SrcN.gr G6 | exact SrcN.str)); (exact wf_); (focus (unfold maxLen; first | omega | (simp only [wZ] <;> omega))))
            | (refine app_asl ?_; simp -implicitDefEqProofs only [wM, wN, seval, g0, g7, g5, g6, g8, hz]; apply appT_i; (focus (first | exact SrcN.sl | exact SrcN.asl | exact SrcN.gr G6 | exact SrcN.str)); (exact wf_); (focus (unfold maxLen; first | omega | (simp only [wZ] <;> omega))))
            | (apply slm_hiQ; (focus omega); (exact wf_))
            | (apply slm_loQ; (focus omega); (exact wf_))
            | (apply slm_lohiQ; (focus omega); (focus omega); (exact wf_))
            | (apply slm_lo_aslQ; (focus omega); (exact wf_))
            | (apply fil_part; (exact wu_); (exact wu_); (exact wu_); (focus ((try simp -implicitDefEqProofs only [wY]); rfl)))
            | (apply strAdd; (focus (first | omega | (simp only [wZ] <;> omega))))
            | (apply ldQ_whole)
            | (apply ldQ_sub; (exact wu_); (exact wu_); (focus ((try simp -implicitDefEqProofs only [wE, Nat.reduceAdd]); rfl)))
            | (apply ldQ_obj; (exact wd_); (exact wu_))
            | (apply ldQ_cell; (exact wu_))
            | (apply ldQ_one; (exact wu_))
            | (apply ld_ipQ; (exact wu_))
            | (apply callQ2 (hp := yuccaref0_Has ?_); (focus (first | exact er_intsL | exact er_cl | exact er_sl | exact er_asl | exact G6.er rfl)); (focus (first | exact er_intsL | exact er_cl | exact er_sl | exact er_asl | exact G6.er rfl)); rotate_left; (exact wf_))
            | (apply callQ2 (hp := yuccaref0_Put ?_); (focus (first | exact er_intsL | exact er_cl | exact er_sl | exact er_asl | exact G6.er rfl)); (focus (first | exact er_intsL | exact er_cl | exact er_sl | exact er_asl | exact G6.er rfl)); rotate_left; (exact wf_))
            | simp -implicitDefEqProofs (disch := omega) only [w64, if_neg]
           refine ⟨wk_, r + 1, (by omega), ?_⟩
           refine ⟨?_, ?_, ?_, ?_, ?_, ?_⟩
           iterate 5 (focus (first | (simp -implicitDefEqProofs only [wL, wM, wN, wX, seval, Option.some.injEq, g0, g7, g5, g6, g8, hst] <;> first | rfl | exact ⟨_, rfl⟩ | exact ⟨_, rfl, by first | assumption | exact Gr.nil | exact Gr.tok rfl (by omega) | exact Gr.tok (by simp -implicitDefEqProofs only [wM, seval] <;> rfl) (by omega) | exact Gr.clip | exact G6.to (by first | rfl | (simp [*]; done)) (by omega) rfl⟩) | rfl | exact ⟨_, rfl⟩ | exact ⟨_, rfl, by first | assumption | exact G6.to (by first | rfl | (simp [*]; done)) (by omega) rfl⟩))
           all_goals try omega
         · repeat' with_reducible first
            | refine s_ ?_
            | refine s_ ?_
            | refine s_ ?_
            | simp -implicitDefEqProofs only [wS, wT, wU, wV, wW, wX, wY, wC, wF, wG, wL, wM, wN, seval, Int.cast_ofNat_Int, Int.reduceLT, Int.reduceLE, Int.reduceEq, Int.reduceToNat, decide_true, decide_false, Bool.false_eq_true, g0, g7, g5, g6, g8, hz, G6.len]
            | (refine condQ_j (fun h h_ => ?_) (fun h h_ => ?_) <;> (try simp only [wD, reduceCtorEq] at h_) <;> (try (exfalso; first | omega | exact absurd (Eq.trans (Eq.symm h_) (by assumption) : false = true) (by decide) | exact absurd (Eq.trans (Eq.symm h_) (by assumption) : true = false) (by decide) | (refine absurd ?_ h_; focus assumption) | (refine absurd h_ ?_; focus assumption))) <;> (try simp only [h]))
            | ((first | refine gdQ_iT (fun h => ?_) (fun h => ?_) | refine gdQ_iF (fun h => ?_) (fun h => ?_)) <;> have h_ := h <;> (try simp only [wD, reduceCtorEq] at h_) <;> (try (exfalso; first | omega | exact absurd (Eq.trans (Eq.symm h_) (by assumption) : false = true) (by decide) | exact absurd (Eq.trans (Eq.symm h_) (by assumption) : true = false) (by decide) | (refine absurd ?_ h_; focus assumption) | (refine absurd h_ ?_; focus assumption))) <;> (try simp only [h]))
            | (apply ia_slQ; (focus omega); (focus with_unfolding_all exact hgr))
            | (apply ia_slQ; (focus omega); (focus with_unfolding_all exact hg))
            | (apply ia_slQ; (focus omega); (exact wd_))
            | (apply Gr.iaQ G6; (focus omega); (exact wd_))
            | (apply ia_aslQ; (focus omega); (exact wd_))
            | (apply appQ_G (hg := G6); (focus (first | rfl | (simp -implicitDefEqProofs only [wM]; done))); (focus (first | exact SrcN.sl | exact SrcN.asl | exact SrcN.gr G6 | exact SrcN.str)); (exact wf_); (focus (unfold maxLen; first | omega | (simp only [wZ] <;> omega))))
            | (apply appQ_C; (focus (first | exact SrcN.sl | exact SrcN.asl | exact SrcN.gr G6 | exact SrcN.str)); (exact wf_); (focus (unfold maxLen; first | omega | (simp only [wZ] <;> omega))))
            | (refine app_asl ?_; simp -implicitDefEqProofs only [wM, wN, seval, g0, g7, g5, g6, g8, hz]; apply appT_i; (focus (first | exact SrcN.sl | exact SrcN.asl | exact SrcN.gr G6 | exact SrcN.str)); (exact wf_); (focus (unfold maxLen; first | omega | (simp only [wZ] <;> omega))))
            | (apply slm_hiQ; (focus omega); (exact wf_))
            | (apply slm_loQ; (focus omega); (exact wf_))
            | (apply slm_lohiQ; (focus omega); (focus omega); (exact wf_))
            | (apply slm_lo_aslQ; (focus omega); (exact wf_))
            | (apply fil_part; (exact wu_); (exact wu_); (exact wu_); (focus ((try simp -implicitDefEqProofs only [wY]); rfl)))
            | (apply strAdd; (focus (first | omega | (simp only [wZ] <;> omega))))
            | (apply ldQ_whole)
            | (apply ldQ_sub; (exact wu_); (exact wu_); (focus ((try simp -implicitDefEqProofs only [wE, Nat.reduceAdd]); rfl)))
            | (apply ldQ_obj; (exact wd_); (exact wu_))
            | (apply ldQ_cell; (exact wu_))
            | (apply ldQ_one; (exact wu_))
            | (apply ld_ipQ; (exact wu_))
            | (apply callQ2 (hp := yuccaref0_Has ?_); (focus (first | exact er_intsL | exact er_cl | exact er_sl | exact er_asl | exact G6.er rfl)); (focus (first | exact er_intsL | exact er_cl | exact er_sl | exact er_asl | exact G6.er rfl)); rotate_left; (exact wf_))
            | (apply callQ2 (hp := yuccaref0_Put ?_); (focus (first | exact er_intsL | exact er_cl | exact er_sl | exact er_asl | exact G6.er rfl)); (focus (first | exact er_intsL | exact er_cl | exact er_sl | exact er_asl | exact G6.er rfl)); rotate_left; (exact wf_))
            | simp -implicitDefEqProofs (disch := omega) only [w64, if_neg]
           refine ⟨wk_, r + 1, (by omega), ?_⟩
           refine ⟨?_, ?_, ?_, ?_, ?_, ?_⟩
           iterate 5 (focus (first | (simp -implicitDefEqProofs only [wL, wM, wN, wX, seval, Option.some.injEq, g0, g7, g5, g6, g8, hst] <;> first | rfl | exact ⟨_, rfl⟩ | exact ⟨_, rfl, by first | assumption | exact Gr.nil | exact Gr.tok rfl (by omega) | exact Gr.tok (by simp -implicitDefEqProofs only [wM, seval] <;> rfl) (by omega) | exact Gr.clip | exact G6.to (by first | rfl | (simp [*]; done)) (by omega) rfl⟩) | rfl | exact ⟨_, rfl⟩ | exact ⟨_, rfl, by first | assumption | exact G6.to (by first | rfl | (simp [*]; done)) (by omega) rfl⟩))
           all_goals try omega
       · repeat' with_reducible first
          | refine s_ ?_
          | refine s_ ?_
          | refine s_ ?_
          | simp -implicitDefEqProofs only [wS, wT, wU, wV, wW, wX, wY, wC, wF, wG, wL, wM, wN, seval, Int.cast_ofNat_Int, Int.reduceLT, Int.reduceLE, Int.reduceEq, Int.reduceToNat, decide_true, decide_false, Bool.false_eq_true, g0, g7, g5, g6, g8, hz, G6.len]
          | (refine condQ_j (fun h h_ => ?_) (fun h h_ => ?_) <;> (try simp only [wD, reduceCtorEq] at h_) <;> (try (exfalso; first | omega | exact absurd (Eq.trans (Eq.symm h_) (by assumption) : false = true) (by decide) | exact absurd (Eq.trans (Eq.symm h_) (by assumption) : true = false) (by decide) | (refine absurd ?_ h_; focus assumption) | (refine absurd h_ ?_; focus assumption))) <;> (try simp only [h]))
          | ((first | refine gdQ_iT (fun h => ?_) (fun h => ?_) | refine gdQ_iF (fun h => ?_) (fun h => ?_)) <;> have h_ := h <;> (try simp only [wD, reduceCtorEq] at h_) <;> (try (exfalso; first | omega | exact absurd (Eq.trans (Eq.symm h_) (by assumption) : false = true) (by decide) | exact absurd (Eq.trans (Eq.symm h_) (by assumption) : true = false) (by decide) | (refine absurd ?_ h_; focus assumption) | (refine absurd h_ ?_; focus assumption))) <;> (try simp only [h]))
          | (apply ia_slQ; (focus omega); (focus with_unfolding_all exact hgr))
          | (apply ia_slQ; (focus omega); (focus with_unfolding_all exact hg))
          | (apply ia_slQ; (focus omega); (exact wd_))
          | (apply Gr.iaQ G6; (focus omega); (exact wd_))
          | (apply ia_aslQ; (focus omega); (exact wd_))
          | (apply appQ_G (hg := G6); (focus (first | rfl | (simp -implicitDefEqProofs only [wM]; done))); (focus (first | exact SrcN.sl | exact SrcN.asl | exact SrcN.gr G6 | exact SrcN.str)); (exact wf_); (focus (unfold maxLen; first | omega | (simp only [wZ] <;> omega))))
          | (apply appQ_C; (focus (first | exact SrcN.sl | exact SrcN.asl | exact SrcN.gr G6 | exact SrcN.str)); (exact wf_); (focus (unfold maxLen; first | omega | (simp only [wZ] <;> omega))))
          | (refine app_asl ?_; simp -implicitDefEqProofs only [wM, wN, seval, g0, g7, g5, g6, g8, hz]; apply appT_i; (focus (first | exact SrcN.sl | exact SrcN.asl | exact SrcN.gr G6 | exact SrcN.str)); (exact wf_); (focus (unfold maxLen; first | omega | (simp only [wZ] <;> omega))))
          | (apply slm_hiQ; (focus omega); (exact wf_))
          | (apply slm_loQ; (focus omega); (exact wf_))
          | (apply slm_lohiQ; (focus omega); (focus omega); (exact wf_))
          | (apply slm_lo_aslQ; (focus omega); (exact wf_))
          | (apply fil_part; (exact wu_); (exact wu_); (exact wu_); (focus ((try simp -implicitDefEqProofs only [wY]); rfl)))
          | (apply strAdd; (focus (first | omega | (simp only [wZ] <;> omega))))
          | (apply ldQ_whole)
          | (apply ldQ_sub; (exact wu_); (exact wu_); (focus ((try simp -implicitDefEqProofs only [wE, Nat.reduceAdd]); rfl)))
          | (apply ldQ_obj; (exact wd_); (exact wu_))
          | (apply ldQ_cell; (exact wu_))
          | (apply ldQ_one; (exact wu_))
          | (apply ld_ipQ; (exact wu_))
          | (apply callQ2 (hp := yuccaref0_Has ?_); (focus (first | exact er_intsL | exact er_cl | exact er_sl | exact er_asl | exact G6.er rfl)); (focus (first | exact er_intsL | exact er_cl | exact er_sl | exact er_asl | exact G6.er rfl)); rotate_left; (exact wf_))
          | (apply callQ2 (hp := yuccaref0_Put ?_); (focus (first | exact er_intsL | exact er_cl | exact er_sl | exact er_asl | exact G6.er rfl)); (focus (first | exact er_intsL | exact er_cl | exact er_sl | exact er_asl | exact G6.er rfl)); rotate_left; (exact wf_))
          | simp -implicitDefEqProofs (disch := omega) only [w64, if_neg]
         refine ⟨wk_, r + 1, (by omega), ?_⟩
         refine ⟨?_, ?_, ?_, ?_, ?_, ?_⟩
         iterate 5 (focus (first | (simp -implicitDefEqProofs only [wL, wM, wN, wX, seval, Option.some.injEq, g0, g7, g5, g6, g8, hst] <;> first | rfl | exact ⟨_, rfl⟩ | exact ⟨_, rfl, by first | assumption | exact Gr.nil | exact Gr.tok rfl (by omega) | exact Gr.tok (by simp -implicitDefEqProofs only [wM, seval] <;> rfl) (by omega) | exact Gr.clip | exact G6.to (by first | rfl | (simp [*]; done)) (by omega) rfl⟩) | rfl | exact ⟨_, rfl⟩ | exact ⟨_, rfl, by first | assumption | exact G6.to (by first | rfl | (simp [*]; done)) (by omega) rfl⟩))
         all_goals try omega
   · have htk : (relF rl k).take r = relF rl k := List.take_of_length_le (by omega)
     rw [htk] at g5 G6 hA hle
     repeat' with_reducible first
      | refine s_ ?_
      | refine s_ ?_
      | refine s_ ?_
      | simp -implicitDefEqProofs only [wS, wT, wU, wV, wW, wX, wY, wC, wF, wG, wL, wM, wN, seval, Int.cast_ofNat_Int, Int.reduceLT, Int.reduceLE, Int.reduceEq, Int.reduceToNat, decide_true, decide_false, Bool.false_eq_true, g0, g7, g5, g6, g8, G6.len]
      | (refine condQ_j (fun h h_ => ?_) (fun h h_ => ?_) <;> (try simp only [wD, reduceCtorEq] at h_) <;> (try (exfalso; first | omega | exact absurd (Eq.trans (Eq.symm h_) (by assumption) : false = true) (by decide) | exact absurd (Eq.trans (Eq.symm h_) (by assumption) : true = false) (by decide) | (refine absurd ?_ h_; focus assumption) | (refine absurd h_ ?_; focus assumption))) <;> (try simp only [h]))
      | ((first | refine gdQ_iT (fun h => ?_) (fun h => ?_) | refine gdQ_iF (fun h => ?_) (fun h => ?_)) <;> have h_ := h <;> (try simp only [wD, reduceCtorEq] at h_) <;> (try (exfalso; first | omega | exact absurd (Eq.trans (Eq.symm h_) (by assumption) : false = true) (by decide) | exact absurd (Eq.trans (Eq.symm h_) (by assumption) : true = false) (by decide) | (refine absurd ?_ h_; focus assumption) | (refine absurd h_ ?_; focus assumption))) <;> (try simp only [h]))
      | (apply ia_slQ; (focus omega); (focus with_unfolding_all exact hgr))
      | (apply ia_slQ; (focus omega); (exact wd_))
      | (apply Gr.iaQ G6; (focus omega); (exact wd_))
      | (apply ia_aslQ; (focus omega); (exact wd_))
      | (apply appQ_G (hg := G6); (focus (first | rfl | (simp -implicitDefEqProofs only [wM]; done))); (focus (first | exact SrcN.sl | exact SrcN.asl | exact SrcN.gr G6 | exact SrcN.str)); (exact wf_); (focus (unfold maxLen; first | omega | (simp only [wZ] <;> omega))))
      | (apply appQ_C; (focus (first | exact SrcN.sl | exact SrcN.asl | exact SrcN.gr G6 | exact SrcN.str)); (exact wf_); (focus (unfold maxLen; first | omega | (simp only [wZ] <;> omega))))
      | (refine app_asl ?_; simp -implicitDefEqProofs only [wM, wN, seval, g0, g7, g5, g6, g8]; apply appT_i; (focus (first | exact SrcN.sl | exact SrcN.asl | exact SrcN.gr G6 | exact SrcN.str)); (exact wf_); (focus (unfold maxLen; first | omega | (simp only [wZ] <;> omega))))
      | (apply slm_hiQ; (focus omega); (exact wf_))
      | (apply slm_loQ; (focus omega); (exact wf_))
      | (apply slm_lohiQ; (focus omega); (focus omega); (exact wf_))
      | (apply slm_lo_aslQ; (focus omega); (exact wf_))
      | (apply fil_part; (exact wu_); (exact wu_); (exact wu_); (focus ((try simp -implicitDefEqProofs only [wY]); rfl)))
      | (apply strAdd; (focus (first | omega | (simp only [wZ] <;> omega))))
      | (apply ldQ_whole)
      | (apply ldQ_sub; (exact wu_); (exact wu_); (focus ((try simp -implicitDefEqProofs only [wE, Nat.reduceAdd]); rfl)))
      | (apply ldQ_obj; (exact wd_); (exact wu_))
      | (apply ldQ_cell; (exact wu_))
      | (apply ldQ_one; (exact wu_))
      | (apply ld_ipQ; (exact wu_))
      | (apply callQ2 (hp := yuccaref0_Has ?_); (focus (first | exact er_intsL | exact er_cl | exact er_sl | exact er_asl | exact G6.er rfl)); (focus (first | exact er_intsL | exact er_cl | exact er_sl | exact er_asl | exact G6.er rfl)); rotate_left; (exact wf_))
      | (apply callQ2 (hp := yuccaref0_Put ?_); (focus (first | exact er_intsL | exact er_cl | exact er_sl | exact er_asl | exact G6.er rfl)); (focus (first | exact er_intsL | exact er_cl | exact er_sl | exact er_asl | exact G6.er rfl)); rotate_left; (exact wf_))
      | simp -implicitDefEqProofs (disch := omega) only [w64, if_neg]
     refine ⟨wk_, (f, ((relF rl k).foldl (rchS rl.length) (out, todo)).1, ((relF rl k).foldl (rchS rl.length) (out, todo)).2), (by omega), ?_⟩
     refine ⟨?_, ?_, ?_, ?_, ?_, ?_, ?_⟩
     iterate 3 (focus (first | (simp -implicitDefEqProofs only [wL, wM, wN, wX, seval, Option.some.injEq, g0, g7, g5, g6, g8] <;> first | rfl | exact ⟨_, rfl⟩ | exact ⟨_, rfl, by first | assumption | exact Gr.nil | exact Gr.tok rfl (by omega) | exact Gr.tok (by simp -implicitDefEqProofs only [wM, seval] <;> rfl) (by omega) | exact Gr.clip | exact G6.to (by first | rfl | (simp [*]; done)) (by omega) rfl⟩) | rfl | exact ⟨_, rfl⟩ | exact ⟨_, rfl, by first | assumption | exact G6.to (by first | rfl | (simp [*]; done)) (by omega) rfl⟩))
     all_goals try omega
     all_goals first | exact hA | exact k1_1 | (dsimp only; omega)
end Go.Proofs
