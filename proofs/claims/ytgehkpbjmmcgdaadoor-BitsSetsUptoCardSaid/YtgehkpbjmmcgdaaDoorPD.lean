/-
  Part of a proof that a law of the given program answers true: contracts of its functions, and the law. Holds for inputs of at most 1048576 values and letters in all.
-/
import Derived.Test.YtgehkpbjmmcgdaaDoorPB
set_option linter.unusedSimpArgs false
set_option linter.unusedVariables false
namespace Go.Proofs
open Go.E

/- Rising lists. -/
abbrev Rise (l : List Int) : Prop := l.Pairwise (· < ·)
theorem rise_ext : ∀ {a b : List Int}, Rise a → Rise b → (∀ x, x ∈ a ↔ x ∈ b) → a = b
  | [], [], _, _, _ => rfl
  | [], y :: b, _, _, h => absurd ((h y).2 (List.mem_cons_self ..)) (by simp)
  | x :: a, [], _, _, h => absurd ((h x).1 (List.mem_cons_self ..)) (by simp)
  | x :: a, y :: b, ha, hb, h => by
    have ha' := List.pairwise_cons.1 ha
    have hb' := List.pairwise_cons.1 hb
    have hxy : x = y := by
      have h1 := (h x).1 (List.mem_cons_self ..)
      have h2 := (h y).2 (List.mem_cons_self ..)
      rcases List.mem_cons.1 h1 with e | e
      · exact e
      · rcases List.mem_cons.1 h2 with e2 | e2
        · exact e2.symm
        · have := hb'.1 x e; have := ha'.1 y e2; omega
    subst hxy
    congr 1
    refine rise_ext ha'.2 hb'.2 fun z => ?_
    have hz := h z
    simp only [List.mem_cons] at hz
    constructor
    · intro hm
      rcases hz.1 (Or.inr hm) with e | e
      · subst e; have := ha'.1 z hm; omega
      · exact e
    · intro hm
      rcases hz.2 (Or.inr hm) with e | e
      · subst e; have := hb'.1 z hm; omega
      · exact e
theorem cutP_hi (l : List Int) (x : Int) (n : Nat) : ∀ i, cutP l x n ≤ i → i < n → x < l.getD i 0 := by
  induction n with
  | zero => intro i _ h; omega
  | succ n ih =>
    intro i h1 h2
    rw [cutP_succ] at h1
    split at h1
    · rename_i hlt
      by_cases hi : i = n
      · subst hi; exact hlt
      · exact ih i h1 (by omega)
    · omega
theorem cutP_lo (l : List Int) (x : Int) (n : Nat) : 0 < cutP l x n → l.getD (cutP l x n - 1) 0 ≤ x := by
  induction n with
  | zero => intro h; simp [cutP] at h
  | succ n ih =>
    rw [cutP_succ]
    split
    · exact ih
    · rename_i h; intro _; simpa using h
theorem putL_mem {l : List Int} {x y : Int} : y ∈ putL l x ↔ y ∈ l ∨ y = x := by
  have hk := cutP_le l x l.length
  unfold putL
  split
  · rename_i h
    constructor
    · exact Or.inl
    · rintro (h1 | h1)
      · exact h1
      · subst h1
        rw [← h.2, getD_eq (by omega)]
        exact List.getElem_mem _
  · have e : ∀ y, y ∈ l ↔ y ∈ l.take (cutP l x l.length) ∨ y ∈ l.drop (cutP l x l.length) := by
      intro y
      conv => lhs; rw [← List.take_append_drop (cutP l x l.length) l]
      rw [List.mem_append]
    simp only [List.mem_append, List.mem_singleton, e y]
    constructor
    · rintro ((h | h) | h)
      · exact Or.inl (Or.inl h)
      · exact Or.inr h
      · exact Or.inl (Or.inr h)
    · rintro ((h | h) | h)
      · exact Or.inl (Or.inl h)
      · exact Or.inr h
      · exact Or.inl (Or.inr h)
theorem rise_get {l : List Int} (h : Rise l) {i j : Nat} (hij : i < j) (hj : j < l.length) : l.getD i 0 < l.getD j 0 := by
  rw [getD_eq (by omega), getD_eq hj]
  exact (List.pairwise_iff_getElem.1 h) i j (by omega) hj hij
theorem putL_rise {l : List Int} {x : Int} (h : Rise l) : Rise (putL l x) := by
  have hk := cutP_le l x l.length
  have hhi := cutP_hi l x l.length
  have hlo := cutP_lo l x l.length
  unfold putL
  split
  · exact h
  · rename_i hn
    generalize cutP l x l.length = k at *
    have h1 : ∀ y ∈ l.take k, y < x := by
      intro y hy
      obtain ⟨i, hi, rfl⟩ := List.getElem_of_mem hy
      simp only [List.length_take] at hi
      rw [List.getElem_take, ← getD_eq (by omega)]
      have h0 := hlo (by omega)
      have hne : l.getD (k - 1) 0 ≠ x := fun e => hn ⟨by omega, e⟩
      by_cases hik : i = k - 1
      · subst hik; omega
      · have := rise_get h (show i < k - 1 by omega) (by omega); omega
    have h2 : ∀ y ∈ l.drop k, x < y := by
      intro y hy
      obtain ⟨i, hi, rfl⟩ := List.getElem_of_mem hy
      simp only [List.length_drop] at hi
      rw [List.getElem_drop, ← getD_eq (by omega)]
      exact hhi (k + i) (by omega) (by omega)
    rw [Rise, List.append_assoc, List.pairwise_append]
    refine ⟨h.sublist (List.take_sublist _ _), ?_, ?_⟩
    · rw [List.singleton_append, List.pairwise_cons]
      exact ⟨h2, h.sublist (List.drop_sublist _ _)⟩
    · intro a ha b hb
      have h3 := h1 a ha
      rw [List.singleton_append] at hb
      rcases List.mem_cons.1 hb with e | e
      · subst e; exact h3
      · have := h2 b e; omega
theorem setF_spec (l : List Int) : Rise (setF l) ∧ ∀ x, x ∈ setF l ↔ x ∈ l ∧ 0 ≤ x ∧ x < 1024 := by
  have h : ∀ (l acc : List Int), Rise acc → Rise (l.foldl (fun acc x => if 0 ≤ x ∧ x < 1024 then putL acc x else acc) acc) ∧
      ∀ x, x ∈ l.foldl (fun acc x => if 0 ≤ x ∧ x < 1024 then putL acc x else acc) acc ↔ x ∈ acc ∨ (x ∈ l ∧ 0 ≤ x ∧ x < 1024) := by
    intro l
    induction l with
    | nil => intro acc h; simp [h]
    | cons y l ih =>
      intro acc hacc
      rw [List.foldl_cons]
      by_cases hy : 0 ≤ y ∧ y < 1024
      · rw [if_pos hy]
        obtain ⟨i1, i2⟩ := ih _ (putL_rise (x := y) hacc)
        refine ⟨i1, fun x => ?_⟩
        rw [i2, putL_mem, List.mem_cons]
        constructor
        · rintro ((h | h) | h)
          · exact Or.inl h
          · subst h; exact Or.inr ⟨Or.inl rfl, hy⟩
          · exact Or.inr ⟨Or.inr h.1, h.2⟩
        · rintro (h | ⟨h | h, h2⟩)
          · exact Or.inl (Or.inl h)
          · exact Or.inl (Or.inr h)
          · exact Or.inr ⟨h, h2⟩
      · rw [if_neg hy]
        obtain ⟨i1, i2⟩ := ih _ hacc
        refine ⟨i1, fun x => ?_⟩
        rw [i2, List.mem_cons]
        constructor
        · rintro (h | h)
          · exact Or.inl h
          · exact Or.inr ⟨Or.inr h.1, h.2⟩
        · rintro (h | ⟨h | h, h2⟩)
          · exact Or.inl h
          · subst h; exact absurd h2 hy
          · exact Or.inr ⟨h, h2⟩
  have := h l [] List.Pairwise.nil
  exact ⟨this.1, fun x => by rw [setF, this.2]; simp⟩
theorem lst_rise (m : Nat → Bool) (n : Nat) : Rise (lst m n) := by
  unfold lst Rise
  rw [List.pairwise_map]
  refine List.Pairwise.imp (fun h => ?_) ((List.pairwise_lt_range (n := n)).filter _)
  exact Int.ofNat_lt.2 h
theorem lst_memS (l : List Int) : lst (memS l) 1024 = setF l := by
  refine rise_ext (lst_rise _ _) (setF_spec l).1 fun x => ?_
  rw [lst_mem, (setF_spec l).2]
  constructor
  · rintro ⟨y, h1, h2, rfl⟩
    simp [memS] at h2
    exact ⟨h2.2, by omega, by omega⟩
  · rintro ⟨h1, h2, h3⟩
    refine ⟨x.toNat, by omega, ?_, by omega⟩
    have e : ((x.toNat : Nat) : Int) = x := by omega
    simp only [memS, Bool.and_eq_true, decide_eq_true_eq, e]
    exact ⟨by omega, h1⟩
theorem lst_congr {m n : Nat → Bool} (h : ∀ y, y < 1024 → m y = n y) : lst m 1024 = lst n 1024 := by
  refine rise_ext (lst_rise _ _) (lst_rise _ _) fun x => ?_
  rw [lst_mem, lst_mem]
  constructor
  · rintro ⟨y, h1, h2, rfl⟩; exact ⟨y, h1, (h y h1) ▸ h2, rfl⟩
  · rintro ⟨y, h1, h2, rfl⟩; exact ⟨y, h1, (h y h1).symm ▸ h2, rfl⟩
theorem lst_or (a b : List Int) : lst (fun y => memS a y || memS b y) 1024 = setF (a ++ b) := by
  rw [← lst_memS]
  refine lst_congr fun y hy => ?_
  simp [memS, hy]
theorem memS_iff {l : List Int} {y : Nat} (hy : y < 1024) : memS l y = true ↔ (y : Int) ∈ setF l := by
  rw [(setF_spec l).2]
  simp only [memS, Bool.and_eq_true, decide_eq_true_eq]
  constructor
  · rintro ⟨_, h⟩; exact ⟨h, by omega, by omega⟩
  · rintro ⟨h, _⟩; exact ⟨hy, h⟩
theorem lst_and (a b : List Int) : lst (fun y => memS a y && memS b y) 1024 = (setF a).filter fun x => decide (x ∈ setF b) := by
  refine rise_ext (lst_rise _ _) ((setF_spec a).1.filter _) fun x => ?_
  rw [lst_mem, List.mem_filter, decide_eq_true_eq]
  constructor
  · rintro ⟨y, h1, h2, rfl⟩
    rw [Bool.and_eq_true, memS_iff h1, memS_iff h1] at h2
    exact h2
  · rintro ⟨h1, h2⟩
    have h3 := (setF_spec a).2 x |>.1 h1
    have e : ((x.toNat : Nat) : Int) = x := by omega
    refine ⟨x.toNat, by omega, ?_, by omega⟩
    rw [Bool.and_eq_true, memS_iff (by omega), memS_iff (by omega), e]
    exact ⟨h1, h2⟩
theorem lst_wo (a b : List Int) : lst (fun y => memS a y && !memS b y) 1024 = (setF a).filter fun x => !decide (x ∈ setF b) := by
  refine rise_ext (lst_rise _ _) ((setF_spec a).1.filter _) fun x => ?_
  rw [lst_mem, List.mem_filter]
  constructor
  · rintro ⟨y, h1, h2, rfl⟩
    rw [Bool.and_eq_true, memS_iff h1] at h2
    refine ⟨h2.1, ?_⟩
    have h4 := h2.2
    cases hb : memS b y
    · have : ¬ (y : Int) ∈ setF b := fun h => by rw [(memS_iff h1).2 h] at hb; cases hb
      simp [this]
    · rw [hb] at h4; cases h4
  · rintro ⟨h1, h2⟩
    have h3 := (setF_spec a).2 x |>.1 h1
    have e : ((x.toNat : Nat) : Int) = x := by omega
    refine ⟨x.toNat, by omega, ?_, by omega⟩
    rw [Bool.and_eq_true, memS_iff (by omega), e]
    refine ⟨h1, ?_⟩
    cases hb : memS b x.toNat
    · rfl
    · rw [memS_iff (by omega), e] at hb; simp [hb] at h2
theorem eqS_memS (a b : List Int) : eqS (memS a) (memS b) = decide (setF a = setF b) := by
  rw [Bool.eq_iff_iff, eqS_iff, decide_eq_true_eq]
  constructor
  · intro h; rw [← lst_memS, ← lst_memS]; exact lst_congr h
  · intro h y hy
    have h1 := memS_iff (l := a) hy
    have h2 := memS_iff (l := b) hy
    rw [h] at h1
    cases ha : memS a y <;> cases hb : memS b y <;> simp_all
theorem cnt_memS (l : List Int) : cnt (memS l) 1024 = (setF l).length := by rw [← lst_memS, lst_length]
theorem filter_take_succ {p : Int → Bool} {l : List Int} {k : Nat} (h : k < l.length) : (l.take (k + 1)).filter p = (l.take k).filter p ++ (if p l[k] then [l[k]] else []) := by
  rw [take_snoc h, List.filter_append]
  congr 1
  simp [List.filter_cons]

theorem yuccalaw1_BitsOps {a b : List Int} (ha : a.length ≤ 1099511627776) (hb : b.length ≤ 1099511627776) : Pure Tryd.prog 6 [ints a, ints b] (.bool true) := by
  refine pure_intro Tryd.func6 e6_nm e6_ok (by show 2 ≤ 102; decide) ?_
  show ewp _ e6n36 _ _
  have l1 : (intsN a 60).length ≤ 60 := (intsN_len a 60).1
  have l2 : (intsN b 60).length ≤ 60 := (intsN_len b 60).1
  have s1 := setF_len (intsN a 60)
  have s2 := setF_len (intsN b 60)
  repeat' with_reducible first
    | refine ewp_reg_seq ?_ | refine ewp_seq ?_ | refine ewp_reg ?_ | refine ewp_skip ?_ | refine ewp_ret ?_ | refine ewp_block ?_ | refine ewp_exit ?_ | refine xt_n ?_ | refine xt_r ?_ | refine xt_e ?_ | refine xb_n ?_ | refine xb_r ?_ | refine xb_e ?_ | refine xb_x (by decide) ?_
    | refine ewp_condQ ?_ | refine condQ_T ?_ | refine condQ_F ?_
    | refine L_gdQ ?_ | refine gdQ_TT ?_ | refine gdQ_FF ?_ | refine gdQ_TF ?_ | refine gdQ_FT ?_ | refine gdQ_u ?_
    | simp -implicitDefEqProofs only [wS, wT, wU, wV, wW, wX, wY, wL, wM, wN, Nat.reduceEqDiff, ↓reduceIte, reduceCtorEq, Nat.reduceAdd, Int.cast_ofNat_Int, Int.reduceLT, Int.reduceLE, Int.reduceEq, Int.reduceToNat, decide_true, decide_false, Bool.false_eq_true]
    | (refine condQ_i (fun h => ?_) (fun h => ?_) <;> have h_ := h <;> (try simp only [wD, reduceCtorEq] at h_) <;> (try (exfalso; first | omega | (refine absurd ?_ h_; focus assumption) | (refine absurd h_ ?_; focus assumption))) <;> (try simp only [h]))
    | ((first | refine gdQ_iT (fun h => ?_) (fun h => ?_) | refine gdQ_iF (fun h => ?_) (fun h => ?_)) <;> have h_ := h <;> (try simp only [wD, reduceCtorEq] at h_) <;> (try (exfalso; first | omega | (refine absurd ?_ h_; focus assumption) | (refine absurd h_ ?_; focus assumption))) <;> (try simp only [h]))
    | (apply ia_slQ; (focus omega); (focus (first | assumption | exact List.getElem?_eq_getElem (by omega) | rfl)))
    | (apply ia_mslQ; (focus omega); (focus (first | assumption | omega | (simp only [wZ]; omega) | trivial)))
    | (apply ia_aslQ; (focus omega); (focus (first | assumption | exact List.getElem?_eq_getElem (by omega) | rfl)))
    | (apply appQ_C; (focus (first | exact SrcN.sl | exact SrcN.asl | exact SrcN.str)); (focus (first | assumption | omega | (simp only [wZ]; omega) | trivial)); (focus (unfold maxLen; first | omega | (simp only [wZ]; omega))))
    | (refine app_asl ?_; simp -implicitDefEqProofs only [wM, wN, Nat.reduceEqDiff, ↓reduceIte, reduceCtorEq]; apply appT_i; (focus (first | exact SrcN.sl | exact SrcN.asl | exact SrcN.str)); (focus (first | assumption | omega | (simp only [wZ]; omega) | trivial)); (focus (unfold maxLen; first | omega | (simp only [wZ]; omega))))
    | (apply ldQ_whole)
    | (apply ldQ_obj; (focus (first | assumption | exact List.getElem?_eq_getElem (by omega) | rfl)); (focus with_unfolding_all rfl))
    | (apply ldQ_cell; (focus with_unfolding_all rfl))
    | (apply ldQ_one; (focus with_unfolding_all rfl))
    | (apply ld_ipQ; (focus with_unfolding_all rfl))
    | (apply stQ_whole; (focus with_unfolding_all rfl); (focus with_unfolding_all rfl))
    | (apply stQ_obj; (focus (first | assumption | omega | (simp only [wZ]; omega) | trivial)); (focus with_unfolding_all rfl); (focus with_unfolding_all rfl); (focus (intro _; with_unfolding_all rfl)))
    | (apply stQ_one; (focus with_unfolding_all rfl); (focus with_unfolding_all rfl); (focus with_unfolding_all rfl))
    | (apply stQ_cell; (focus with_unfolding_all rfl); (focus with_unfolding_all rfl); (focus with_unfolding_all rfl); (focus (first | assumption | omega | (simp only [wZ]; omega) | trivial)))
    | (apply callQ0 (hp := yuccalaw1_wakes))
    | (apply callQ2 (hp := yuccalaw0_Ints ?_ ?_); (focus (first | exact er_intsL | exact er_cl | exact er_sl | exact er_asl)); (focus (first | exact er_intsL | exact er_cl | exact er_sl | exact er_asl)); rotate_left; (focus (first | assumption | omega | (simp only [wZ]; omega) | trivial)); (focus (first | assumption | omega | (simp only [wZ]; omega) | trivial)))
    | (apply callQ1 (hp := yuccaref1_Set ?_); (focus (first | exact er_intsL | exact er_cl | exact er_sl | exact er_asl)); rotate_left; (focus (first | assumption | omega | (simp only [wZ]; omega) | trivial)))
    | (apply callQ1 (hp := bits_Of ?_); (focus (first | exact er_intsL | exact er_cl | exact er_sl | exact er_asl)); rotate_left; (focus (first | assumption | omega | (simp only [wZ]; omega) | trivial)))
    | (apply callQ2 (hp := yuccaref0_Has ?_); (focus (first | exact er_intsL | exact er_cl | exact er_sl | exact er_asl)); (focus (first | exact er_intsL | exact er_cl | exact er_sl | exact er_asl)); rotate_left; (focus (first | assumption | omega | (simp only [wZ]; omega) | trivial)))
    | (apply callQ2 (hp := bits_Or); (focus (first | exact er_intsL | exact er_cl | exact er_sl | exact er_asl)); (focus (first | exact er_intsL | exact er_cl | exact er_sl | exact er_asl)))
    | (apply callQ1 (hp := bits_Set_List); (focus (first | exact er_intsL | exact er_cl | exact er_sl | exact er_asl)))
    | (apply callQ2 (hp := yuccaref0_EqInts ?_ ?_); (focus (first | exact er_intsL | exact er_cl | exact er_sl | exact er_asl)); (focus (first | exact er_intsL | exact er_cl | exact er_sl | exact er_asl)); rotate_left; (focus (first | assumption | omega | (simp only [wZ]; omega) | trivial)); (focus (first | assumption | omega | (simp only [wZ]; omega) | trivial)))
    | (apply callQ2 (hp := bits_And); (focus (first | exact er_intsL | exact er_cl | exact er_sl | exact er_asl)); (focus (first | exact er_intsL | exact er_cl | exact er_sl | exact er_asl)))
    | (apply callQ2 (hp := bits_Without); (focus (first | exact er_intsL | exact er_cl | exact er_sl | exact er_asl)); (focus (first | exact er_intsL | exact er_cl | exact er_sl | exact er_asl)))
    | (apply callQ2 (hp := bits_Eq); (focus (first | exact er_intsL | exact er_cl | exact er_sl | exact er_asl)); (focus (first | exact er_intsL | exact er_cl | exact er_sl | exact er_asl)))
    | simp -implicitDefEqProofs (disch := omega) only [w64, if_neg]
  generalize intsN a 60 = p at *
  generalize intsN b 60 = q at *
  refine ewp_loopN ?nx1 (fun (k : Nat) s => s.f 0 = ?v1_0 ∧ s.f 1 = ?v1_1 ∧ s.f 5 = ?v1_5 ∧ s.f 6 = ?v1_6 ∧ s.f 7 = ?v1_7 ∧ s.f 8 = ?v1_8 ∧ s.H 19 = ?o1_0 ∧ s.H 20 = ?o1_1 ∧ (∃ v, s.f 9 = v ∧ Gr s.H s.next 1 ((((setF p).take k).filter fun x => decide (x ∈ setF q)).map (V.int .i64)) v) ∧ (∃ v, s.f 10 = v ∧ Gr s.H s.next 1 ((((setF p).take k).filter fun x => !decide (x ∈ setF q)).map (V.int .i64)) v) ∧ s.f 11 = vi k ∧ (k ≤ (setF p).length) ∧ (Sep (s.f 9) (s.f 10))) (fun k => (setF p).length - k) (0) (by simp -implicitDefEqProofs only [wN, Nat.reduceAdd, Nat.zero_add]; exact Nat.le_refl _) (by refine ⟨?_, ?_, ?_, ?_, ?_, ?_, ?_, ?_, ?_, ?_, ?_, (by first | omega | (simp; done) | assumption), (by (try simp -implicitDefEqProofs only [wL, wM, wN, Nat.reduceEqDiff, ↓reduceIte, reduceCtorEq]); first | exact Sep.slL | exact Sep.slR | exact Sep.ids (by omega))⟩ <;> first | (simp -implicitDefEqProofs only [wL, wM, wN, wX, Nat.reduceEqDiff, ↓reduceIte, reduceCtorEq, Nat.reduceAdd, Option.some.injEq] <;> first | rfl | exact ⟨_, rfl⟩ | exact ⟨_, rfl, by first | assumption | exact Gr.nil | exact Gr.tok rfl (by omega) | exact Gr.tok (by simp -implicitDefEqProofs only [wM, Nat.reduceEqDiff, ↓reduceIte, reduceCtorEq] <;> rfl) (by omega) | exact Gr.clip⟩) | rfl | exact ⟨_, rfl⟩) ?_
  intro k s hnx ⟨g0, g1, g5, g6, g7, g8, o0, o1, ⟨v9, g9, G9⟩, ⟨v10, g10, G10⟩, g11, k1_0, S9_10⟩
  rw [g9, g10] at S9_10
  by_cases hk : k < (setF p).length
  · have e1 := filter_take_succ (p := fun x => decide (x ∈ setF q)) hk
    have e2 := filter_take_succ (p := fun x => !decide (x ∈ setF q)) hk
    have n1 := List.length_filter_le (fun x => decide (x ∈ setF q)) ((setF p).take k)
    have n2 := List.length_filter_le (fun x => !decide (x ∈ setF q)) ((setF p).take k)
    rw [List.length_take] at n1 n2
    by_cases hm : (setF p)[k] ∈ setF q
    · simp only [hm, decide_true, Bool.not_true, ↓reduceIte, Bool.false_eq_true, List.append_nil] at e1 e2
      repeat' with_reducible first
        | refine ewp_reg_seq ?_ | refine ewp_seq ?_ | refine ewp_reg ?_ | refine ewp_skip ?_ | refine ewp_ret ?_ | refine ewp_block ?_ | refine ewp_exit ?_ | refine xt_n ?_ | refine xt_r ?_ | refine xt_e ?_ | refine xb_n ?_ | refine xb_r ?_ | refine xb_e ?_ | refine xb_x (by decide) ?_
        | refine ewp_condQ ?_ | refine condQ_T ?_ | refine condQ_F ?_
        | refine L_gdQ ?_ | refine gdQ_TT ?_ | refine gdQ_FF ?_ | refine gdQ_TF ?_ | refine gdQ_FT ?_ | refine gdQ_u ?_
        | simp -implicitDefEqProofs only [wS, wT, wU, wV, wW, wX, wY, wL, wM, wN, Nat.reduceEqDiff, ↓reduceIte, reduceCtorEq, Nat.reduceAdd, Int.cast_ofNat_Int, Int.reduceLT, Int.reduceLE, Int.reduceEq, Int.reduceToNat, decide_true, decide_false, Bool.false_eq_true, g0, g1, g5, g6, g7, g8, g9, g10, g11, o0, o1, Gr.dropO G9 o0, Gr.dropO G9 o1, Gr.dropO G10 o0, Gr.dropO G10 o1, G9.len, G10.len]
        | (refine condQ_i (fun h => ?_) (fun h => ?_) <;> have h_ := h <;> (try simp only [wD, reduceCtorEq] at h_) <;> (try (exfalso; first | omega | (refine absurd ?_ h_; focus assumption) | (refine absurd h_ ?_; focus assumption))) <;> (try simp only [h]))
        | ((first | refine gdQ_iT (fun h => ?_) (fun h => ?_) | refine gdQ_iF (fun h => ?_) (fun h => ?_)) <;> have h_ := h <;> (try simp only [wD, reduceCtorEq] at h_) <;> (try (exfalso; first | omega | (refine absurd ?_ h_; focus assumption) | (refine absurd h_ ?_; focus assumption))) <;> (try simp only [h]))
        | (apply ia_slQ; (focus omega); (focus (first | assumption | exact List.getElem?_eq_getElem (by omega) | rfl)))
        | (apply Gr.iaQ G9; (focus omega); (focus (first | assumption | exact List.getElem?_eq_getElem (by omega) | rfl)))
        | (apply Gr.iaQ G10; (focus omega); (focus (first | assumption | exact List.getElem?_eq_getElem (by omega) | rfl)))
        | (apply ia_mslQ; (focus omega); (focus (first | assumption | omega | (simp only [wZ]; omega) | trivial)))
        | (apply ia_aslQ; (focus omega); (focus (first | assumption | exact List.getElem?_eq_getElem (by omega) | rfl)))
        | (apply appQ_G (hg := G9); (focus (first | rfl | (simp -implicitDefEqProofs only [wM]; done))); (focus (first | exact SrcN.sl | exact SrcN.asl | exact SrcN.gr G9 | exact SrcN.gr G10 | exact SrcN.str)); (focus (first | assumption | omega | (simp only [wZ]; omega) | trivial)); (focus (unfold maxLen; first | omega | (simp only [wZ]; omega))))
        | (apply appQ_G (hg := G10); (focus (first | rfl | (simp -implicitDefEqProofs only [wM]; done))); (focus (first | exact SrcN.sl | exact SrcN.asl | exact SrcN.gr G9 | exact SrcN.gr G10 | exact SrcN.str)); (focus (first | assumption | omega | (simp only [wZ]; omega) | trivial)); (focus (unfold maxLen; first | omega | (simp only [wZ]; omega))))
        | (apply appQ_C; (focus (first | exact SrcN.sl | exact SrcN.asl | exact SrcN.gr G9 | exact SrcN.gr G10 | exact SrcN.str)); (focus (first | assumption | omega | (simp only [wZ]; omega) | trivial)); (focus (unfold maxLen; first | omega | (simp only [wZ]; omega))))
        | (refine app_asl ?_; simp -implicitDefEqProofs only [wM, wN, Nat.reduceEqDiff, ↓reduceIte, reduceCtorEq, g0, g1, g5, g6, g7, g8, g9, g10, g11, o0, o1, Gr.dropO G9 o0, Gr.dropO G9 o1, Gr.dropO G10 o0, Gr.dropO G10 o1]; apply appT_i; (focus (first | exact SrcN.sl | exact SrcN.asl | exact SrcN.gr G9 | exact SrcN.gr G10 | exact SrcN.str)); (focus (first | assumption | omega | (simp only [wZ]; omega) | trivial)); (focus (unfold maxLen; first | omega | (simp only [wZ]; omega))))
        | (apply ldQ_whole)
        | (apply ldQ_obj; (focus (first | assumption | exact List.getElem?_eq_getElem (by omega) | rfl)); (focus with_unfolding_all rfl))
        | (apply ldQ_cell; (focus with_unfolding_all rfl))
        | (apply ldQ_one; (focus with_unfolding_all rfl))
        | (apply ld_ipQ; (focus with_unfolding_all rfl))
        | (apply stQ_whole; (focus with_unfolding_all rfl); (focus with_unfolding_all rfl))
        | (apply stQ_obj; (focus (first | assumption | omega | (simp only [wZ]; omega) | trivial)); (focus with_unfolding_all rfl); (focus with_unfolding_all rfl); (focus (intro _; with_unfolding_all rfl)))
        | (apply stQ_one; (focus with_unfolding_all rfl); (focus with_unfolding_all rfl); (focus with_unfolding_all rfl))
        | (apply stQ_cell; (focus with_unfolding_all rfl); (focus with_unfolding_all rfl); (focus with_unfolding_all rfl); (focus (first | assumption | omega | (simp only [wZ]; omega) | trivial)))
        | (apply callQ0 (hp := yuccalaw1_wakes))
        | (apply callQ2 (hp := yuccalaw0_Ints ?_ ?_); (focus (first | exact er_intsL | exact er_cl | exact er_sl | exact er_asl | exact G9.er rfl | exact G10.er rfl)); (focus (first | exact er_intsL | exact er_cl | exact er_sl | exact er_asl | exact G9.er rfl | exact G10.er rfl)); rotate_left; (focus (first | assumption | omega | (simp only [wZ]; omega) | trivial)); (focus (first | assumption | omega | (simp only [wZ]; omega) | trivial)))
        | (apply callQ1 (hp := yuccaref1_Set ?_); (focus (first | exact er_intsL | exact er_cl | exact er_sl | exact er_asl | exact G9.er rfl | exact G10.er rfl)); rotate_left; (focus (first | assumption | omega | (simp only [wZ]; omega) | trivial)))
        | (apply callQ1 (hp := bits_Of ?_); (focus (first | exact er_intsL | exact er_cl | exact er_sl | exact er_asl | exact G9.er rfl | exact G10.er rfl)); rotate_left; (focus (first | assumption | omega | (simp only [wZ]; omega) | trivial)))
        | (apply callQ2 (hp := yuccaref0_Has ?_); (focus (first | exact er_intsL | exact er_cl | exact er_sl | exact er_asl | exact G9.er rfl | exact G10.er rfl)); (focus (first | exact er_intsL | exact er_cl | exact er_sl | exact er_asl | exact G9.er rfl | exact G10.er rfl)); rotate_left; (focus (first | assumption | omega | (simp only [wZ]; omega) | trivial)))
        | (apply callQ2 (hp := bits_Or); (focus (first | exact er_intsL | exact er_cl | exact er_sl | exact er_asl | exact G9.er rfl | exact G10.er rfl)); (focus (first | exact er_intsL | exact er_cl | exact er_sl | exact er_asl | exact G9.er rfl | exact G10.er rfl)))
        | (apply callQ1 (hp := bits_Set_List); (focus (first | exact er_intsL | exact er_cl | exact er_sl | exact er_asl | exact G9.er rfl | exact G10.er rfl)))
        | (apply callQ2 (hp := yuccaref0_EqInts ?_ ?_); (focus (first | exact er_intsL | exact er_cl | exact er_sl | exact er_asl | exact G9.er rfl | exact G10.er rfl)); (focus (first | exact er_intsL | exact er_cl | exact er_sl | exact er_asl | exact G9.er rfl | exact G10.er rfl)); rotate_left; (focus (first | assumption | omega | (simp only [wZ]; omega) | trivial)); (focus (first | assumption | omega | (simp only [wZ]; omega) | trivial)))
        | (apply callQ2 (hp := bits_And); (focus (first | exact er_intsL | exact er_cl | exact er_sl | exact er_asl | exact G9.er rfl | exact G10.er rfl)); (focus (first | exact er_intsL | exact er_cl | exact er_sl | exact er_asl | exact G9.er rfl | exact G10.er rfl)))
        | (apply callQ2 (hp := bits_Without); (focus (first | exact er_intsL | exact er_cl | exact er_sl | exact er_asl | exact G9.er rfl | exact G10.er rfl)); (focus (first | exact er_intsL | exact er_cl | exact er_sl | exact er_asl | exact G9.er rfl | exact G10.er rfl)))
        | (apply callQ2 (hp := bits_Eq); (focus (first | exact er_intsL | exact er_cl | exact er_sl | exact er_asl | exact G9.er rfl | exact G10.er rfl)); (focus (first | exact er_intsL | exact er_cl | exact er_sl | exact er_asl | exact G9.er rfl | exact G10.er rfl)))
        | simp -implicitDefEqProofs (disch := omega) only [w64, if_neg]
      refine ⟨(by first | assumption | omega | (simp -implicitDefEqProofs only [wN]; omega)), k + 1, (by omega), ?_⟩
      refine ⟨?_, ?_, ?_, ?_, ?_, ?_, ?_, ?_, ?_, ?_, ?_, ?_, ?_⟩
      iterate 11 (focus (first | (simp -implicitDefEqProofs only [wL, wM, wN, wX, Nat.reduceEqDiff, ↓reduceIte, reduceCtorEq, Nat.reduceAdd, Option.some.injEq, g0, g1, g5, g6, g7, g8, g9, g10, g11, o0, o1, Gr.dropO G9 o0, Gr.dropO G9 o1, Gr.dropO G10 o0, Gr.dropO G10 o1, e1, e2] <;> first | rfl | exact ⟨_, rfl⟩ | exact ⟨_, rfl, by first | assumption | exact Gr.nil | exact Gr.tok rfl (by omega) | exact Gr.tok (by simp -implicitDefEqProofs only [wM, Nat.reduceEqDiff, ↓reduceIte, reduceCtorEq] <;> rfl) (by omega) | exact Gr.clip | exact G9.to (by first | rfl | (simp [*]; done)) (by omega) rfl | exact G10.to (by first | rfl | (simp [*]; done)) (by omega) rfl | exact G9.mono' rfl (by omega) (fun j hj hl => by simp only [wM, dropG]; repeat (first | rfl | rw [if_neg (by omega)] | rw [if_neg (fun e => S9_10 _ e hj)] | rw [if_neg (fun e => S9_10 _ hj e)])) | exact G10.mono' rfl (by omega) (fun j hj hl => by simp only [wM, dropG]; repeat (first | rfl | rw [if_neg (by omega)] | rw [if_neg (fun e => S9_10 _ e hj)] | rw [if_neg (fun e => S9_10 _ hj e)]))⟩) | rfl | exact ⟨_, rfl⟩))
      all_goals try omega
      all_goals try ((try simp -implicitDefEqProofs only [wL, Nat.reduceEqDiff, ↓reduceIte, reduceCtorEq, g0, g1, g5, g6, g7, g8, g9, g10, g11, o0, o1, Gr.dropO G9 o0, Gr.dropO G9 o1, Gr.dropO G10 o0, Gr.dropO G10 o1, e1, e2]); focus (first | assumption | exact Sep.newL G9 (by omega) | exact Sep.newR G9 (by omega) | exact Sep.newL G10 (by omega) | exact Sep.newR G10 (by omega)))
      all_goals try simp -implicitDefEqProofs only [wL, wM, wN, wX, Nat.reduceEqDiff, ↓reduceIte, reduceCtorEq, g0, g1, g5, g6, g7, g8, g9, g10, g11, o0, o1, Gr.dropO G9 o0, Gr.dropO G9 o1, Gr.dropO G10 o0, Gr.dropO G10 o1, e1, e2]
    · simp only [hm, decide_false, Bool.not_false, ↓reduceIte, Bool.false_eq_true, List.append_nil] at e1 e2
      repeat' with_reducible first
        | refine ewp_reg_seq ?_ | refine ewp_seq ?_ | refine ewp_reg ?_ | refine ewp_skip ?_ | refine ewp_ret ?_ | refine ewp_block ?_ | refine ewp_exit ?_ | refine xt_n ?_ | refine xt_r ?_ | refine xt_e ?_ | refine xb_n ?_ | refine xb_r ?_ | refine xb_e ?_ | refine xb_x (by decide) ?_
        | refine ewp_condQ ?_ | refine condQ_T ?_ | refine condQ_F ?_
        | refine L_gdQ ?_ | refine gdQ_TT ?_ | refine gdQ_FF ?_ | refine gdQ_TF ?_ | refine gdQ_FT ?_ | refine gdQ_u ?_
        | simp -implicitDefEqProofs only [wS, wT, wU, wV, wW, wX, wY, wL, wM, wN, Nat.reduceEqDiff, ↓reduceIte, reduceCtorEq, Nat.reduceAdd, Int.cast_ofNat_Int, Int.reduceLT, Int.reduceLE, Int.reduceEq, Int.reduceToNat, decide_true, decide_false, Bool.false_eq_true, g0, g1, g5, g6, g7, g8, g9, g10, g11, o0, o1, Gr.dropO G9 o0, Gr.dropO G9 o1, Gr.dropO G10 o0, Gr.dropO G10 o1, G9.len, G10.len]
        | (refine condQ_i (fun h => ?_) (fun h => ?_) <;> have h_ := h <;> (try simp only [wD, reduceCtorEq] at h_) <;> (try (exfalso; first | omega | (refine absurd ?_ h_; focus assumption) | (refine absurd h_ ?_; focus assumption))) <;> (try simp only [h]))
        | ((first | refine gdQ_iT (fun h => ?_) (fun h => ?_) | refine gdQ_iF (fun h => ?_) (fun h => ?_)) <;> have h_ := h <;> (try simp only [wD, reduceCtorEq] at h_) <;> (try (exfalso; first | omega | (refine absurd ?_ h_; focus assumption) | (refine absurd h_ ?_; focus assumption))) <;> (try simp only [h]))
        | (apply ia_slQ; (focus omega); (focus (first | assumption | exact List.getElem?_eq_getElem (by omega) | rfl)))
        | (apply Gr.iaQ G9; (focus omega); (focus (first | assumption | exact List.getElem?_eq_getElem (by omega) | rfl)))
        | (apply Gr.iaQ G10; (focus omega); (focus (first | assumption | exact List.getElem?_eq_getElem (by omega) | rfl)))
        | (apply ia_mslQ; (focus omega); (focus (first | assumption | omega | (simp only [wZ]; omega) | trivial)))
        | (apply ia_aslQ; (focus omega); (focus (first | assumption | exact List.getElem?_eq_getElem (by omega) | rfl)))
        | (apply appQ_G (hg := G9); (focus (first | rfl | (simp -implicitDefEqProofs only [wM]; done))); (focus (first | exact SrcN.sl | exact SrcN.asl | exact SrcN.gr G9 | exact SrcN.gr G10 | exact SrcN.str)); (focus (first | assumption | omega | (simp only [wZ]; omega) | trivial)); (focus (unfold maxLen; first | omega | (simp only [wZ]; omega))))
        | (apply appQ_G (hg := G10); (focus (first | rfl | (simp -implicitDefEqProofs only [wM]; done))); (focus (first | exact SrcN.sl | exact SrcN.asl | exact SrcN.gr G9 | exact SrcN.gr G10 | exact SrcN.str)); (focus (first | assumption | omega | (simp only [wZ]; omega) | trivial)); (focus (unfold maxLen; first | omega | (simp only [wZ]; omega))))
        | (apply appQ_C; (focus (first | exact SrcN.sl | exact SrcN.asl | exact SrcN.gr G9 | exact SrcN.gr G10 | exact SrcN.str)); (focus (first | assumption | omega | (simp only [wZ]; omega) | trivial)); (focus (unfold maxLen; first | omega | (simp only [wZ]; omega))))
        | (refine app_asl ?_; simp -implicitDefEqProofs only [wM, wN, Nat.reduceEqDiff, ↓reduceIte, reduceCtorEq, g0, g1, g5, g6, g7, g8, g9, g10, g11, o0, o1, Gr.dropO G9 o0, Gr.dropO G9 o1, Gr.dropO G10 o0, Gr.dropO G10 o1]; apply appT_i; (focus (first | exact SrcN.sl | exact SrcN.asl | exact SrcN.gr G9 | exact SrcN.gr G10 | exact SrcN.str)); (focus (first | assumption | omega | (simp only [wZ]; omega) | trivial)); (focus (unfold maxLen; first | omega | (simp only [wZ]; omega))))
        | (apply ldQ_whole)
        | (apply ldQ_obj; (focus (first | assumption | exact List.getElem?_eq_getElem (by omega) | rfl)); (focus with_unfolding_all rfl))
        | (apply ldQ_cell; (focus with_unfolding_all rfl))
        | (apply ldQ_one; (focus with_unfolding_all rfl))
        | (apply ld_ipQ; (focus with_unfolding_all rfl))
        | (apply stQ_whole; (focus with_unfolding_all rfl); (focus with_unfolding_all rfl))
        | (apply stQ_obj; (focus (first | assumption | omega | (simp only [wZ]; omega) | trivial)); (focus with_unfolding_all rfl); (focus with_unfolding_all rfl); (focus (intro _; with_unfolding_all rfl)))
        | (apply stQ_one; (focus with_unfolding_all rfl); (focus with_unfolding_all rfl); (focus with_unfolding_all rfl))
        | (apply stQ_cell; (focus with_unfolding_all rfl); (focus with_unfolding_all rfl); (focus with_unfolding_all rfl); (focus (first | assumption | omega | (simp only [wZ]; omega) | trivial)))
        | (apply callQ0 (hp := yuccalaw1_wakes))
        | (apply callQ2 (hp := yuccalaw0_Ints ?_ ?_); (focus (first | exact er_intsL | exact er_cl | exact er_sl | exact er_asl | exact G9.er rfl | exact G10.er rfl)); (focus (first | exact er_intsL | exact er_cl | exact er_sl | exact er_asl | exact G9.er rfl | exact G10.er rfl)); rotate_left; (focus (first | assumption | omega | (simp only [wZ]; omega) | trivial)); (focus (first | assumption | omega | (simp only [wZ]; omega) | trivial)))
        | (apply callQ1 (hp := yuccaref1_Set ?_); (focus (first | exact er_intsL | exact er_cl | exact er_sl | exact er_asl | exact G9.er rfl | exact G10.er rfl)); rotate_left; (focus (first | assumption | omega | (simp only [wZ]; omega) | trivial)))
        | (apply callQ1 (hp := bits_Of ?_); (focus (first | exact er_intsL | exact er_cl | exact er_sl | exact er_asl | exact G9.er rfl | exact G10.er rfl)); rotate_left; (focus (first | assumption | omega | (simp only [wZ]; omega) | trivial)))
        | (apply callQ2 (hp := yuccaref0_Has ?_); (focus (first | exact er_intsL | exact er_cl | exact er_sl | exact er_asl | exact G9.er rfl | exact G10.er rfl)); (focus (first | exact er_intsL | exact er_cl | exact er_sl | exact er_asl | exact G9.er rfl | exact G10.er rfl)); rotate_left; (focus (first | assumption | omega | (simp only [wZ]; omega) | trivial)))
        | (apply callQ2 (hp := bits_Or); (focus (first | exact er_intsL | exact er_cl | exact er_sl | exact er_asl | exact G9.er rfl | exact G10.er rfl)); (focus (first | exact er_intsL | exact er_cl | exact er_sl | exact er_asl | exact G9.er rfl | exact G10.er rfl)))
        | (apply callQ1 (hp := bits_Set_List); (focus (first | exact er_intsL | exact er_cl | exact er_sl | exact er_asl | exact G9.er rfl | exact G10.er rfl)))
        | (apply callQ2 (hp := yuccaref0_EqInts ?_ ?_); (focus (first | exact er_intsL | exact er_cl | exact er_sl | exact er_asl | exact G9.er rfl | exact G10.er rfl)); (focus (first | exact er_intsL | exact er_cl | exact er_sl | exact er_asl | exact G9.er rfl | exact G10.er rfl)); rotate_left; (focus (first | assumption | omega | (simp only [wZ]; omega) | trivial)); (focus (first | assumption | omega | (simp only [wZ]; omega) | trivial)))
        | (apply callQ2 (hp := bits_And); (focus (first | exact er_intsL | exact er_cl | exact er_sl | exact er_asl | exact G9.er rfl | exact G10.er rfl)); (focus (first | exact er_intsL | exact er_cl | exact er_sl | exact er_asl | exact G9.er rfl | exact G10.er rfl)))
        | (apply callQ2 (hp := bits_Without); (focus (first | exact er_intsL | exact er_cl | exact er_sl | exact er_asl | exact G9.er rfl | exact G10.er rfl)); (focus (first | exact er_intsL | exact er_cl | exact er_sl | exact er_asl | exact G9.er rfl | exact G10.er rfl)))
        | (apply callQ2 (hp := bits_Eq); (focus (first | exact er_intsL | exact er_cl | exact er_sl | exact er_asl | exact G9.er rfl | exact G10.er rfl)); (focus (first | exact er_intsL | exact er_cl | exact er_sl | exact er_asl | exact G9.er rfl | exact G10.er rfl)))
        | simp -implicitDefEqProofs (disch := omega) only [w64, if_neg]
      refine ⟨(by first | assumption | omega | (simp -implicitDefEqProofs only [wN]; omega)), k + 1, (by omega), ?_⟩
      refine ⟨?_, ?_, ?_, ?_, ?_, ?_, ?_, ?_, ?_, ?_, ?_, ?_, ?_⟩
      iterate 11 (focus (first | (simp -implicitDefEqProofs only [wL, wM, wN, wX, Nat.reduceEqDiff, ↓reduceIte, reduceCtorEq, Nat.reduceAdd, Option.some.injEq, g0, g1, g5, g6, g7, g8, g9, g10, g11, o0, o1, Gr.dropO G9 o0, Gr.dropO G9 o1, Gr.dropO G10 o0, Gr.dropO G10 o1, e1, e2] <;> first | rfl | exact ⟨_, rfl⟩ | exact ⟨_, rfl, by first | assumption | exact Gr.nil | exact Gr.tok rfl (by omega) | exact Gr.tok (by simp -implicitDefEqProofs only [wM, Nat.reduceEqDiff, ↓reduceIte, reduceCtorEq] <;> rfl) (by omega) | exact Gr.clip | exact G9.to (by first | rfl | (simp [*]; done)) (by omega) rfl | exact G10.to (by first | rfl | (simp [*]; done)) (by omega) rfl | exact G9.mono' rfl (by omega) (fun j hj hl => by simp only [wM, dropG]; repeat (first | rfl | rw [if_neg (by omega)] | rw [if_neg (fun e => S9_10 _ e hj)] | rw [if_neg (fun e => S9_10 _ hj e)])) | exact G10.mono' rfl (by omega) (fun j hj hl => by simp only [wM, dropG]; repeat (first | rfl | rw [if_neg (by omega)] | rw [if_neg (fun e => S9_10 _ e hj)] | rw [if_neg (fun e => S9_10 _ hj e)]))⟩) | rfl | exact ⟨_, rfl⟩))
      all_goals try omega
      all_goals try ((try simp -implicitDefEqProofs only [wL, Nat.reduceEqDiff, ↓reduceIte, reduceCtorEq, g0, g1, g5, g6, g7, g8, g9, g10, g11, o0, o1, Gr.dropO G9 o0, Gr.dropO G9 o1, Gr.dropO G10 o0, Gr.dropO G10 o1, e1, e2]); focus (first | assumption | exact Sep.newL G9 (by omega) | exact Sep.newR G9 (by omega) | exact Sep.newL G10 (by omega) | exact Sep.newR G10 (by omega)))
      all_goals try simp -implicitDefEqProofs only [wL, wM, wN, wX, Nat.reduceEqDiff, ↓reduceIte, reduceCtorEq, g0, g1, g5, g6, g7, g8, g9, g10, g11, o0, o1, Gr.dropO G9 o0, Gr.dropO G9 o1, Gr.dropO G10 o0, Gr.dropO G10 o1, e1, e2]
  · obtain rfl : k = (setF p).length := by omega
    have n1 := List.length_filter_le (fun x => decide (x ∈ setF q)) (setF p)
    have n2 := List.length_filter_le (fun x => !decide (x ∈ setF q)) (setF p)
    rw [List.take_length] at G9 G10
    have n3 := lst_len (fun y => memS p y || memS q y) 1024
    have n4 := lst_len (fun y => memS p y && memS q y) 1024
    have n5 := lst_len (fun y => memS p y && !memS q y) 1024
    have n6 := lst_len (memS p) 1024
    have n7 := lst_len (memS q) 1024
    have n8 := setF_len (p ++ q)
    rw [List.length_append] at n8
    rw [lst_or] at n3
    rw [lst_and] at n4
    rw [lst_wo] at n5
    rw [lst_memS] at n6 n7
    repeat' with_reducible first
      | refine ewp_reg_seq ?_ | refine ewp_seq ?_ | refine ewp_reg ?_ | refine ewp_skip ?_ | refine ewp_ret ?_ | refine ewp_block ?_ | refine ewp_exit ?_ | refine xt_n ?_ | refine xt_r ?_ | refine xt_e ?_ | refine xb_n ?_ | refine xb_r ?_ | refine xb_e ?_ | refine xb_x (by decide) ?_
      | refine ewp_condQ ?_ | refine condQ_T ?_ | refine condQ_F ?_
      | refine L_gdQ ?_ | refine gdQ_TT ?_ | refine gdQ_FF ?_ | refine gdQ_TF ?_ | refine gdQ_FT ?_ | refine gdQ_u ?_
      | simp -implicitDefEqProofs only [wS, wT, wU, wV, wW, wX, wY, wL, wM, wN, Nat.reduceEqDiff, ↓reduceIte, reduceCtorEq, Nat.reduceAdd, Int.cast_ofNat_Int, Int.reduceLT, Int.reduceLE, Int.reduceEq, Int.reduceToNat, decide_true, decide_false, Bool.false_eq_true, g0, g1, g5, g6, g7, g8, g9, g10, g11, o0, o1, Gr.dropO G9 o0, Gr.dropO G9 o1, Gr.dropO G10 o0, Gr.dropO G10 o1, lst_or, lst_and, lst_wo, lst_memS, eqS_memS, G9.len, G10.len]
      | (refine condQ_i (fun h => ?_) (fun h => ?_) <;> have h_ := h <;> (try simp only [wD, reduceCtorEq] at h_) <;> (try (exfalso; first | omega | (refine absurd ?_ h_; focus assumption) | (refine absurd h_ ?_; focus assumption))) <;> (try simp only [h]))
      | ((first | refine gdQ_iT (fun h => ?_) (fun h => ?_) | refine gdQ_iF (fun h => ?_) (fun h => ?_)) <;> have h_ := h <;> (try simp only [wD, reduceCtorEq] at h_) <;> (try (exfalso; first | omega | (refine absurd ?_ h_; focus assumption) | (refine absurd h_ ?_; focus assumption))) <;> (try simp only [h]))
      | (apply ia_slQ; (focus omega); (focus (first | assumption | exact List.getElem?_eq_getElem (by omega) | rfl)))
      | (apply Gr.iaQ G9; (focus omega); (focus (first | assumption | exact List.getElem?_eq_getElem (by omega) | rfl)))
      | (apply Gr.iaQ G10; (focus omega); (focus (first | assumption | exact List.getElem?_eq_getElem (by omega) | rfl)))
      | (apply ia_mslQ; (focus omega); (focus (first | assumption | omega | (simp only [wZ]; omega) | trivial)))
      | (apply ia_aslQ; (focus omega); (focus (first | assumption | exact List.getElem?_eq_getElem (by omega) | rfl)))
      | (apply appQ_G (hg := G9); (focus (first | rfl | (simp -implicitDefEqProofs only [wM]; done))); (focus (first | exact SrcN.sl | exact SrcN.asl | exact SrcN.gr G9 | exact SrcN.gr G10 | exact SrcN.str)); (focus (first | assumption | omega | (simp only [wZ]; omega) | trivial)); (focus (unfold maxLen; first | omega | (simp only [wZ]; omega))))
      | (apply appQ_G (hg := G10); (focus (first | rfl | (simp -implicitDefEqProofs only [wM]; done))); (focus (first | exact SrcN.sl | exact SrcN.asl | exact SrcN.gr G9 | exact SrcN.gr G10 | exact SrcN.str)); (focus (first | assumption | omega | (simp only [wZ]; omega) | trivial)); (focus (unfold maxLen; first | omega | (simp only [wZ]; omega))))
      | (apply appQ_C; (focus (first | exact SrcN.sl | exact SrcN.asl | exact SrcN.gr G9 | exact SrcN.gr G10 | exact SrcN.str)); (focus (first | assumption | omega | (simp only [wZ]; omega) | trivial)); (focus (unfold maxLen; first | omega | (simp only [wZ]; omega))))
      | (refine app_asl ?_; simp -implicitDefEqProofs only [wM, wN, Nat.reduceEqDiff, ↓reduceIte, reduceCtorEq, g0, g1, g5, g6, g7, g8, g9, g10, g11, o0, o1, Gr.dropO G9 o0, Gr.dropO G9 o1, Gr.dropO G10 o0, Gr.dropO G10 o1, lst_or, lst_and, lst_wo, lst_memS, eqS_memS]; apply appT_i; (focus (first | exact SrcN.sl | exact SrcN.asl | exact SrcN.gr G9 | exact SrcN.gr G10 | exact SrcN.str)); (focus (first | assumption | omega | (simp only [wZ]; omega) | trivial)); (focus (unfold maxLen; first | omega | (simp only [wZ]; omega))))
      | (apply ldQ_whole)
      | (apply ldQ_obj; (focus (first | assumption | exact List.getElem?_eq_getElem (by omega) | rfl)); (focus with_unfolding_all rfl))
      | (apply ldQ_cell; (focus with_unfolding_all rfl))
      | (apply ldQ_one; (focus with_unfolding_all rfl))
      | (apply ld_ipQ; (focus with_unfolding_all rfl))
      | (apply stQ_whole; (focus with_unfolding_all rfl); (focus with_unfolding_all rfl))
      | (apply stQ_obj; (focus (first | assumption | omega | (simp only [wZ]; omega) | trivial)); (focus with_unfolding_all rfl); (focus with_unfolding_all rfl); (focus (intro _; with_unfolding_all rfl)))
      | (apply stQ_one; (focus with_unfolding_all rfl); (focus with_unfolding_all rfl); (focus with_unfolding_all rfl))
      | (apply stQ_cell; (focus with_unfolding_all rfl); (focus with_unfolding_all rfl); (focus with_unfolding_all rfl); (focus (first | assumption | omega | (simp only [wZ]; omega) | trivial)))
      | (apply callQ0 (hp := yuccalaw1_wakes))
      | (apply callQ2 (hp := yuccalaw0_Ints ?_ ?_); (focus (first | exact er_intsL | exact er_cl | exact er_sl | exact er_asl | exact G9.er rfl | exact G10.er rfl)); (focus (first | exact er_intsL | exact er_cl | exact er_sl | exact er_asl | exact G9.er rfl | exact G10.er rfl)); rotate_left; (focus (first | assumption | omega | (simp only [wZ]; omega) | trivial)); (focus (first | assumption | omega | (simp only [wZ]; omega) | trivial)))
      | (apply callQ1 (hp := yuccaref1_Set ?_); (focus (first | exact er_intsL | exact er_cl | exact er_sl | exact er_asl | exact G9.er rfl | exact G10.er rfl)); rotate_left; (focus (first | assumption | omega | (simp only [wZ]; omega) | trivial)))
      | (apply callQ1 (hp := bits_Of ?_); (focus (first | exact er_intsL | exact er_cl | exact er_sl | exact er_asl | exact G9.er rfl | exact G10.er rfl)); rotate_left; (focus (first | assumption | omega | (simp only [wZ]; omega) | trivial)))
      | (apply callQ2 (hp := yuccaref0_Has ?_); (focus (first | exact er_intsL | exact er_cl | exact er_sl | exact er_asl | exact G9.er rfl | exact G10.er rfl)); (focus (first | exact er_intsL | exact er_cl | exact er_sl | exact er_asl | exact G9.er rfl | exact G10.er rfl)); rotate_left; (focus (first | assumption | omega | (simp only [wZ]; omega) | trivial)))
      | (apply callQ2 (hp := bits_Or); (focus (first | exact er_intsL | exact er_cl | exact er_sl | exact er_asl | exact G9.er rfl | exact G10.er rfl)); (focus (first | exact er_intsL | exact er_cl | exact er_sl | exact er_asl | exact G9.er rfl | exact G10.er rfl)))
      | (apply callQ1 (hp := bits_Set_List); (focus (first | exact er_intsL | exact er_cl | exact er_sl | exact er_asl | exact G9.er rfl | exact G10.er rfl)))
      | (apply callQ2 (hp := yuccaref0_EqInts ?_ ?_); (focus (first | exact er_intsL | exact er_cl | exact er_sl | exact er_asl | exact G9.er rfl | exact G10.er rfl)); (focus (first | exact er_intsL | exact er_cl | exact er_sl | exact er_asl | exact G9.er rfl | exact G10.er rfl)); rotate_left; (focus (first | assumption | omega | (simp only [wZ]; omega) | trivial)); (focus (first | assumption | omega | (simp only [wZ]; omega) | trivial)))
      | (apply callQ2 (hp := bits_And); (focus (first | exact er_intsL | exact er_cl | exact er_sl | exact er_asl | exact G9.er rfl | exact G10.er rfl)); (focus (first | exact er_intsL | exact er_cl | exact er_sl | exact er_asl | exact G9.er rfl | exact G10.er rfl)))
      | (apply callQ2 (hp := bits_Without); (focus (first | exact er_intsL | exact er_cl | exact er_sl | exact er_asl | exact G9.er rfl | exact G10.er rfl)); (focus (first | exact er_intsL | exact er_cl | exact er_sl | exact er_asl | exact G9.er rfl | exact G10.er rfl)))
      | (apply callQ2 (hp := bits_Eq); (focus (first | exact er_intsL | exact er_cl | exact er_sl | exact er_asl | exact G9.er rfl | exact G10.er rfl)); (focus (first | exact er_intsL | exact er_cl | exact er_sl | exact er_asl | exact G9.er rfl | exact G10.er rfl)))
      | simp -implicitDefEqProofs (disch := omega) only [w64, if_neg]
    refine post1 rfl (Or.inr rfl) ?_
    simp -implicitDefEqProofs only [wL, Nat.reduceEqDiff, ↓reduceIte, reduceCtorEq, g0, g1, g5, g6, g7, g8, g9, g10, g11]
    first | refine er_bool ?_ | refine er_int ?_ | refine er_str ?_ | refine er_sl_eq ?_ | refine er_asl_eq ?_ | refine G9.er ?_ | refine G10.er ?_
    try (with_reducible rfl)
end Go.Proofs


namespace Go.Proofs
open Go.E

theorem cnt_or_and (a b : Nat → Bool) : ∀ n, cnt (fun y => a y || b y) n + cnt (fun y => a y && b y) n = cnt a n + cnt b n
  | 0 => rfl
  | n + 1 => by
    have ih := cnt_or_and a b n
    rw [cnt_succ, cnt_succ, cnt_succ, cnt_succ]
    have e : (a n || b n).toNat + (a n && b n).toNat = (a n).toNat + (b n).toNat := by cases a n <;> cases b n <;> rfl
    omega

theorem yuccalaw1_BitsLaws {a b c : List Int} (ha : a.length ≤ 1099511627776) (hb : b.length ≤ 1099511627776) (hc : c.length ≤ 1099511627776) : Pure Tryd.prog 7 [ints a, ints b, ints c] (.bool true) := by
  refine pure_intro Tryd.func7 e7_nm e7_ok (by show 3 ≤ 73; decide) ?_
  show ewp _ e7n15 _ _
  have l1 : (intsN a 60).length ≤ 60 := (intsN_len a 60).1
  have l2 : (intsN b 60).length ≤ 60 := (intsN_len b 60).1
  have l3 : (intsN c 60).length ≤ 60 := (intsN_len c 60).1
  have e1 : eqS (fun y => memS (intsN a 60) y && (memS (intsN b 60) y || memS (intsN c 60) y)) (fun y => memS (intsN a 60) y && memS (intsN b 60) y || memS (intsN a 60) y && memS (intsN c 60) y) = true := by
    rw [eqS_iff]; intro y _; cases memS (intsN a 60) y <;> simp
  have e2 : eqS (fun y => memS (intsN a 60) y && memS (intsN b 60) y || memS (intsN a 60) y && !memS (intsN b 60) y) (memS (intsN a 60)) = true := by
    rw [eqS_iff]; intro y _; cases memS (intsN a 60) y <;> cases memS (intsN b 60) y <;> rfl
  have e3 := cnt_or_and (memS (intsN a 60)) (memS (intsN b 60)) 1024
  have e4 : cnt (fun y => memS (intsN a 60) y && !memS (intsN a 60) y) 1024 = 0 := by
    rw [cnt_congr (q := fun _ => false) 1024 (fun y _ => by cases memS (intsN a 60) y <;> rfl)]
    simp [cnt]
  have c1 := cnt_le (fun y => memS (intsN a 60) y || memS (intsN b 60) y) 1024
  have c2 := cnt_le (fun y => memS (intsN a 60) y && memS (intsN b 60) y) 1024
  have c3 := cnt_le (memS (intsN a 60)) 1024
  have c4 := cnt_le (memS (intsN b 60)) 1024
  have e5 : IntKind.i64.wrap ((cnt (fun y => memS (intsN a 60) y || memS (intsN b 60) y) 1024 : Int) + (cnt (fun y => memS (intsN a 60) y && memS (intsN b 60) y) 1024 : Int)) = IntKind.i64.wrap ((cnt (memS (intsN a 60)) 1024 : Int) + (cnt (memS (intsN b 60)) 1024 : Int)) := by
    refine congrArg _ ?_
    omega
  repeat' with_reducible first
    | refine ewp_reg_seq ?_ | refine ewp_seq ?_ | refine ewp_reg ?_ | refine ewp_skip ?_ | refine ewp_ret ?_ | refine ewp_block ?_ | refine ewp_exit ?_ | refine xt_n ?_ | refine xt_r ?_ | refine xt_e ?_ | refine xb_n ?_ | refine xb_r ?_ | refine xb_e ?_ | refine xb_x (by decide) ?_
    | refine ewp_condQ ?_ | refine condQ_T ?_ | refine condQ_F ?_
    | refine L_gdQ ?_ | refine gdQ_TT ?_ | refine gdQ_FF ?_ | refine gdQ_TF ?_ | refine gdQ_FT ?_ | refine gdQ_u ?_
    | simp -implicitDefEqProofs only [wS, wT, wU, wV, wW, wX, wY, wL, wM, wN, Nat.reduceEqDiff, ↓reduceIte, reduceCtorEq, Nat.reduceAdd, Int.cast_ofNat_Int, Int.reduceLT, Int.reduceLE, Int.reduceEq, Int.reduceToNat, decide_true, decide_false, Bool.false_eq_true, e1, e2, e4, e5]
    | (refine condQ_i (fun h => ?_) (fun h => ?_) <;> have h_ := h <;> (try simp only [wD, reduceCtorEq] at h_) <;> (try (exfalso; first | omega | (refine absurd ?_ h_; focus assumption) | (refine absurd h_ ?_; focus assumption))) <;> (try simp only [h]))
    | ((first | refine gdQ_iT (fun h => ?_) (fun h => ?_) | refine gdQ_iF (fun h => ?_) (fun h => ?_)) <;> have h_ := h <;> (try simp only [wD, reduceCtorEq] at h_) <;> (try (exfalso; first | omega | (refine absurd ?_ h_; focus assumption) | (refine absurd h_ ?_; focus assumption))) <;> (try simp only [h]))
    | (apply ldQ_whole)
    | (apply ldQ_obj; (focus (first | assumption | exact List.getElem?_eq_getElem (by omega) | rfl)); (focus with_unfolding_all rfl))
    | (apply ldQ_cell; (focus with_unfolding_all rfl))
    | (apply ldQ_one; (focus with_unfolding_all rfl))
    | (apply ld_ipQ; (focus with_unfolding_all rfl))
    | (apply stQ_whole; (focus with_unfolding_all rfl); (focus with_unfolding_all rfl))
    | (apply stQ_obj; (focus (first | assumption | omega | (simp only [wZ]; omega) | trivial)); (focus with_unfolding_all rfl); (focus with_unfolding_all rfl); (focus (intro _; with_unfolding_all rfl)))
    | (apply stQ_one; (focus with_unfolding_all rfl); (focus with_unfolding_all rfl); (focus with_unfolding_all rfl))
    | (apply stQ_cell; (focus with_unfolding_all rfl); (focus with_unfolding_all rfl); (focus with_unfolding_all rfl); (focus (first | assumption | omega | (simp only [wZ]; omega) | trivial)))
    | (apply callQ0 (hp := yuccalaw1_wakes))
    | (apply callQ2 (hp := yuccalaw0_Ints ?_ ?_); (focus (first | exact er_intsL | exact er_cl | exact er_sl | exact er_asl)); (focus (first | exact er_intsL | exact er_cl | exact er_sl | exact er_asl)); rotate_left; (focus (first | assumption | omega | (simp only [wZ]; omega) | trivial)); (focus (first | assumption | omega | (simp only [wZ]; omega) | trivial)))
    | (apply callQ1 (hp := bits_Of ?_); (focus (first | exact er_intsL | exact er_cl | exact er_sl | exact er_asl)); rotate_left; (focus (first | assumption | omega | (simp only [wZ]; omega) | trivial)))
    | (apply callQ2 (hp := bits_Or); (focus (first | exact er_intsL | exact er_cl | exact er_sl | exact er_asl)); (focus (first | exact er_intsL | exact er_cl | exact er_sl | exact er_asl)))
    | (apply callQ2 (hp := bits_And); (focus (first | exact er_intsL | exact er_cl | exact er_sl | exact er_asl)); (focus (first | exact er_intsL | exact er_cl | exact er_sl | exact er_asl)))
    | (apply callQ2 (hp := bits_Eq); (focus (first | exact er_intsL | exact er_cl | exact er_sl | exact er_asl)); (focus (first | exact er_intsL | exact er_cl | exact er_sl | exact er_asl)))
    | (apply callQ2 (hp := bits_Without); (focus (first | exact er_intsL | exact er_cl | exact er_sl | exact er_asl)); (focus (first | exact er_intsL | exact er_cl | exact er_sl | exact er_asl)))
    | (apply callQ1 (hp := bits_Set_Len); (focus (first | exact er_intsL | exact er_cl | exact er_sl | exact er_asl)))
    | simp -implicitDefEqProofs (disch := omega) only [w64, if_neg]
  refine post1 rfl (Or.inr rfl) ?_
  simp -implicitDefEqProofs only [wL, Nat.reduceEqDiff, ↓reduceIte, reduceCtorEq]
  first | refine er_bool ?_ | refine er_int ?_ | refine er_str ?_ | refine er_sl_eq ?_ | refine er_asl_eq ?_
  try (with_reducible rfl)
end Go.Proofs
