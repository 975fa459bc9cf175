/-
  Part of a proof that a law of the given program answers true: contracts of its functions, and the law. Holds for inputs of at most 1048576 values and letters in all.
-/
import Derived.Test.YtpnfbnlhjdnnpaaDoorLD
set_option linter.unusedSimpArgs false
set_option linter.unusedVariables false
set_option maxHeartbeats 4000000
set_option maxRecDepth 20000
namespace Go.Proofs
open Go.E
def whichL (n : Nat) (h : Nat → Bool) (so : Bool) : List Int := ((List.range n).filter fun k => h k == so).map fun (k : Nat) => (1000 + (k : Int))
theorem whichL_succ (n : Nat) (h : Nat → Bool) (so : Bool) : whichL (n + 1) h so = whichL n h so ++ (if h n = so then [1000 + (n : Int)] else []) := by
 unfold whichL
 rw [List.range_succ, List.filter_append, List.map_append]
 by_cases e : h n = so
 · simp [e]
 · simp [e]
theorem whichL_len (n : Nat) (h : Nat → Bool) (so : Bool) : (whichL n h so).length ≤ n := by
 unfold whichL; rw [List.length_map]; exact Nat.le_trans (List.length_filter_le _ _) (by simp)
theorem whichL_mem {n : Nat} {h : Nat → Bool} {so : Bool} {k : Nat} (hk : k < n) : (1000 + (k : Int)) ∈ whichL n h so ↔ h k = so := by
 unfold whichL
 simp only [List.mem_map, List.mem_filter, List.mem_range, beq_iff_eq]
 constructor
 · rintro ⟨q, ⟨_, h2⟩, h3⟩
   have : q = k := by omega
   subst this; exact h2
 · intro e; exact ⟨k, ⟨hk, e⟩, rfl⟩
theorem vain_which {n : Nat} {h : Nat → Bool} {so : Bool} (hn : n ≤ 1000000) : Pure Tryd.prog 43 [.sl 1 false (bolC n h), .bool so] (.sl 1 false ((whichL n h so).map (V.int .i64))) := by
 refine pure_intro Tryd.func43 e43_nm e43_ok (by show 2 ≤ 25; decide) ?_
 show ewp _ e43n23 _ _
 have hbl := bolC_len n h
 repeat' with_reducible first
  | refine ewp_reg_seq ?_ | refine ewp_seq ?_ | refine ewp_block ?_
  | simp -implicitDefEqProofs only [wA, Nat.reduceEqDiff, ↓reduceIte, reduceCtorEq, Nat.reduceAdd, Int.cast_ofNat_Int, Int.reduceLT, Int.reduceLE, Int.reduceEq, Int.reduceToNat, decide_true, decide_false, Bool.false_eq_true, hbl]
 refine ewp_loopN ?nx1 (fun (i : Nat) s => s.f 1 = ?v1_1 ∧ s.f 8 = ?v1_8 ∧ s.f 9 = ?v1_9 ∧ (∃ v, s.f 5 = v ∧ Gr s.H s.next 1 ((whichL i h so).map (V.int .i64)) v) ∧ s.f 10 = vi i ∧ (i ≤ n)) (fun i => n - i) (0) wj_ (by refine ⟨?_, ?_, ?_, ?_, ?_, (by first | omega | (simp; done) | assumption)⟩ <;> first | (simp -implicitDefEqProofs only [wL, wM, wN, wX, Nat.reduceEqDiff, ↓reduceIte, reduceCtorEq, Nat.reduceAdd, Option.some.injEq] <;> first | rfl | exact ⟨_, rfl⟩ | exact ⟨_, rfl, by first | assumption | exact Gr.nil | exact Gr.tok rfl (by omega) | exact Gr.tok (by simp -implicitDefEqProofs only [wM, Nat.reduceEqDiff, ↓reduceIte, reduceCtorEq] <;> rfl) (by omega) | exact Gr.clip⟩) | rfl | exact ⟨_, rfl⟩) ?_
 intro i s hnx ⟨g1, g8, g9, ⟨v5, g5, G5⟩, g10, k1_0⟩
 have hz : IntKind.i64.wrap ((i + 1 : Nat) : Int) = ((i + 1 : Nat) : Int) := wrap64 (by omega) (by omega)
 by_cases hi : i < n
 · have hbg := bolC_get (h := h) hi
   have hsu := whichL_succ i h so
   have hz2 : IntKind.i64.wrap (1000 + (i : Int)) = 1000 + (i : Int) := wrap64 (by omega) (by omega)
   have hln := whichL_len i h so
   by_cases he : h i = so
   · rw [if_pos he] at hsu
     have e1 : (h i == so) = true := by simp [he]
     repeat' with_reducible first
      | refine ewp_reg_seq ?_ | refine ewp_seq ?_ | refine ewp_reg ?_ | refine ewp_skip ?_ | refine ewp_block ?_ | refine xt_n ?_ | refine xb_n ?_ | refine ewp_condQ ?_ | refine condQ_T ?_
      | simp -implicitDefEqProofs only [wA, Nat.reduceEqDiff, ↓reduceIte, reduceCtorEq, Nat.reduceAdd, Int.cast_ofNat_Int, Int.reduceLT, Int.reduceLE, Int.reduceEq, Int.reduceToNat, decide_true, decide_false, Bool.false_eq_true, g1, g8, g9, g5, g10, hz, hz2, e1, G5.len]
      | (refine condQ_i (fun h => ?_) (fun h => ?_) <;> have h_ := h <;> (try simp only [wD, reduceCtorEq] at h_) <;> (try exact wb_) <;> (try simp only [h]))
      | (apply onS_i (ia_slv (by omega) (by with_unfolding_all exact hbg)))
      | (apply appQ_G (hg := G5); (focus (first | rfl | (simp -implicitDefEqProofs only [wM]; done))); (focus (first | exact SrcN.sl | exact SrcN.asl | exact SrcN.gr G5 | exact SrcN.str)); (exact wf_); (focus (unfold maxLen; first | omega | (simp only [wZ]; omega))))
     refine ⟨wk_, i + 1, (by omega), ?_⟩
     refine ⟨?_, ?_, ?_, ?_, ?_, ?_⟩
     iterate 5 (focus (first | (simp -implicitDefEqProofs only [wL, wM, wN, wX, Nat.reduceEqDiff, ↓reduceIte, reduceCtorEq, Nat.reduceAdd, Option.some.injEq, g1, g8, g9, g5, g10, hsu] <;> first | rfl | exact ⟨_, rfl⟩ | exact ⟨_, rfl, by first | assumption | exact Gr.nil | exact Gr.tok rfl (by omega) | exact Gr.tok (by simp -implicitDefEqProofs only [wM, Nat.reduceEqDiff, ↓reduceIte, reduceCtorEq] <;> rfl) (by omega) | exact Gr.clip | exact G5.to (by first | rfl | (simp [*]; done)) (by omega) rfl⟩) | rfl | exact ⟨_, rfl⟩))
     all_goals try omega
   · rw [if_neg he, List.append_nil] at hsu
     have e1 : (h i == so) = false := by simp [he]
     repeat' with_reducible first
      | refine ewp_reg_seq ?_ | refine ewp_seq ?_ | refine ewp_reg ?_ | refine ewp_skip ?_ | refine ewp_block ?_ | refine xt_n ?_ | refine xb_n ?_ | refine ewp_condQ ?_ | refine condQ_F ?_
      | simp -implicitDefEqProofs only [wA, Nat.reduceEqDiff, ↓reduceIte, reduceCtorEq, Nat.reduceAdd, Int.cast_ofNat_Int, Int.reduceLT, Int.reduceLE, Int.reduceEq, Int.reduceToNat, decide_true, decide_false, Bool.false_eq_true, g1, g8, g9, g5, g10, hz, hz2, e1, G5.len]
      | (refine condQ_i (fun h => ?_) (fun h => ?_) <;> have h_ := h <;> (try simp only [wD, reduceCtorEq] at h_) <;> (try exact wb_) <;> (try simp only [h]))
      | (apply onS_i (ia_slv (by omega) (by with_unfolding_all exact hbg)))
     refine ⟨wk_, i + 1, (by omega), ?_⟩
     refine ⟨?_, ?_, ?_, ?_, ?_, ?_⟩
     iterate 5 (focus (first | (simp -implicitDefEqProofs only [wL, wM, wN, wX, Nat.reduceEqDiff, ↓reduceIte, reduceCtorEq, Nat.reduceAdd, Option.some.injEq, g1, g8, g9, g5, g10, hsu] <;> first | rfl | exact ⟨_, rfl⟩ | exact ⟨_, rfl, by first | assumption | exact Gr.nil | exact Gr.tok rfl (by omega) | exact Gr.tok (by simp -implicitDefEqProofs only [wM, Nat.reduceEqDiff, ↓reduceIte, reduceCtorEq] <;> rfl) (by omega) | exact Gr.clip | exact G5.to (by first | rfl | (simp [*]; done)) (by omega) rfl⟩) | rfl | exact ⟨_, rfl⟩))
     all_goals try omega
 · have e : i = n := by omega
   subst e
   repeat' with_reducible first
    | refine ewp_reg_seq ?_ | refine ewp_seq ?_ | refine ewp_ret ?_ | refine ewp_exit ?_ | refine xt_n ?_ | refine xt_e ?_ | refine xb_e ?_ | refine ewp_condQ ?_ | refine condQ_F ?_
    | simp -implicitDefEqProofs only [wA, Nat.reduceEqDiff, ↓reduceIte, reduceCtorEq, Nat.reduceAdd, Int.cast_ofNat_Int, Int.reduceLT, Int.reduceLE, Int.reduceEq, Int.reduceToNat, decide_true, decide_false, Bool.false_eq_true, g1, g8, g9, g5, g10, G5.len]
   all_goals refine post1 rfl (Or.inr rfl) ?_
   all_goals (try simp -implicitDefEqProofs only [wL, Nat.reduceEqDiff, ↓reduceIte, reduceCtorEq, g1, g8, g9, g5, g10])
   all_goals (first | refine er_bool ?_ | refine er_int ?_ | refine er_str ?_ | refine er_sl_eq ?_ | refine er_asl_eq ?_ | refine G5.er ?_)
   all_goals (try (with_reducible rfl))
theorem vain_Nullable {g : Grammar} {E : Nat → Bool} (hg : GOk g) (hp : Pure Tryd.prog 44 [g.V, .bool false] (.sl 1 false (bolC g.nons.length E))) : Pure Tryd.prog 23 [g.V] (.sl 1 false ((whichL g.nons.length E true).map (V.int .i64))) := by
 refine pure_intro Tryd.func23 e23_nm e23_ok (by show 1 ≤ 6; decide) ?_
 show ewp _ e23n3 _ _
 have hnl := hg.nn2
 have hwh := vain_which (n := g.nons.length) (h := E) (so := true) (by omega)
 have h1 := Cl_bol g.nons.length E
 repeat' with_reducible first
  | refine ewp_reg_seq ?_ | refine ewp_ret ?_
  | simp -implicitDefEqProofs only [wA, Nat.reduceEqDiff, ↓reduceIte, reduceCtorEq, Nat.reduceAdd, Int.cast_ofNat_Int, Int.reduceLT, Int.reduceLE, Int.reduceEq, Int.reduceToNat, decide_true, decide_false, Bool.false_eq_true]
  | (apply callQ2 (hp := hp); (focus exact er_cl); (focus exact er_cl))
  | (apply callQ2 (hp := hwh); (focus exact er_cl); (focus exact er_cl))
  | (apply ldQ_whole)
  | (apply boxQ_i; (exact wu_); (exact wu_))
 all_goals refine post1 rfl (Or.inr rfl) ?_
 all_goals (try simp -implicitDefEqProofs only [wL, Nat.reduceEqDiff, ↓reduceIte, reduceCtorEq])
 all_goals (first | refine er_bool ?_ | refine er_int ?_ | refine er_str ?_ | refine er_sl_eq ?_ | refine er_asl_eq ?_)
 all_goals (try (with_reducible rfl))
theorem lstA_snd (S : Nat → Nat → Bool) (E : Nat → Bool) : ∀ (l : List Int) (a : Nat → Bool), (lstA S E l a).2 = fitsB false E l
 | [], a => rfl
 | x :: r, a => by
   rw [lstA]
   show _ = ((if x < 1000 then false else E (x - 1000).toNat) && fitsB false E r)
   by_cases hx : x < 1000
   · rw [if_pos hx, if_pos hx]; rfl
   · rw [if_neg hx, if_neg hx]
     by_cases hE : E (x - 1000).toNat = true
     · rw [if_pos hE, hE, Bool.true_and]; exact lstA_snd S E r _
     · have : E (x - 1000).toNat = false := by simpa using hE
       rw [if_neg hE, this]; rfl
theorem IsFirst.rules {g : Grammar} {E : Nat → Bool} {S : Nat → Nat → Bool} (h : IsFirst g E S) (k y : Nat) : S k y = true ↔ ∃ p ∈ g.prods, p.left.toNat = k ∧ (lstF S E p.right).1 y = true := by
 constructor
 · intro hk
   let F : Nat → Nat → Bool := fun k y => g.prods.any fun p => decide (p.left.toNat = k) && (lstF S E p.right).1 y
   have hFS : ∀ k y, F k y = true → S k y = true := fun k y hf => by
    obtain ⟨p, hp, h2⟩ := List.any_eq_true.1 hf
    rw [Bool.and_eq_true, decide_eq_true_eq] at h2
    rw [← h2.1]; exact h.closed p hp y h2.2
   have hF : ClosedF g E F := fun p hp y hy => List.any_eq_true.2 ⟨p, hp, by
    rw [Bool.and_eq_true, decide_eq_true_eq]
    exact ⟨rfl, lstA_mono hFS _ _ _ (fun y h => h) y hy⟩⟩
   obtain ⟨p, hp, h2⟩ := List.any_eq_true.1 (h.least F hF k y hk)
   rw [Bool.and_eq_true, decide_eq_true_eq] at h2
   exact ⟨p, hp, h2.1, h2.2⟩
 · rintro ⟨p, hp, rfl, h2⟩
   exact h.closed p hp y h2
theorem IsGrow.rules {g : Grammar} {token : Bool} {E : Nat → Bool} (h : IsGrow g token E) (k : Nat) : E k = true ↔ ∃ p ∈ g.prods, p.left.toNat = k ∧ fitsB token E p.right = true := by
 constructor
 · intro hk
   let F : Nat → Bool := fun k => g.prods.any fun p => decide (p.left.toNat = k) && fitsB token E p.right
   have hFS : ∀ k, F k = true → E k = true := fun k hf => by
    obtain ⟨p, hp, h2⟩ := List.any_eq_true.1 hf
    rw [Bool.and_eq_true, decide_eq_true_eq] at h2
    rw [← h2.1]; exact h.closed p hp h2.2
   have hF : ClosedG g token F := fun p hp hy => List.any_eq_true.2 ⟨p, hp, by
    rw [Bool.and_eq_true, decide_eq_true_eq]
    exact ⟨rfl, fitsB_mono hFS hy⟩⟩
   obtain ⟨p, hp, h2⟩ := List.any_eq_true.1 (h.least F hF k hk)
   rw [Bool.and_eq_true, decide_eq_true_eq] at h2
   exact ⟨p, hp, h2.1, h2.2⟩
 · rintro ⟨p, hp, rfl, h2⟩
   exact h.closed p hp h2
def rulW (nt nn : Nat) (S : Nat → Nat → Bool) (E : Nat → Bool) (n : Nat) (l : List GPr) : List Int := l.foldl (fun acc p => if p.left = (n : Int) then (firstL nt nn S E p.right).1.foldl putL acc else acc) []
def rulE (nt nn : Nat) (S : Nat → Nat → Bool) (E : Nat → Bool) (n : Nat) (l : List GPr) : Bool := l.foldl (fun b p => if p.left = (n : Int) then (b || (firstL nt nn S E p.right).2) else b) false
theorem rulW_snoc (nt nn : Nat) (S : Nat → Nat → Bool) (E : Nat → Bool) (n : Nat) (l : List GPr) (p : GPr) : rulW nt nn S E n (l ++ [p]) = if p.left = (n : Int) then (firstL nt nn S E p.right).1.foldl putL (rulW nt nn S E n l) else rulW nt nn S E n l := by unfold rulW; rw [List.foldl_append]; rfl
theorem rulE_snoc (nt nn : Nat) (S : Nat → Nat → Bool) (E : Nat → Bool) (n : Nat) (l : List GPr) (p : GPr) : rulE nt nn S E n (l ++ [p]) = if p.left = (n : Int) then (rulE nt nn S E n l || (firstL nt nn S E p.right).2) else rulE nt nn S E n l := by unfold rulE; rw [List.foldl_append]; rfl
theorem rulW_gen (nt nn : Nat) (S : Nat → Nat → Bool) (E : Nat → Bool) (n : Nat) : ∀ (l : List GPr) (acc : List Int) (b : Bool), Rise acc →
 Rise (l.foldl (fun acc p => if p.left = (n : Int) then (firstL nt nn S E p.right).1.foldl putL acc else acc) acc) ∧
 (∀ x, x ∈ l.foldl (fun acc p => if p.left = (n : Int) then (firstL nt nn S E p.right).1.foldl putL acc else acc) acc ↔ x ∈ acc ∨ ∃ p ∈ l, p.left = (n : Int) ∧ x ∈ (firstL nt nn S E p.right).1) ∧
 (l.foldl (fun b p => if p.left = (n : Int) then (b || (firstL nt nn S E p.right).2) else b) b = true ↔ b = true ∨ ∃ p ∈ l, p.left = (n : Int) ∧ (firstL nt nn S E p.right).2 = true)
 | [], acc, b, h => ⟨h, fun x => by simp, by simp⟩
 | p :: r, acc, b, h => by
   rw [List.foldl_cons, List.foldl_cons]
   by_cases hp : p.left = (n : Int)
   · rw [if_pos hp, if_pos hp]
     obtain ⟨k1, k2⟩ := foldPut (firstL nt nn S E p.right).1 acc h
     obtain ⟨h1, h2, h3⟩ := rulW_gen nt nn S E n r _ (b || (firstL nt nn S E p.right).2) k1
     refine ⟨h1, fun x => ?_, ?_⟩
     · rw [h2, k2]; simp [hp, or_assoc]
     · rw [h3, Bool.or_eq_true]; simp [hp, or_assoc]
   · rw [if_neg hp, if_neg hp]
     obtain ⟨h1, h2, h3⟩ := rulW_gen nt nn S E n r acc b h
     refine ⟨h1, fun x => ?_, ?_⟩
     · rw [h2]; simp [hp]
     · rw [h3]; simp [hp]
theorem rulW_spec (nt nn : Nat) (S : Nat → Nat → Bool) (E : Nat → Bool) (n : Nat) (l : List GPr) : Rise (rulW nt nn S E n l) ∧ (∀ x, x ∈ rulW nt nn S E n l ↔ ∃ p ∈ l, p.left = (n : Int) ∧ x ∈ (firstL nt nn S E p.right).1) ∧ (rulE nt nn S E n l = true ↔ ∃ p ∈ l, p.left = (n : Int) ∧ (firstL nt nn S E p.right).2 = true) := by
 obtain ⟨h1, h2, h3⟩ := rulW_gen nt nn S E n l [] false List.Pairwise.nil
 exact ⟨h1, fun x => by rw [rulW, h2]; simp, by rw [rulE, h3]; simp⟩
theorem GOk.symOk {g : Grammar} (h : GOk g) {p : GPr} (hp : p ∈ g.prods) : ∀ s ∈ p.right, symOkB g.toks.length g.nons.length s = true := fun s hs => symOkB_iff.2 (h.right p hp s hs)
theorem rulW_all {g : Grammar} {E : Nat → Bool} {S : Nat → Nat → Bool} (hg : GOk g) (hE : IsGrow g false E) (hS : IsFirst g E S) {n : Nat} (hn : n < g.nons.length) : rulW g.toks.length g.nons.length S E n g.prods = lst (S n) 1024 ∧ rulE g.toks.length g.nons.length S E n g.prods = E n := by
 obtain ⟨h1, h2, h3⟩ := rulW_spec g.toks.length g.nons.length S E n g.prods
 have hleft : ∀ p ∈ g.prods, (p.left = n ↔ p.left.toNat = n) := fun p hp => by
  obtain ⟨l, e, _⟩ := hg.left p hp; omega
 refine ⟨rise_ext h1 (lst_rise _ _) fun x => ?_, ?_⟩
 · rw [h2, lst_mem]
   constructor
   · rintro ⟨p, hp, e, hx⟩
     rw [firstL_ok (hg.symOk hp), lst_mem] at hx
     obtain ⟨y, a, b, c⟩ := hx
     exact ⟨y, a, (hS.rules n y).2 ⟨p, hp, (hleft p hp).1 e, b⟩, c⟩
   · rintro ⟨y, a, b, c⟩
     obtain ⟨p, hp, e, hy⟩ := (hS.rules n y).1 b
     refine ⟨p, hp, (hleft p hp).2 e, ?_⟩
     rw [firstL_ok (hg.symOk hp), lst_mem]
     exact ⟨y, a, hy, c⟩
 · rw [Bool.eq_iff_iff, h3, hE.rules n]
   constructor
   · rintro ⟨p, hp, e, hx⟩
     rw [firstL_ok (hg.symOk hp)] at hx
     exact ⟨p, hp, (hleft p hp).1 e, by rw [← lstA_snd S E p.right (fun _ => false)]; exact hx⟩
   · rintro ⟨p, hp, e, hx⟩
     refine ⟨p, hp, (hleft p hp).2 e, ?_⟩
     rw [firstL_ok (hg.symOk hp)]
     show (lstF S E p.right).2 = true
     rw [lstA_snd]; exact hx
theorem first_one {nt nn : Nat} {S : Nat → Nat → Bool} {E : Nat → Bool} {n : Nat} (hn : n < nn) : firstL nt nn S E [1000 + (n : Int)] = (lst (S n) 1024, E n) := by
 rw [firstL_ok (fun x hx => by
  rw [List.mem_singleton] at hx; subst hx
  exact symOkB_iff.2 (Or.inr ⟨n, rfl, hn⟩))]
 have e1 : ((1000 : Int) + n - 1000).toNat = n := by omega
 have e2 : orS (fun _ => false) (S n) = S n := by funext y; simp [orS]
 show (lst (lstA S E [1000 + (n : Int)] fun _ => false).1 1024, (lstA S E [1000 + (n : Int)] fun _ => false).2) = _
 rw [lstA, if_neg (by omega), e1, e2]
 by_cases h : E n = true
 · rw [if_pos h, h]; rfl
 · have : E n = false := by simpa using h
   rw [if_neg h, this]
end Go.Proofs
