/- Part of a proof that a law of the given program answers true. -/
import Derived.Test.YtpnfbnlhjdnnpaaDoorYLB
import Derived.Test.YtpnfbnlhjdnnpaaDoorYJB
import Derived.Test.YtpnfbnlhjdnnpaaDoorYKA
set_option linter.unusedSimpArgs false
set_option linter.unusedVariables false
set_option maxHeartbeats 4000000
namespace Go.Proofs
open Go.E


set_option maxRecDepth 20000


theorem lstA_app (S : Nat → Nat → Bool) (E : Nat → Bool) : ∀ (l m : List Int) (a : Nat → Bool), lstA S E (l ++ m) a = if (lstA S E l a).2 = true then lstA S E m (lstA S E l a).1 else lstA S E l a
 | [], m, a => by simp [lstA]
 | x :: r, m, a => by
   show lstA S E (x :: (r ++ m)) a = _
   rw [lstA, lstA]
   by_cases hx : x < 1000
   · rw [if_pos hx, if_pos hx]; rfl
   · rw [if_neg hx, if_neg hx]
     by_cases hE : E (x - 1000).toNat = true
     · rw [if_pos hE, if_pos hE]; exact lstA_app S E r m _
     · rw [if_neg hE, if_neg hE]; rfl
theorem lstA_acc (S : Nat → Nat → Bool) (E : Nat → Bool) : ∀ (l : List Int) (a b : Nat → Bool), (∀ y, (lstA S E l (orS a b)).1 y = (a y || (lstA S E l b).1 y)) ∧ (lstA S E l (orS a b)).2 = (lstA S E l b).2
 | [], a, b => ⟨fun y => rfl, rfl⟩
 | x :: r, a, b => by
   have ho : ∀ c, orS (orS a b) c = orS a (orS b c) := fun c => by funext y; simp [orS, Bool.or_assoc]
   rw [lstA, lstA]
   by_cases hx : x < 1000
   · rw [if_pos hx, if_pos hx, ho]; exact ⟨fun y => rfl, rfl⟩
   · rw [if_neg hx, if_neg hx, ho]
     by_cases hE : E (x - 1000).toNat = true
     · rw [if_pos hE, if_pos hE]; exact lstA_acc S E r a _
     · rw [if_neg hE, if_neg hE]; exact ⟨fun y => rfl, rfl⟩
theorem lstA_from (S : Nat → Nat → Bool) (E : Nat → Bool) (l : List Int) (a : Nat → Bool) : (∀ y, (lstA S E l a).1 y = (a y || (lstF S E l).1 y)) ∧ (lstA S E l a).2 = (lstF S E l).2 := by
 have := lstA_acc S E l a (fun _ => false)
 have e : orS a (fun _ => false) = a := by funext y; simp [orS]
 rw [e] at this; exact this
theorem firstL_ok {nt nn : Nat} {S : Nat → Nat → Bool} {E : Nat → Bool} {l : List Int} (h : ∀ x ∈ l, symOkB nt nn x = true) : firstL nt nn S E l = (lst (lstF S E l).1 1024, (lstF S E l).2) := by
 unfold firstL; rw [if_pos (List.all_eq_true.2 h)]
theorem gramI (x : GrI) : Pure Tryd.prog 11 [(sourceS x).V] (.tup [(gramS (sourceS x)).V, .bool true]) := by
 have := yuccaref16_Grammar (sourceS_fits x) (fun _ => sourceS_small x)
 rw [sourceS_ok x] at this
 exact this

def whichL (n : Nat) (h : Nat → Bool) (so : Bool) : List Int := ((List.range n).filter fun k => h k == so).map fun (k : Nat) => (1000 + (k : Int))
theorem whichL_succ (n : Nat) (h : Nat → Bool) (so : Bool) : whichL (n + 1) h so = whichL n h so ++ (if h n = so then [1000 + (n : Int)] else []) := by
 unfold whichL
 rw [List.range_succ, List.filter_append, List.map_append]
 by_cases e : h n = so
 · simp [e]
 · simp [e]
theorem whichL_len (n : Nat) (h : Nat → Bool) (so : Bool) : (whichL n h so).length ≤ n := by
 unfold whichL; rw [List.length_map]; exact Nat.le_trans (List.length_filter_le _ _) (by simp)
theorem whichL_mem {n : Nat} {h : Nat → Bool} {so : Bool} {k : Nat} (hk : k < n) : (1000 + (k : Int)) ∈ whichL n h so ↔ h k = so := by
 unfold whichL
 simp only [List.mem_map, List.mem_filter, List.mem_range, beq_iff_eq]
 constructor
 · rintro ⟨q, ⟨_, h2⟩, h3⟩
   have : q = k := by omega
   subst this; exact h2
 · intro e; exact ⟨k, ⟨hk, e⟩, rfl⟩
theorem vain_which {n : Nat} {h : Nat → Bool} {so : Bool} (hn : n ≤ 1000000) : Pure Tryd.prog 43 [.sl 1 false (bolC n h), .bool so] (.sl 1 false ((whichL n h so).map (V.int .i64))) := by
 refine pure_intro Tryd.func43 e43_nm e43_ok (by show 2 ≤ 25; decide) ?_
 show ewp _ e43n23 _ _
 have hbl := bolC_len n h
 repeat' with_reducible first
  | refine ewp_reg_seq ?_ | refine ewp_seq ?_ | refine ewp_block ?_
  | simp -implicitDefEqProofs only [wZZ, seval, hbl]
 refine ewp_loopN ?nx1 (fun (i : Nat) s => s.f 1 = ?v1_1 ∧ s.f 8 = ?v1_8 ∧ s.f 9 = ?v1_9 ∧ (∃ v, s.f 5 = v ∧ Gr s.H s.next 1 ((whichL i h so).map (V.int .i64)) v) ∧ s.f 10 = vi i ∧ (i ≤ n)) (fun i => n - i) (0) wj_ (by refine ⟨?_, ?_, ?_, ?_, ?_, (by first | omega | (simp; done) | assumption)⟩ <;> first | (simp -implicitDefEqProofs only [wL, wM, wN, wX, seval, Option.some.injEq] <;> exact wt_) | rfl | exact ⟨_, rfl⟩) ?_
 intro i s hnx ⟨g1, g8, g9, ⟨v5, g5, G5⟩, g10, k1_0⟩
 have hz : IntKind.i64.wrap ((i + 1 : Nat) : Int) = ((i + 1 : Nat) : Int) := wrap64 (by omega) (by omega)
 by_cases hi : i < n
 · have hbg := bolC_get (h := h) hi
   have hsu := whichL_succ i h so
   have hz2 : IntKind.i64.wrap (1000 + (i : Int)) = 1000 + (i : Int) := wrap64 (by omega) (by omega)
   have hln := whichL_len i h so
   by_cases he : h i = so
   · rw [if_pos he] at hsu
     have e1 : (h i == so) = true := by simp [he]
     repeat' with_reducible first
      | refine ewp_reg_seq ?_ | refine ewp_seq ?_ | refine ewp_reg ?_ | refine ewp_skip ?_ | refine ewp_block ?_ | refine xt_n ?_ | refine xb_n ?_ | refine ewp_condQ ?_ | refine condQ_T ?_
      | simp -implicitDefEqProofs only [wZZ, seval, g1, g8, g9, g5, g10, hz, hz2, e1, G5.len]
      | (refine condQ_j (fun h h_ => ?_) (fun h h_ => ?_) <;> (try simp only [wD, reduceCtorEq] at h_) <;> (try exact wb_) <;> (try simp only [h]))
      | (apply onS_i (ia_slv (by omega) (by with_unfolding_all exact hbg)))
      | (apply appQ_G (hg := G5); (focus (first | rfl | (simp -implicitDefEqProofs only [wM]; done))); (focus (first | exact SrcN.sl | exact SrcN.asl | exact SrcN.gr G5 | exact SrcN.str)); (exact wf_); (focus (unfold maxLen; first | omega | (simp only [wZ] <;> omega))))
     refine ⟨wk_, i + 1, (by omega), ?_⟩
     refine ⟨?_, ?_, ?_, ?_, ?_, ?_⟩
     iterate 5 (focus (first | (simp -implicitDefEqProofs only [wL, wM, wN, wX, seval, Option.some.injEq, g1, g8, g9, g5, g10, hsu] <;> first | rfl | exact ⟨_, rfl⟩ | exact ⟨_, rfl, by first | assumption | exact Gr.nil | exact Gr.tok rfl (by omega) | exact Gr.tok (by simp -implicitDefEqProofs only [wM, seval] <;> rfl) (by omega) | exact Gr.clip | exact G5.to (by first | rfl | (simp [*]; done)) (by omega) rfl⟩) | rfl | exact ⟨_, rfl⟩))
     all_goals try omega
   · rw [if_neg he, List.append_nil] at hsu
     have e1 : (h i == so) = false := by simp [he]
     repeat' with_reducible first
      | refine ewp_reg_seq ?_ | refine ewp_seq ?_ | refine ewp_reg ?_ | refine ewp_skip ?_ | refine ewp_block ?_ | refine xt_n ?_ | refine xb_n ?_ | refine ewp_condQ ?_ | refine condQ_F ?_
      | simp -implicitDefEqProofs only [wZZ, seval, g1, g8, g9, g5, g10, hz, hz2, e1, G5.len]
      | (refine condQ_j (fun h h_ => ?_) (fun h h_ => ?_) <;> (try simp only [wD, reduceCtorEq] at h_) <;> (try exact wb_) <;> (try simp only [h]))
      | (apply onS_i (ia_slv (by omega) (by with_unfolding_all exact hbg)))
     refine ⟨wk_, i + 1, (by omega), ?_⟩
     refine ⟨?_, ?_, ?_, ?_, ?_, ?_⟩
     iterate 5 (focus (first | (simp -implicitDefEqProofs only [wL, wM, wN, wX, seval, Option.some.injEq, g1, g8, g9, g5, g10, hsu] <;> first | rfl | exact ⟨_, rfl⟩ | exact ⟨_, rfl, by first | assumption | exact Gr.nil | exact Gr.tok rfl (by omega) | exact Gr.tok (by simp -implicitDefEqProofs only [wM, seval] <;> rfl) (by omega) | exact Gr.clip | exact G5.to (by first | rfl | (simp [*]; done)) (by omega) rfl⟩) | rfl | exact ⟨_, rfl⟩))
     all_goals try omega
 · have e : i = n := by omega
   subst e
   repeat' with_reducible first
    | refine ewp_reg_seq ?_ | refine ewp_seq ?_ | refine ewp_ret ?_ | refine ewp_exit ?_ | refine xt_n ?_ | refine xt_e ?_ | refine xb_e ?_ | refine ewp_condQ ?_ | refine condQ_F ?_
    | simp -implicitDefEqProofs only [wZZ, seval, g1, g8, g9, g5, g10, G5.len]
   all_goals refine post1 rfl (Or.inr rfl) ?_
   all_goals (try simp -implicitDefEqProofs only [wL, seval, g1, g8, g9, g5, g10])
   all_goals (first | refine er_bool ?_ | refine er_int ?_ | refine er_str ?_ | refine er_sl_eq ?_ | refine er_asl_eq ?_ | refine G5.er ?_)
   all_goals (try (with_reducible rfl))
theorem vain_Nullable {g : Grammar} {E : Nat → Bool} (hg : GOk g) (hp : Pure Tryd.prog 44 [g.V, .bool false] (.sl 1 false (bolC g.nons.length E))) : Pure Tryd.prog 23 [g.V] (.sl 1 false ((whichL g.nons.length E true).map (V.int .i64))) := by
 refine pure_intro Tryd.func23 e23_nm e23_ok (by show 1 ≤ 6; decide) ?_
 show ewp _ e23n3 _ _
 have hnl := hg.nn2
 have hwh := vain_which (n := g.nons.length) (h := E) (so := true) (by omega)
 have h1 := Cl_bol g.nons.length E
 repeat' with_reducible first
  | refine ewp_reg_seq ?_ | refine ewp_ret ?_
  | simp -implicitDefEqProofs only [wZZ, seval]
  | (apply callQ2 (hp := hp); (focus exact er_cl); (focus exact er_cl))
  | (apply callQ2 (hp := hwh); (focus exact er_cl); (focus exact er_cl))
  | (apply ldQ_whole)
  | (apply boxQ_i; (exact wu_); (exact wu_))
 all_goals refine post1 rfl (Or.inr rfl) ?_
 all_goals (try simp -implicitDefEqProofs only [wL, seval])
 all_goals (first | refine er_bool ?_ | refine er_int ?_ | refine er_str ?_ | refine er_sl_eq ?_ | refine er_asl_eq ?_)
 all_goals (try (with_reducible rfl))
theorem lstA_snd (S : Nat → Nat → Bool) (E : Nat → Bool) : ∀ (l : List Int) (a : Nat → Bool), (lstA S E l a).2 = fitsB false E l
 | [], a => rfl
 | x :: r, a => by
   rw [lstA]
   show _ = ((if x < 1000 then false else E (x - 1000).toNat) && fitsB false E r)
   by_cases hx : x < 1000
   · rw [if_pos hx, if_pos hx]; rfl
   · rw [if_neg hx, if_neg hx]
     by_cases hE : E (x - 1000).toNat = true
     · rw [if_pos hE, hE, Bool.true_and]; exact lstA_snd S E r _
     · have : E (x - 1000).toNat = false := by simpa using hE
       rw [if_neg hE, this]; rfl
theorem IsFirst.rules {g : Grammar} {E : Nat → Bool} {S : Nat → Nat → Bool} (h : IsFirst g E S) (k y : Nat) : S k y = true ↔ ∃ p ∈ g.prods, p.left.toNat = k ∧ (lstF S E p.right).1 y = true := by
 constructor
 · intro hk
   let F : Nat → Nat → Bool := fun k y => g.prods.any fun p => decide (p.left.toNat = k) && (lstF S E p.right).1 y
   have hFS : ∀ k y, F k y = true → S k y = true := fun k y hf => by
    obtain ⟨p, hp, h2⟩ := List.any_eq_true.1 hf
    rw [Bool.and_eq_true, decide_eq_true_eq] at h2
    rw [← h2.1]; exact h.closed p hp y h2.2
   have hF : ClosedF g E F := fun p hp y hy => List.any_eq_true.2 ⟨p, hp, by
    rw [Bool.and_eq_true, decide_eq_true_eq]
    exact ⟨rfl, lstA_mono hFS _ _ _ (fun y h => h) y hy⟩⟩
   obtain ⟨p, hp, h2⟩ := List.any_eq_true.1 (h.least F hF k y hk)
   rw [Bool.and_eq_true, decide_eq_true_eq] at h2
   exact ⟨p, hp, h2.1, h2.2⟩
 · rintro ⟨p, hp, rfl, h2⟩
   exact h.closed p hp y h2
theorem IsGrow.rules {g : Grammar} {token : Bool} {E : Nat → Bool} (h : IsGrow g token E) (k : Nat) : E k = true ↔ ∃ p ∈ g.prods, p.left.toNat = k ∧ fitsB token E p.right = true := by
 constructor
 · intro hk
   let F : Nat → Bool := fun k => g.prods.any fun p => decide (p.left.toNat = k) && fitsB token E p.right
   have hFS : ∀ k, F k = true → E k = true := fun k hf => by
    obtain ⟨p, hp, h2⟩ := List.any_eq_true.1 hf
    rw [Bool.and_eq_true, decide_eq_true_eq] at h2
    rw [← h2.1]; exact h.closed p hp h2.2
   have hF : ClosedG g token F := fun p hp hy => List.any_eq_true.2 ⟨p, hp, by
    rw [Bool.and_eq_true, decide_eq_true_eq]
    exact ⟨rfl, fitsB_mono hFS hy⟩⟩
   obtain ⟨p, hp, h2⟩ := List.any_eq_true.1 (h.least F hF k hk)
   rw [Bool.and_eq_true, decide_eq_true_eq] at h2
   exact ⟨p, hp, h2.1, h2.2⟩
 · rintro ⟨p, hp, rfl, h2⟩
   exact h.closed p hp h2
theorem first_one {nt nn : Nat} {S : Nat → Nat → Bool} {E : Nat → Bool} {n : Nat} (hn : n < nn) : firstL nt nn S E [1000 + (n : Int)] = (lst (S n) 1024, E n) := by
 rw [firstL_ok (fun x hx => by
  rw [List.mem_singleton] at hx; subst hx
  exact symOkB_iff.2 (Or.inr ⟨n, rfl, hn⟩))]
 have e1 : ((1000 : Int) + n - 1000).toNat = n := by omega
 have e2 : orS (fun _ => false) (S n) = S n := by funext y; simp [orS]
 show (lst (lstA S E [1000 + (n : Int)] fun _ => false).1 1024, (lstA S E [1000 + (n : Int)] fun _ => false).2) = _
 rw [lstA, if_neg (by omega), e1, e2]
 by_cases h : E n = true
 · rw [if_pos h, h]; rfl
 · have : E n = false := by simpa using h
   rw [if_neg h, this]
end Go.Proofs
