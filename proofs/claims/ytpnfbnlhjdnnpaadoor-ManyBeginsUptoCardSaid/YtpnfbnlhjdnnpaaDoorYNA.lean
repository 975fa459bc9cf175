/- Part of a proof that a law of the given program answers true. -/
import Derived.Test.YtpnfbnlhjdnnpaaDoorYMA
import Derived.Test.YtpnfbnlhjdnnpaaDoorYLC
set_option linter.unusedSimpArgs false
set_option linter.unusedVariables false
namespace Go.Proofs
open Go.E
theorem fold_zero {T : Tbl} {w : List Int} {i j k : Nat} : ∀ (l : List GPr) (S : Nat → Nat), S k = 0 → (∀ p ∈ l, p.left.toNat = k → waysN T w p.right i j = 0) → l.foldl (sumS T w i j) S k = 0
 | [], S, h, _ => h
 | p :: l, S, h, hp => by
   rw [List.foldl_cons]
   refine fold_zero l _ ?_ fun q hq => hp q (List.mem_cons_of_mem _ hq)
   unfold sumS upd
   split
   · rename_i e
     rw [← e, h, hp p (by simp) e.symm]; rfl
   · exact h
theorem fold_keep {T : Tbl} {w : List Int} {i j k : Nat} : ∀ (l : List GPr) (S : Nat → Nat), 1 ≤ S k → 1 ≤ l.foldl (sumS T w i j) S k
 | [], S, h => h
 | p :: l, S, h => by
   rw [List.foldl_cons]
   refine fold_keep l _ ?_
   unfold sumS upd
   split
   · rename_i e; rw [← e]; omega
   · exact h
theorem fold_pos {T : Tbl} {w : List Int} {i j k : Nat} : ∀ (l : List GPr) (S : Nat → Nat) (p : GPr), p ∈ l → p.left.toNat = k → 1 ≤ waysN T w p.right i j → 1 ≤ l.foldl (sumS T w i j) S k
 | q :: l, S, p, h, hl, hw => by
   rw [List.foldl_cons]
   rcases List.mem_cons.1 h with rfl | h
   · refine fold_keep l _ ?_
     unfold sumS upd
     rw [if_pos hl.symm]; omega
   · exact fold_pos l _ p h hl hw
theorem sumN_pos {f : Nat → Nat} : ∀ {n : Nat}, 1 ≤ sumN f n → ∃ a, a < n ∧ 1 ≤ f a
 | 0, h => by simp [sumN] at h
 | n + 1, h => by
   by_cases h1 : 1 ≤ f n
   · exact ⟨n, by omega, h1⟩
   · have h2 : 1 ≤ sumN f n := by
      have h3 : 1 ≤ sumN f n + f n := h
      omega
     obtain ⟨a, ha, h2⟩ := sumN_pos h2
     exact ⟨a, by omega, h2⟩
theorem ways_null {T : Tbl} {w : List Int} {i : Nat} : ∀ (l : List Int) (v : Nat → Nat), 1 ≤ v i → (∀ s ∈ l, ¬ s < 1000 ∧ 1 ≤ T (s - 1000).toNat i i) → 1 ≤ l.foldl (fun v s => stepN T w s v) v i
 | [], v, h, _ => h
 | s :: l, v, h, hs => by
   rw [List.foldl_cons]
   refine ways_null l _ ?_ fun x hx => hs x (List.mem_cons_of_mem _ hx)
   obtain ⟨h1, h2⟩ := hs s (by simp)
   unfold stepN
   rw [if_neg h1]
   have := sumN_ge (f := fun a => v a * T (s - 1000).toNat a i) (n := i + 1) (a := i) (by omega)
   have h3 : 1 ≤ v i * T (s - 1000).toNat i i := Nat.mul_pos h h2
   omega
theorem null_pos {g : Grammar} {E : Nat → Bool} {w : List Int} {T : Tbl} (hg : GOk g) (hE : IsGrow g false E) (hT : IsCount g g.nons.length w T) {k i : Nat} (hk : k < g.nons.length) (hi : i ≤ w.length) (h : E k = true) : 1 ≤ T k i i := by
 have hc : ClosedG g false (fun k => decide (g.nons.length ≤ k ∨ 1 ≤ T k i i)) := by
  intro p hp hf
  obtain ⟨l, hl, hln⟩ := hg.left p hp
  simp only [decide_eq_true_eq]
  right
  rw [hl, Int.toNat_natCast, ← hT.fix l i i hln (Nat.le_refl _) hi]
  refine fold_pos g.prods _ p hp (by rw [hl]; rfl) ?_
  refine ways_null p.right _ (by simp) fun s hs => ?_
  have h1 := List.all_eq_true.1 hf s hs
  rcases hg.right p hp s hs with ⟨t, rfl, ht⟩ | ⟨q, rfl, hq⟩
  · have := hg.tk2
    rw [if_pos (by omega)] at h1; cases h1
  · rw [if_neg (by omega)] at h1
    have e : (1000 + (q : Int) - 1000).toNat = q := by omega
    rw [e] at h1 ⊢
    simp only [decide_eq_true_eq] at h1
    exact ⟨by omega, by omega⟩
 have := hE.least _ hc k h
 simp only [decide_eq_true_eq] at this
 omega
def FInv (E : Nat → Bool) (S : Nat → Nat → Bool) (w : List Int) (i : Nat) (pre : List Int) (v : Nat → Nat) : Prop :=
 ∀ b, 1 ≤ v b → i ≤ b ∧ (b = i → (lstF S E pre).2 = true) ∧ (i < b → ∃ y : Nat, w[i]? = some (y : Int) ∧ (lstF S E pre).1 y = true)
open Classical in
noncomputable def tabF2 (E : Nat → Bool) (S : Nat → Nat → Bool) (w : List Int) : Tbl := fun k i j => if (i = j ∧ E k = true) ∨ (i < j ∧ ∃ y : Nat, w[i]? = some (y : Int) ∧ S k y = true) then 2 else 0
theorem tabF2_pos {E : Nat → Bool} {S : Nat → Nat → Bool} {w : List Int} {k i j : Nat} (h : 1 ≤ tabF2 E S w k i j) : (i = j ∧ E k = true) ∨ (i < j ∧ ∃ y : Nat, w[i]? = some (y : Int) ∧ S k y = true) := by
 unfold tabF2 at h
 split at h
 · assumption
 · omega
theorem lst_keep {E : Nat → Bool} {S : Nat → Nat → Bool} (pre : List Int) (s : Int) {y : Nat} (h : (lstF S E pre).1 y = true) : (lstF S E (pre ++ [s])).1 y = true := by
 unfold lstF
 rw [lstA_app]
 split
 · rw [(lstA_from S E [s] _).1 y, h]; rfl
 · exact h
theorem finv_step {E : Nat → Bool} {S : Nat → Nat → Bool} {w : List Int} {i nt nn : Nat} {pre : List Int} {v : Nat → Nat} {s : Int} (hs : SymIn nt nn s) (ht : nt ≤ 900) (h : FInv E S w i pre v) : FInv E S w i (pre ++ [s]) (stepN (tabF2 E S w) w s v) := by
 intro b hb
 rcases hs with ⟨t, rfl, htt⟩ | ⟨q, rfl, hq⟩
 · unfold stepN at hb
   rw [if_pos (by omega)] at hb
   split at hb
   · rename_i hbw
     obtain ⟨h0, hw⟩ := hbw
     obtain ⟨h1, h2, h3⟩ := h (b - 1) hb
     refine ⟨by omega, fun e => by omega, fun e => ?_⟩
     by_cases hbi : b - 1 = i
     · refine ⟨t, by rw [← hbi]; exact hw, ?_⟩
       unfold lstF
       rw [lstA_app, if_pos (h2 hbi), lstA, if_pos (show (t : Int) < 1000 by omega)]
       simp only [orS, memS, Bool.or_eq_true, Bool.and_eq_true, decide_eq_true_eq, List.mem_singleton]
       exact Or.inr ⟨by omega, trivial⟩
     · obtain ⟨y, hy, hy2⟩ := h3 (by omega)
       exact ⟨y, hy, lst_keep pre _ hy2⟩
   · omega
 · unfold stepN at hb
   rw [if_neg (by omega)] at hb
   have e : (1000 + (q : Int) - 1000).toNat = q := by omega
   rw [e] at hb
   obtain ⟨a, ha, hva⟩ := sumN_pos (show 1 ≤ sumN (fun a => v a * tabF2 E S w q a b) (b + 1) by omega)
   have hv : 1 ≤ v a := Nat.pos_of_ne_zero fun e => by rw [e] at hva; omega
   have hU : 1 ≤ tabF2 E S w q a b := Nat.pos_of_ne_zero fun e => by rw [e] at hva; omega
   obtain ⟨h1, h2, h3⟩ := h a hv
   have hL : lstF S E (pre ++ [1000 + (q : Int)]) = if (lstF S E pre).2 = true then (if E q = true then (orS (lstF S E pre).1 (S q), true) else (orS (lstF S E pre).1 (S q), false)) else lstF S E pre := by
    unfold lstF
    rw [lstA_app]
    split
    · rw [lstA, if_neg (by omega), e]
      split <;> rfl
    · rfl
   rcases tabF2_pos hU with ⟨rfl, hEq⟩ | ⟨hab, y, hy, hS⟩
   · refine ⟨h1, fun e2 => ?_, fun e2 => ?_⟩
     · rw [hL, if_pos (h2 e2), if_pos hEq]
     · obtain ⟨y, hy, hy2⟩ := h3 e2
       exact ⟨y, hy, lst_keep pre _ hy2⟩
   · refine ⟨by omega, fun e2 => by omega, fun e2 => ?_⟩
     by_cases hai : a = i
     · subst hai
       refine ⟨y, hy, ?_⟩
       rw [hL, if_pos (h2 rfl)]
       split <;> simp [orS, hS]
     · obtain ⟨y, hy, hy2⟩ := h3 (by omega)
       exact ⟨y, hy, lst_keep pre _ hy2⟩
theorem finv_all {E : Nat → Bool} {S : Nat → Nat → Bool} {w : List Int} {i nt nn : Nat} (ht : nt ≤ 900) : ∀ (l pre : List Int) (v : Nat → Nat), (∀ s ∈ l, SymIn nt nn s) → FInv E S w i pre v → FInv E S w i (pre ++ l) (l.foldl (fun v s => stepN (tabF2 E S w) w s v) v)
 | [], pre, v, _, h => by rwa [List.append_nil]
 | s :: l, pre, v, hs, h => by
   have := finv_all ht l (pre ++ [s]) _ (fun x hx => hs x (List.mem_cons_of_mem _ hx)) (finv_step (hs s (by simp)) ht h)
   rwa [List.append_assoc] at this
theorem tree_first {g : Grammar} {E : Nat → Bool} {S : Nat → Nat → Bool} {w : List Int} {T : Tbl} (hg : GOk g) (hE : IsGrow g false E) (hS : IsFirst g E S) (hT : IsCount g g.nons.length w T) {k i j : Nat} (hk : k < g.nons.length) (hij : i ≤ j) (hj : j ≤ w.length) (h : 1 ≤ T k i j) :
 (i = j ∧ E k = true) ∨ (i < j ∧ ∃ y : Nat, w[i]? = some (y : Int) ∧ S k y = true) := by
 refine tabF2_pos (Nat.le_trans h (hT.min _ ?_ k i j hk hij hj))
 intro k i j hk hij hj
 by_cases hc : (i = j ∧ E k = true) ∨ (i < j ∧ ∃ y : Nat, w[i]? = some (y : Int) ∧ S k y = true)
 · have : tabF2 E S w k i j = 2 := by unfold tabF2; rw [if_pos hc]
   rw [this]; exact sumP_le _ _ _ _ _ _
 · refine Nat.le_trans (Nat.le_of_eq ?_) (Nat.zero_le _)
   refine fold_zero g.prods _ rfl fun p hp hl => ?_
   refine Nat.eq_zero_of_not_pos fun hpos => hc ?_
   have hi := finv_all (E := E) (S := S) (w := w) (i := i) (nt := g.toks.length) (nn := g.nons.length) (by have := hg.tk2; omega) p.right [] (fun b => if b = i then 1 else 0) (hg.right p hp) (fun b hb => by
    dsimp only at hb
    split at hb
    · rename_i e; exact ⟨by omega, fun _ => rfl, fun e2 => by omega⟩
    · omega)
   rw [List.nil_append] at hi
   obtain ⟨h1, h2, h3⟩ := hi j hpos
   by_cases e : j = i
   · left
     refine ⟨e.symm, ?_⟩
     have := h2 e
     rw [lstF, lstA_snd] at this
     rw [← hl]; exact hE.closed p hp this
   · right
     obtain ⟨y, hy, hy2⟩ := h3 (by omega)
     refine ⟨by omega, y, hy, ?_⟩
     rw [← hl]; exact hS.closed p hp y hy2

set_option maxHeartbeats 4000000
def toksN (g : Grammar) (l : List Int) (n : Nat) : List Int := (l.take n).map fun x => x % ((g.toks.length + 1 : Nat) : Int)
theorem yuccalaw14_toks {g : Grammar} {l : List Int} {n : Nat} (hb : g.toks.length ≤ 1000000) (hn : n ≤ 100) (hl : l.length ≤ 1099511627776) : Pure Tryd.prog 26 [g.V, .sl 1 false (l.map (V.int .i64)), vi n] (.sl 1 false ((toksN g l n).map (V.int .i64))) := by
 refine pure_intro Tryd.func26 e26_nm e26_ok (by show 3 ≤ 33; decide) ?_
 show ewp _ e26n18 _ _
 repeat' with_reducible first
  | refine ewp_reg_seq ?_ | refine ewp_seq ?_ | refine ewp_block ?_
  | simp -implicitDefEqProofs only [wZZ, seval]
  | (apply boxQ_i; (exact wu_); (exact wu_))
 refine ewp_loopN ?nx1 (fun (i : Nat) s => s.f 1 = ?v1_1 ∧ s.f 2 = ?v1_2 ∧ s.f 3 = ?v1_3 ∧ s.H 0 = some (.own 5 [g.V] false) ∧ (∃ v, s.f 7 = v ∧ Gr s.H s.next 1 ((toksN g l i).map (V.int .i64)) v) ∧ s.f 8 = vi i ∧ (i ≤ l.length) ∧ (i ≤ n)) (fun i => l.length - i) (0) wj_ (by refine ⟨?_, ?_, ?_, ?_, ?_, ?_, (by first | omega | (simp; done) | assumption), (by first | omega | (simp; done) | assumption)⟩ <;> first | (simp -implicitDefEqProofs only [wL, wM, wN, wX, seval, Option.some.injEq] <;> exact wt_) | rfl | exact ⟨_, rfl⟩) ?_
 intro i s hnx ⟨g1, g2, g3, o0, ⟨v7, g7, G7⟩, g8, k1_0, k1_1⟩
 have hlt : (toksN g l i).length = i := by unfold toksN; rw [List.length_map, List.length_take]; omega
 have hz : IntKind.i64.wrap ((i + 1 : Nat) : Int) = ((i + 1 : Nat) : Int) := wrap64 (by omega) (by omega)
 have hz2 : IntKind.i64.wrap ((g.toks.length + 1 : Nat) : Int) = ((g.toks.length + 1 : Nat) : Int) := wrap64 (by omega) (by omega)
 by_cases hi : i < l.length
 · by_cases hin : i < n
   · have hst : toksN g l (i + 1) = toksN g l i ++ [l[i] % ((g.toks.length + 1 : Nat) : Int)] := by unfold toksN; rw [List.take_add_one, List.getElem?_eq_getElem hi, List.map_append]; rfl
     repeat' with_reducible first
      | refine ewp_reg_seq ?_ | refine ewp_seq ?_ | refine ewp_reg ?_ | refine ewp_skip ?_ | refine ewp_block ?_ | refine xt_n ?_ | refine xb_n ?_ | refine ewp_condQ ?_ | refine L_gdQ ?_ | refine gdQ_TT ?_
      | simp -implicitDefEqProofs only [wZZ, seval, g1, g2, g3, g7, g8, o0, Gr.dropO G7 o0, hz, hz2, hlt, G7.len]
      | (refine condQ_j (fun h h_ => ?_) (fun h h_ => ?_) <;> (try simp only [wD, reduceCtorEq] at h_) <;> (try exact wb_) <;> (try simp only [h]))
      | ((first | refine gdQ_iT (fun h => ?_) (fun h => ?_) | refine gdQ_iF (fun h => ?_) (fun h => ?_)) <;> have h_ := h <;> (try simp only [wD, reduceCtorEq] at h_) <;> (try exact wb_) <;> (try simp only [h]))
      | (apply ia_slQ; (focus omega); (exact wd_))
      | (apply appQ_G (hg := G7); (focus (first | rfl | (simp -implicitDefEqProofs only [wM]; done))); (focus (first | exact SrcN.sl | exact SrcN.asl | exact SrcN.gr G7 | exact SrcN.str)); (exact wf_); (focus (unfold maxLen; first | omega | (simp only [wZ] <;> omega))))
      | (apply ldQ_cell; (exact wu_))
      | (apply callQ2 (hp := yuccaref0_Within ?_ ?_); (focus (first | exact er_intsL | exact er_cl | exact er_sl | exact er_asl | exact G7.er rfl)); (focus (first | exact er_intsL | exact er_cl | exact er_sl | exact er_asl | exact G7.er rfl)); rotate_left; (exact wf_); (exact wf_))
     refine ⟨wk_, i + 1, (by omega), ?_⟩
     refine ⟨?_, ?_, ?_, ?_, ?_, ?_, ?_, ?_⟩
     iterate 6 (focus (first | (simp -implicitDefEqProofs only [wL, wM, wN, wX, seval, Option.some.injEq, g1, g2, g3, g7, g8, o0, Gr.dropO G7 o0, hst] <;> first | rfl | exact ⟨_, rfl⟩ | exact ⟨_, rfl, by first | assumption | exact Gr.nil | exact Gr.tok rfl (by omega) | exact Gr.tok (by simp -implicitDefEqProofs only [wM, seval] <;> rfl) (by omega) | exact Gr.clip | exact G7.to (by first | rfl | (simp [*]; done)) (by omega) rfl⟩) | rfl | exact ⟨_, rfl⟩))
     all_goals try omega
   · have e : i = n := by omega
     subst e
     repeat' with_reducible first
      | refine ewp_reg_seq ?_ | refine ewp_seq ?_ | refine ewp_ret ?_ | refine ewp_exit ?_ | refine xt_n ?_ | refine xt_e ?_ | refine xb_e ?_ | refine ewp_condQ ?_ | refine condQ_F ?_ | refine L_gdQ ?_ | refine gdQ_TT ?_
      | simp -implicitDefEqProofs only [wZZ, seval, g1, g2, g3, g7, g8, o0, Gr.dropO G7 o0, G7.len]
      | ((first | refine gdQ_iT (fun h => ?_) (fun h => ?_) | refine gdQ_iF (fun h => ?_) (fun h => ?_)) <;> have h_ := h <;> (try simp only [wD, reduceCtorEq] at h_) <;> (try exact wb_) <;> (try simp only [h]))
     all_goals refine post1 rfl (Or.inr rfl) ?_
     all_goals (try simp -implicitDefEqProofs only [wL, seval, g1, g2, g3, g7, g8])
     all_goals (first | refine er_bool ?_ | refine er_int ?_ | refine er_str ?_ | refine er_sl_eq ?_ | refine er_asl_eq ?_ | refine G7.er ?_)
     all_goals (try (with_reducible rfl))
 · have e : toksN g l i = toksN g l n := by unfold toksN; rw [List.take_of_length_le (by omega), List.take_of_length_le (by omega)]
   rw [e] at G7
   repeat' with_reducible first
    | refine ewp_reg_seq ?_ | refine ewp_seq ?_ | refine ewp_ret ?_ | refine ewp_exit ?_ | refine xt_n ?_ | refine xt_e ?_ | refine xb_e ?_ | refine ewp_condQ ?_ | refine condQ_F ?_ | refine L_gdQ ?_ | refine gdQ_FT ?_
    | simp -implicitDefEqProofs only [wZZ, seval, g1, g2, g3, g7, g8, o0, Gr.dropO G7 o0, G7.len]
    | ((first | refine gdQ_iT (fun h => ?_) (fun h => ?_) | refine gdQ_iF (fun h => ?_) (fun h => ?_)) <;> have h_ := h <;> (try simp only [wD, reduceCtorEq] at h_) <;> (try exact wb_) <;> (try simp only [h]))
   all_goals refine post1 rfl (Or.inr rfl) ?_
   all_goals (try simp -implicitDefEqProofs only [wL, seval, g1, g2, g3, g7, g8])
   all_goals (first | refine er_bool ?_ | refine er_int ?_ | refine er_str ?_ | refine er_sl_eq ?_ | refine er_asl_eq ?_ | refine G7.er ?_)
   all_goals (try (with_reducible rfl))

set_option maxRecDepth 20000
theorem GOk.cnt {g : Grammar} (h : GOk g) : Cnt g g.nons.length where
 nl := rfl
 nb := by have := h.nn2; omega
 pb := by have := h.pl2; omega
 pl := h.left
 pr := fun p hp s hs => by
  rcases h.right p hp s hs with ⟨t, rfl, ht⟩ | hk
  · left; have := h.tk2; omega
  · exact Or.inr hk
 rb := fun p hp => by have := h.rlen p hp; omega
theorem cnt1 {g : Grammar} {nn k : Nat} {u : List Int} {c : Int} (h : cntP g nn (1000 + (k : Int)) u c) (hu : u.length ≤ 24) (hk : k < nn) (ht : g.toks.length ≤ 40) : ∃ T, IsCount g nn u T ∧ c = T k 0 u.length := by
 unfold cntP at h
 rw [if_neg (by omega), if_neg (by omega), if_neg (by omega)] at h
 obtain ⟨T, h1, h2⟩ := h
 exact ⟨T, h1, by rw [h2, show (1000 + (k : Int) - 1000).toNat = k by omega]⟩
theorem cnt2 {g : Grammar} {nn t : Nat} {u : List Int} {c : Int} (h : cntP g nn (t : Int) u c) (hu : u.length ≤ 24) (ht : t < g.toks.length) : c = if u = [(t : Int)] then 1 else 0 := by
 unfold cntP at h
 rwa [if_neg (by omega), if_pos (by omega)] at h
theorem cnt3 {g : Grammar} {nn : Nat} {u : List Int} {c : Int} (h : cntP g nn 900 u c) (hu : u.length ≤ 24) (ht : g.toks.length ≤ 40) : c = 0 := by
 unfold cntP at h
 rwa [if_neg (by omega), if_neg (by omega), if_pos (by omega)] at h
theorem yuccalaw14_ManyBegins {x : GrI} {sy : Int} {w : List Int} (hb1 : x.rules.length ≤ 1099511627776) (hb2 : ∀ l ∈ x.rules, l.length ≤ 1099511627776) (hib : x.inner.length ≤ 1099511627776) (hlb : x.levels.length ≤ 1099511627776) (hwb : w.length ≤ 1099511627776) : Pure Tryd.prog 7 [x.V, vi sy, .sl 1 false (w.map (V.int .i64))] (.bool true) := by
 refine pure_intro Tryd.func7 e7_nm e7_ok (by show 3 ≤ 103; decide) ?_
 show ewp _ e7n33 _ _
 have hwk := wakes_pure
 have hsrc := yuccalaw0_Source (x := x) hb1 hb2 hib hlb
 have hgr := gramI x
 have hg := gok (sourceS_ok x)
 obtain ⟨E, hE, hvg⟩ := vain_grow (token := false) hg
 obtain ⟨S, hS⟩ := first_ex hg hvg
 have hnu := vain_Nullable hg hvg
 generalize gramS (sourceS x) = g at *
 have hnl := hg.nn2; have hnl1 := hg.nn; have htl := hg.tk2; have htl1 := hg.tk
 have htk := yuccalaw14_toks (g := g) (l := w) (n := 12) (by omega) (by omega) hwb
 rw [show ((12 : Nat) : Int) = 12 from rfl] at htk
 have hul : (toksN g w 12).length ≤ 12 := by unfold toksN; rw [List.length_map, List.length_take]; omega
 generalize toksN g w 12 = u at htk hul
 obtain ⟨k, hk, hkn⟩ : ∃ k : Nat, sy % (g.nons.length : Int) = (k : Int) ∧ k < g.nons.length := by
  have h1 := Int.emod_nonneg sy (show (g.nons.length : Int) ≠ 0 by omega)
  have h2 := Int.emod_lt_of_pos sy (show (0 : Int) < (g.nons.length : Int) by omega)
  exact ⟨(sy % (g.nons.length : Int)).toNat, by omega, by omega⟩
 obtain ⟨t, ht, htn⟩ : ∃ t : Nat, sy % (g.toks.length : Int) = (t : Int) ∧ t < g.toks.length := by
  have h1 := Int.emod_nonneg sy (show (g.toks.length : Int) ≠ 0 by omega)
  have h2 := Int.emod_lt_of_pos sy (show (0 : Int) < (g.toks.length : Int) by omega)
  exact ⟨(sy % (g.toks.length : Int)).toNat, by omega, by omega⟩
 have hw1 := yuccaref0_Within (i := sy) (n := (g.nons.length : Int)) (by omega) (by omega)
 have hw2 := yuccaref0_Within (i := sy) (n := (g.toks.length : Int)) (by omega) (by omega)
 rw [hk] at hw1
 rw [ht] at hw2
 obtain ⟨c1, hc1, hp1⟩ := many_Count (sy := 1000 + (k : Int)) (w := u) hg.cnt (by omega) (by omega) (by omega)
 obtain ⟨c2, hc2, hp2⟩ := many_Count (sy := (t : Int)) (w := u) hg.cnt (by omega) (by omega) (by omega)
 obtain ⟨c3, hc3, hp3⟩ := many_Count (sy := 900) (w := u) hg.cnt (by omega) (by omega) (by omega)
 obtain ⟨T, hT, hc1⟩ := cnt1 hc1 (by omega) hkn (by omega)
 have hc2 := cnt2 hc2 (by omega) htn
 have hc3 := cnt3 hc3 (by omega) (by omega)
 have h1n := first_List (l := [1000 + (k : Int)]) hg hvg hS (by simp)
 rw [first_one hkn] at h1n
 dsimp only at h1n
 have hwl := whichL_len g.nons.length E true
 have hhas := yuccaref0_Has (a := whichL g.nons.length E true) (x := 1000 + (k : Int)) (by omega)
 have hhe : decide ((1000 + (k : Int)) ∈ whichL g.nons.length E true) = E k := by rw [Bool.eq_iff_iff, decide_eq_true_eq, whichL_mem hkn]
 rw [hhe] at hhas
 have hz2 : IntKind.i64.wrap (1000 + (k : Int)) = 1000 + (k : Int) := wrap64 (by omega) (by omega)
 have hll := lst_len (S k) 1024
 have hE1 : E k = true → 1 ≤ T k 0 0 := fun h => null_pos hg hE hT hkn (Nat.zero_le _) h
 have hT1 : 1 ≤ T k 0 u.length → _ := fun h => tree_first hg hE hS hT hkn (Nat.zero_le _) (Nat.le_refl _) h
 subst hc3
 by_cases hu : u = []
 · have hul0 : u.length = 0 := by rw [hu]; rfl
   rw [hul0] at hc1 hT1
   rw [if_neg (by rw [hu]; simp)] at hc2
   clear hu
   have hc1E : (0 : Int) < c1 ↔ E k = true := by
    rw [hc1]
    constructor
    · intro h
      rcases hT1 (Int.ofNat_lt.1 h) with h | h
      · exact h.2
      · omega
    · intro h; have := hE1 h; exact Int.ofNat_lt.2 this
   subst hc2
   generalize E k = q at *
   clear hT1 hE1
   cases q
   · have hcc : c1 ≤ 0 := by
      have : ¬ (0 < c1) := fun h => by simpa using hc1E.1 h
      omega
     have hcd : decide (0 < c1) = false := decide_eq_false (by omega)
     repeat' with_reducible first
      | refine ewp_reg_seq ?_ | refine ewp_seq ?_ | refine ewp_skip ?_ | refine ewp_ret ?_ | refine xt_n ?_ | refine ewp_condQ ?_ | refine condQ_F ?_ | refine L_gdQ ?_ | refine gdQ_TT ?_ | refine gdQ_FF ?_ | refine gdQ_FT ?_
      | simp -implicitDefEqProofs only [wZZ, seval, hz2, hcd, beq_self_eq_true, bne_self_eq_false]
      | ((first | refine gdQ_iT (fun h => ?_) (fun h => ?_) | refine gdQ_iF (fun h => ?_) (fun h => ?_)) <;> have h_ := h <;> (try simp only [wD, reduceCtorEq] at h_) <;> (try exact wb_) <;> (try simp only [h]))
      | (apply callQ0 (hp := hwk))
      | (apply callQ1 (hp := hsrc); (focus exact er_cl))
      | (apply callQ1 (hp := hgr); (focus exact src_er _))
      | (apply callQ3 (hp := htk); (focus exact er_cl); (focus exact er_cl); (focus exact er_cl))
      | (apply callQ2 (hp := hw1); (focus exact er_cl); (focus exact er_cl))
      | (apply callQ2 (hp := hw2); (focus exact er_cl); (focus exact er_cl))
      | (apply callQ3 (hp := hp1); (focus exact er_cl); (focus exact er_cl); (focus exact er_cl))
      | (apply callQ3 (hp := hp2); (focus exact er_cl); (focus exact er_cl); (focus exact er_cl))
      | (apply callQ3 (hp := hp3); (focus exact er_cl); (focus exact er_cl); (focus exact er_cl))
      | (apply callQ2 (hp := h1n); (focus exact er_cl); (focus with_unfolding_all exact er_ints (l := [1000 + (k : Int)])))
      | (apply ldQ_whole)
      | (apply ldQ_cell; (exact wu_))
      | (apply stQ_whole; (exact wu_); (exact wu_))
      | (apply boxQ_i; (exact wu_); (exact wu_))
     all_goals refine post1 rfl (Or.inr rfl) ?_
     all_goals (try simp -implicitDefEqProofs only [wL, seval])
     all_goals (first | refine er_bool ?_ | refine er_int ?_ | refine er_str ?_ | refine er_sl_eq ?_ | refine er_asl_eq ?_)
     all_goals (try (with_reducible rfl))
   · have hcc : 0 < c1 := hc1E.2 rfl
     have hcd : decide (0 < c1) = true := decide_eq_true hcc
     repeat' with_reducible first
      | refine ewp_reg_seq ?_ | refine ewp_seq ?_ | refine ewp_skip ?_ | refine ewp_ret ?_ | refine xt_n ?_ | refine ewp_condQ ?_ | refine condQ_F ?_ | refine L_gdQ ?_ | refine gdQ_TT ?_ | refine gdQ_FF ?_ | refine gdQ_FT ?_
      | simp -implicitDefEqProofs only [wZZ, seval, hz2, hcd, beq_self_eq_true, bne_self_eq_false]
      | ((first | refine gdQ_iT (fun h => ?_) (fun h => ?_) | refine gdQ_iF (fun h => ?_) (fun h => ?_)) <;> have h_ := h <;> (try simp only [wD, reduceCtorEq] at h_) <;> (try exact wb_) <;> (try simp only [h]))
      | (apply callQ0 (hp := hwk))
      | (apply callQ1 (hp := hsrc); (focus exact er_cl))
      | (apply callQ1 (hp := hgr); (focus exact src_er _))
      | (apply callQ1 (hp := hnu); (focus exact er_cl))
      | (apply callQ3 (hp := htk); (focus exact er_cl); (focus exact er_cl); (focus exact er_cl))
      | (apply callQ2 (hp := hw1); (focus exact er_cl); (focus exact er_cl))
      | (apply callQ2 (hp := hw2); (focus exact er_cl); (focus exact er_cl))
      | (apply callQ3 (hp := hp1); (focus exact er_cl); (focus exact er_cl); (focus exact er_cl))
      | (apply callQ3 (hp := hp2); (focus exact er_cl); (focus exact er_cl); (focus exact er_cl))
      | (apply callQ3 (hp := hp3); (focus exact er_cl); (focus exact er_cl); (focus exact er_cl))
      | (apply callQ2 (hp := h1n); (focus exact er_cl); (focus with_unfolding_all exact er_ints (l := [1000 + (k : Int)])))
      | (apply callQ2 (hp := hhas); (focus exact er_cl); (focus exact er_cl))
      | (apply ldQ_whole)
      | (apply ldQ_cell; (exact wu_))
      | (apply stQ_whole; (exact wu_); (exact wu_))
      | (apply boxQ_i; (exact wu_); (exact wu_))
     all_goals refine post1 rfl (Or.inr rfl) ?_
     all_goals (try simp -implicitDefEqProofs only [wL, seval])
     all_goals (first | refine er_bool ?_ | refine er_int ?_ | refine er_str ?_ | refine er_sl_eq ?_ | refine er_asl_eq ?_)
     all_goals (try (with_reducible rfl))
 · have h0 : 1 ≤ u.length := List.length_pos_iff.2 hu
   obtain ⟨y, hgu⟩ : ∃ y, u[0]? = some y := ⟨u[0], List.getElem?_eq_getElem (by omega)⟩
   have hhas2 := yuccaref0_Has (a := lst (S k) 1024) (x := y) (by omega)
   have hS2 : 0 < c1 → decide (y ∈ lst (S k) 1024) = true := fun h => by
    have h9 : 1 ≤ T k 0 u.length := by rw [hc1] at h; exact Int.ofNat_lt.1 h
    rcases hT1 h9 with ⟨h8, _⟩ | ⟨_, z, h1, h2⟩
    · omega
    · rw [h1] at hgu
      cases hgu
      exact decide_eq_true (lst_mem.2 ⟨z, hS.small k z h2, h2, rfl⟩)
   generalize decide (y ∈ lst (S k) 1024) = qs at *
   generalize E k = q at *
   clear hT1 hE1 hc1
   by_cases hut : u = [(t : Int)]
   · rw [if_pos hut] at hc2
     subst hc2
     have hul1 : u.length = 1 := by rw [hut]; rfl
     have hyt : y = (t : Int) := by rw [hut] at hgu; simpa using hgu.symm
     clear hut
     have hyd : decide (y = (t : Int)) = true := decide_eq_true hyt
     by_cases hcc : 0 < c1
     · obtain rfl := hS2 hcc
       repeat' with_reducible first
        | refine ewp_reg_seq ?_ | refine ewp_seq ?_ | refine ewp_skip ?_ | refine ewp_ret ?_ | refine xt_n ?_ | refine ewp_condQ ?_ | refine condQ_F ?_ | refine L_gdQ ?_ | refine gdQ_TT ?_ | refine gdQ_FF ?_ | refine gdQ_FT ?_ | refine gdQ_u ?_
        | simp -implicitDefEqProofs only [wZZ, seval, hz2, hyd, beq_self_eq_true]
        | ((first | refine gdQ_iT (fun h => ?_) (fun h => ?_) | refine gdQ_iF (fun h => ?_) (fun h => ?_)) <;> have h_ := h <;> (try simp only [wD, reduceCtorEq] at h_) <;> (try exact wb_) <;> (try simp only [h]))
        | (apply callQ0 (hp := hwk))
        | (apply callQ1 (hp := hsrc); (focus exact er_cl))
        | (apply callQ1 (hp := hgr); (focus exact src_er _))
        | (apply callQ3 (hp := htk); (focus exact er_cl); (focus exact er_cl); (focus exact er_cl))
        | (apply callQ2 (hp := hw1); (focus exact er_cl); (focus exact er_cl))
        | (apply callQ2 (hp := hw2); (focus exact er_cl); (focus exact er_cl))
        | (apply callQ3 (hp := hp1); (focus exact er_cl); (focus exact er_cl); (focus exact er_cl))
        | (apply callQ3 (hp := hp2); (focus exact er_cl); (focus exact er_cl); (focus exact er_cl))
        | (apply callQ3 (hp := hp3); (focus exact er_cl); (focus exact er_cl); (focus exact er_cl))
        | (apply callQ2 (hp := h1n); (focus exact er_cl); (focus with_unfolding_all exact er_ints (l := [1000 + (k : Int)])))
        | (apply callQ2 (hp := hhas2); (focus exact er_cl); (focus exact er_cl))
        | (apply ia_slQ; (focus omega); (focus with_unfolding_all exact hgu))
        | (apply ldQ_whole)
        | (apply ldQ_cell; (exact wu_))
        | (apply stQ_whole; (exact wu_); (exact wu_))
        | (apply boxQ_i; (exact wu_); (exact wu_))
       all_goals refine post1 rfl (Or.inr rfl) ?_
       all_goals (try simp -implicitDefEqProofs only [wL, seval])
       all_goals (first | refine er_bool ?_ | refine er_int ?_ | refine er_str ?_ | refine er_sl_eq ?_ | refine er_asl_eq ?_)
       all_goals (try (with_reducible rfl))
     · clear hS2
       repeat' with_reducible first
        | refine ewp_reg_seq ?_ | refine ewp_seq ?_ | refine ewp_skip ?_ | refine ewp_ret ?_ | refine xt_n ?_ | refine ewp_condQ ?_ | refine condQ_F ?_ | refine L_gdQ ?_ | refine gdQ_TT ?_ | refine gdQ_FF ?_ | refine gdQ_FT ?_ | refine gdQ_u ?_
        | simp -implicitDefEqProofs only [wZZ, seval, hz2, hyd, beq_self_eq_true]
        | ((first | refine gdQ_iT (fun h => ?_) (fun h => ?_) | refine gdQ_iF (fun h => ?_) (fun h => ?_)) <;> have h_ := h <;> (try simp only [wD, reduceCtorEq] at h_) <;> (try exact wb_) <;> (try simp only [h]))
        | (apply callQ0 (hp := hwk))
        | (apply callQ1 (hp := hsrc); (focus exact er_cl))
        | (apply callQ1 (hp := hgr); (focus exact src_er _))
        | (apply callQ3 (hp := htk); (focus exact er_cl); (focus exact er_cl); (focus exact er_cl))
        | (apply callQ2 (hp := hw1); (focus exact er_cl); (focus exact er_cl))
        | (apply callQ2 (hp := hw2); (focus exact er_cl); (focus exact er_cl))
        | (apply callQ3 (hp := hp1); (focus exact er_cl); (focus exact er_cl); (focus exact er_cl))
        | (apply callQ3 (hp := hp2); (focus exact er_cl); (focus exact er_cl); (focus exact er_cl))
        | (apply callQ3 (hp := hp3); (focus exact er_cl); (focus exact er_cl); (focus exact er_cl))
        | (apply callQ2 (hp := h1n); (focus exact er_cl); (focus with_unfolding_all exact er_ints (l := [1000 + (k : Int)])))
        | (apply ia_slQ; (focus omega); (focus with_unfolding_all exact hgu))
        | (apply ldQ_whole)
        | (apply ldQ_cell; (exact wu_))
        | (apply stQ_whole; (exact wu_); (exact wu_))
        | (apply boxQ_i; (exact wu_); (exact wu_))
       all_goals refine post1 rfl (Or.inr rfl) ?_
       all_goals (try simp -implicitDefEqProofs only [wL, seval])
       all_goals (first | refine er_bool ?_ | refine er_int ?_ | refine er_str ?_ | refine er_sl_eq ?_ | refine er_asl_eq ?_)
       all_goals (try (with_reducible rfl))
   · rw [if_neg hut] at hc2
     subst hc2
     have hne : u.length = 1 → ¬ y = (t : Int) := fun h e => hut (by
      match u, h, hgu with
      | [a], _, h => simp at h; rw [h, e])
     clear hut
     by_cases hl1 : u.length = 1
     · have hyt := hne hl1
       clear hne
       have hyd : decide (y = (t : Int)) = false := decide_eq_false hyt
       by_cases hcc : 0 < c1
       · obtain rfl := hS2 hcc
         repeat' with_reducible first
          | refine ewp_reg_seq ?_ | refine ewp_seq ?_ | refine ewp_skip ?_ | refine ewp_ret ?_ | refine xt_n ?_ | refine ewp_condQ ?_ | refine condQ_F ?_ | refine L_gdQ ?_ | refine gdQ_TT ?_ | refine gdQ_FF ?_ | refine gdQ_FT ?_ | refine gdQ_u ?_
          | simp -implicitDefEqProofs only [wZZ, seval, hz2, hyd, beq_self_eq_true]
          | ((first | refine gdQ_iT (fun h => ?_) (fun h => ?_) | refine gdQ_iF (fun h => ?_) (fun h => ?_)) <;> have h_ := h <;> (try simp only [wD, reduceCtorEq] at h_) <;> (try exact wb_) <;> (try simp only [h]))
          | (apply callQ0 (hp := hwk))
          | (apply callQ1 (hp := hsrc); (focus exact er_cl))
          | (apply callQ1 (hp := hgr); (focus exact src_er _))
          | (apply callQ3 (hp := htk); (focus exact er_cl); (focus exact er_cl); (focus exact er_cl))
          | (apply callQ2 (hp := hw1); (focus exact er_cl); (focus exact er_cl))
          | (apply callQ2 (hp := hw2); (focus exact er_cl); (focus exact er_cl))
          | (apply callQ3 (hp := hp1); (focus exact er_cl); (focus exact er_cl); (focus exact er_cl))
          | (apply callQ3 (hp := hp2); (focus exact er_cl); (focus exact er_cl); (focus exact er_cl))
          | (apply callQ3 (hp := hp3); (focus exact er_cl); (focus exact er_cl); (focus exact er_cl))
          | (apply callQ2 (hp := h1n); (focus exact er_cl); (focus with_unfolding_all exact er_ints (l := [1000 + (k : Int)])))
          | (apply callQ2 (hp := hhas2); (focus exact er_cl); (focus exact er_cl))
          | (apply ia_slQ; (focus omega); (focus with_unfolding_all exact hgu))
          | (apply ldQ_whole)
          | (apply ldQ_cell; (exact wu_))
          | (apply stQ_whole; (exact wu_); (exact wu_))
          | (apply boxQ_i; (exact wu_); (exact wu_))
         all_goals refine post1 rfl (Or.inr rfl) ?_
         all_goals (try simp -implicitDefEqProofs only [wL, seval])
         all_goals (first | refine er_bool ?_ | refine er_int ?_ | refine er_str ?_ | refine er_sl_eq ?_ | refine er_asl_eq ?_)
         all_goals (try (with_reducible rfl))
       · clear hS2
         repeat' with_reducible first
          | refine ewp_reg_seq ?_ | refine ewp_seq ?_ | refine ewp_skip ?_ | refine ewp_ret ?_ | refine xt_n ?_ | refine ewp_condQ ?_ | refine condQ_F ?_ | refine L_gdQ ?_ | refine gdQ_TT ?_ | refine gdQ_FF ?_ | refine gdQ_FT ?_ | refine gdQ_u ?_
          | simp -implicitDefEqProofs only [wZZ, seval, hz2, hyd, beq_self_eq_true]
          | ((first | refine gdQ_iT (fun h => ?_) (fun h => ?_) | refine gdQ_iF (fun h => ?_) (fun h => ?_)) <;> have h_ := h <;> (try simp only [wD, reduceCtorEq] at h_) <;> (try exact wb_) <;> (try simp only [h]))
          | (apply callQ0 (hp := hwk))
          | (apply callQ1 (hp := hsrc); (focus exact er_cl))
          | (apply callQ1 (hp := hgr); (focus exact src_er _))
          | (apply callQ3 (hp := htk); (focus exact er_cl); (focus exact er_cl); (focus exact er_cl))
          | (apply callQ2 (hp := hw1); (focus exact er_cl); (focus exact er_cl))
          | (apply callQ2 (hp := hw2); (focus exact er_cl); (focus exact er_cl))
          | (apply callQ3 (hp := hp1); (focus exact er_cl); (focus exact er_cl); (focus exact er_cl))
          | (apply callQ3 (hp := hp2); (focus exact er_cl); (focus exact er_cl); (focus exact er_cl))
          | (apply callQ3 (hp := hp3); (focus exact er_cl); (focus exact er_cl); (focus exact er_cl))
          | (apply callQ2 (hp := h1n); (focus exact er_cl); (focus with_unfolding_all exact er_ints (l := [1000 + (k : Int)])))
          | (apply ia_slQ; (focus omega); (focus with_unfolding_all exact hgu))
          | (apply ldQ_whole)
          | (apply ldQ_cell; (exact wu_))
          | (apply stQ_whole; (exact wu_); (exact wu_))
          | (apply boxQ_i; (exact wu_); (exact wu_))
         all_goals refine post1 rfl (Or.inr rfl) ?_
         all_goals (try simp -implicitDefEqProofs only [wL, seval])
         all_goals (first | refine er_bool ?_ | refine er_int ?_ | refine er_str ?_ | refine er_sl_eq ?_ | refine er_asl_eq ?_)
         all_goals (try (with_reducible rfl))
     · clear hne
       by_cases hcc : 0 < c1
       · obtain rfl := hS2 hcc
         repeat' with_reducible first
          | refine ewp_reg_seq ?_ | refine ewp_seq ?_ | refine ewp_skip ?_ | refine ewp_ret ?_ | refine xt_n ?_ | refine ewp_condQ ?_ | refine condQ_F ?_ | refine L_gdQ ?_ | refine gdQ_TT ?_ | refine gdQ_FF ?_ | refine gdQ_FT ?_ | refine gdQ_u ?_
          | simp -implicitDefEqProofs only [wZZ, seval, hz2, beq_self_eq_true]
          | ((first | refine gdQ_iT (fun h => ?_) (fun h => ?_) | refine gdQ_iF (fun h => ?_) (fun h => ?_)) <;> have h_ := h <;> (try simp only [wD, reduceCtorEq] at h_) <;> (try exact wb_) <;> (try simp only [h]))
          | (apply callQ0 (hp := hwk))
          | (apply callQ1 (hp := hsrc); (focus exact er_cl))
          | (apply callQ1 (hp := hgr); (focus exact src_er _))
          | (apply callQ3 (hp := htk); (focus exact er_cl); (focus exact er_cl); (focus exact er_cl))
          | (apply callQ2 (hp := hw1); (focus exact er_cl); (focus exact er_cl))
          | (apply callQ2 (hp := hw2); (focus exact er_cl); (focus exact er_cl))
          | (apply callQ3 (hp := hp1); (focus exact er_cl); (focus exact er_cl); (focus exact er_cl))
          | (apply callQ3 (hp := hp2); (focus exact er_cl); (focus exact er_cl); (focus exact er_cl))
          | (apply callQ3 (hp := hp3); (focus exact er_cl); (focus exact er_cl); (focus exact er_cl))
          | (apply callQ2 (hp := h1n); (focus exact er_cl); (focus with_unfolding_all exact er_ints (l := [1000 + (k : Int)])))
          | (apply callQ2 (hp := hhas2); (focus exact er_cl); (focus exact er_cl))
          | (apply ia_slQ; (focus omega); (focus with_unfolding_all exact hgu))
          | (apply ldQ_whole)
          | (apply ldQ_cell; (exact wu_))
          | (apply stQ_whole; (exact wu_); (exact wu_))
          | (apply boxQ_i; (exact wu_); (exact wu_))
         all_goals refine post1 rfl (Or.inr rfl) ?_
         all_goals (try simp -implicitDefEqProofs only [wL, seval])
         all_goals (first | refine er_bool ?_ | refine er_int ?_ | refine er_str ?_ | refine er_sl_eq ?_ | refine er_asl_eq ?_)
         all_goals (try (with_reducible rfl))
       · clear hS2
         repeat' with_reducible first
          | refine ewp_reg_seq ?_ | refine ewp_seq ?_ | refine ewp_skip ?_ | refine ewp_ret ?_ | refine xt_n ?_ | refine ewp_condQ ?_ | refine condQ_F ?_ | refine L_gdQ ?_ | refine gdQ_TT ?_ | refine gdQ_FF ?_ | refine gdQ_FT ?_ | refine gdQ_u ?_
          | simp -implicitDefEqProofs only [wZZ, seval, hz2, beq_self_eq_true]
          | ((first | refine gdQ_iT (fun h => ?_) (fun h => ?_) | refine gdQ_iF (fun h => ?_) (fun h => ?_)) <;> have h_ := h <;> (try simp only [wD, reduceCtorEq] at h_) <;> (try exact wb_) <;> (try simp only [h]))
          | (apply callQ0 (hp := hwk))
          | (apply callQ1 (hp := hsrc); (focus exact er_cl))
          | (apply callQ1 (hp := hgr); (focus exact src_er _))
          | (apply callQ3 (hp := htk); (focus exact er_cl); (focus exact er_cl); (focus exact er_cl))
          | (apply callQ2 (hp := hw1); (focus exact er_cl); (focus exact er_cl))
          | (apply callQ2 (hp := hw2); (focus exact er_cl); (focus exact er_cl))
          | (apply callQ3 (hp := hp1); (focus exact er_cl); (focus exact er_cl); (focus exact er_cl))
          | (apply callQ3 (hp := hp2); (focus exact er_cl); (focus exact er_cl); (focus exact er_cl))
          | (apply callQ3 (hp := hp3); (focus exact er_cl); (focus exact er_cl); (focus exact er_cl))
          | (apply callQ2 (hp := h1n); (focus exact er_cl); (focus with_unfolding_all exact er_ints (l := [1000 + (k : Int)])))
          | (apply ldQ_whole)
          | (apply ldQ_cell; (exact wu_))
          | (apply stQ_whole; (exact wu_); (exact wu_))
          | (apply boxQ_i; (exact wu_); (exact wu_))
         all_goals refine post1 rfl (Or.inr rfl) ?_
         all_goals (try simp -implicitDefEqProofs only [wL, seval])
         all_goals (first | refine er_bool ?_ | refine er_int ?_ | refine er_str ?_ | refine er_sl_eq ?_ | refine er_asl_eq ?_)
         all_goals (try (with_reducible rfl))
end Go.Proofs
