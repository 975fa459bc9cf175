/- Part of a proof that a law of the given program answers true. -/
import Derived.Test.YtpnfbnlhjdnnpaaWJA
import Derived.Test.YtpnfbnlhjdnnpaaWKA
import Derived.Test.YtpnfbnlhjdnnpaaWYA
set_option linter.unusedSimpArgs false
set_option linter.unusedVariables false
set_option maxHeartbeats 4000000
namespace Go.Proofs
open Go.E
def fitsB (token : Bool) (h : Nat → Bool) (l : List Int) : Bool := l.all fun s => if s < 1000 then token else h (s - 1000).toNat
def ClosedG (g : Grammar) (token : Bool) (E : Nat → Bool) : Prop := ∀ p ∈ g.prods, fitsB token E p.right = true → E p.left.toNat = true
structure IsGrow (g : Grammar) (token : Bool) (E : Nat → Bool) : Prop where
 closed : ClosedG g token E
 least : ∀ F, ClosedG g token F → ∀ k, E k = true → F k = true
theorem IsGrow.uniq {g : Grammar} {token : Bool} {E F : Nat → Bool} (h : IsGrow g token E) (k : IsGrow g token F) : E = F := by
 funext n
 rw [Bool.eq_iff_iff]
 exact ⟨h.least F k.closed n, k.least E h.closed n⟩
theorem fitsB_mono {token : Bool} {h F : Nat → Bool} (hh : ∀ k, h k = true → F k = true) {l : List Int} (hl : fitsB token h l = true) : fitsB token F l = true := by
 unfold fitsB at *
 rw [List.all_eq_true] at *
 intro s hs
 have := hl s hs
 split
 · rename_i h1; rwa [if_pos h1] at this
 · rename_i h1; rw [if_neg h1] at this; exact hh _ this
def cf (h : Nat → Bool) : Nat → Nat
 | 0 => 0
 | n + 1 => cf h n + if h n = true then 0 else 1
theorem cf_upd {h : Nat → Bool} {k : Nat} (hk : h k = false) : ∀ n, (n ≤ k → cf (updN h k true) n = cf h n) ∧ (k < n → cf (updN h k true) n + 1 = cf h n)
 | 0 => ⟨fun _ => rfl, fun h => by omega⟩
 | n + 1 => by
   obtain ⟨h1, h2⟩ := cf_upd hk n
   unfold cf
   by_cases e : n = k
   · subst e
     have e2 : updN h n true n = true := by unfold updN; rw [if_pos rfl]
     rw [e2, h1 (Nat.le_refl _), hk]
     exact ⟨fun h => by omega, fun _ => by simp⟩
   · have e2 : updN h k true n = h n := by unfold updN; rw [if_neg e]
     rw [e2]
     exact ⟨fun h => by rw [h1 (by omega)], fun h => by have := h2 (by omega); omega⟩

theorem fitsB_snoc (token : Bool) (h : Nat → Bool) (l : List Int) (s : Int) : fitsB token h (l ++ [s]) = (fitsB token h l && (if s < 1000 then token else h (s - 1000).toNat)) := by simp [fitsB]
def vainL (n : Nat) (E : Nat → Bool) : List Int := ((List.range n).filter fun k => !E k).map fun (k : Nat) => 1000 + (k : Int)
theorem vainL_succ (n : Nat) (E : Nat → Bool) : vainL (n + 1) E = vainL n E ++ (if E n = true then [] else [1000 + (n : Int)]) := by
 unfold vainL
 rw [List.range_succ, List.filter_append, List.map_append]
 cases h : E n <;> simp [h]
theorem vainL_len (n : Nat) (E : Nat → Bool) : (vainL n E).length ≤ n := by
 unfold vainL; rw [List.length_map]
 exact Nat.le_trans (List.length_filter_le _ _) (by rw [List.length_range]; exact Nat.le_refl _)
theorem vainL_mem {n k : Nat} {E : Nat → Bool} (hk : k < n) : (1000 + (k : Int)) ∈ vainL n E ↔ E k = false := by
 unfold vainL
 simp only [List.mem_map, List.mem_filter, List.mem_range]
 constructor
 · rintro ⟨q, ⟨_, h1⟩, h2⟩
   have : q = k := by omega
   subst this; simpa using h1
 · intro h; exact ⟨k, ⟨hk, by rw [h]; rfl⟩, rfl⟩
theorem vainL_tok {n : Nat} {E : Nat → Bool} {s : Int} (hs : s < 1000) : s ∉ vainL n E := by
 unfold vainL
 simp only [List.mem_map, List.mem_filter, List.mem_range]
 rintro ⟨q, _, h2⟩
 omega
theorem rt_ok {g : Grammar} (h : GOk g) {p : GPr} (hp : p ∈ g.prods) : ∀ s ∈ p.right, s < 1000 ∨ ∃ k : Nat, s = 1000 + (k : Int) ∧ k < g.nons.length := fun s hs => by
 rcases h.right p hp s hs with ⟨t, e, l⟩ | ⟨k, e, l⟩
 · have := h.tk2; exact Or.inl (by omega)
 · exact Or.inr ⟨k, e, l⟩
theorem yuccaref9_Vain {g : Grammar} (hg : GOk g) : ∃ E, IsGrow g true E ∧ Pure Try.prog 33 [g.V] (.sl 1 false ((vainL g.nons.length E).map (V.int .i64))) := by
 have hh := pure_ex (G := fun v => ∃ E, v = .sl 1 false ((vainL g.nons.length E).map (V.int .i64)) ∧ IsGrow g true E) (args := [g.V]) Try.func33 e33_nm e33_ok (by show 1 ≤ 93; decide) ?_
 · obtain ⟨v, ⟨E, rfl, h⟩, h2⟩ := hh
   exact ⟨E, h, h2⟩
 show ewp _ e33n69 _ _
 have hnl := hg.nn2; have hpl := hg.pl2
 have hb0 := bolC_0 g.nons.length
 repeat' with_reducible first
  | refine s_ ?_
  | simp -implicitDefEqProofs only [wZZ, seval]
  | (apply ldQ_cell; (exact wu_))
  | (apply boxQ_i; (exact wu_); (exact wu_))
  | (apply mkQ_T; (exact wf_); (exact wf_); (focus (unfold maxLen; first | omega | (simp only [wZ] <;> omega))))
 rw [hb0]
 refine ewp_loopN ?nx1 (fun (q : (Nat → Bool) × Bool) s => s.f 1 = ?v1_1 ∧ s.f 3 = ?v1_3 ∧ s.H 0 = some (MObj.own 5 [g.V] false) ∧ s.f 4 = .bool q.2 ∧ ((s.H 5 = some (MObj.own 1 (bolC g.nons.length q.1) false))) ∧ ((∀ F, ClosedG g true F → ∀ k, q.1 k = true → F k = true)) ∧ ((q.2 = false → ClosedG g true q.1))) (fun q => 2 * cf q.1 g.nons.length + (if q.2 = true then 1 else 0)) ((fun _ => false, true)) wj_ (by refine ⟨?_, ?_, ?_, ?_, wc_, (by intro F _ k h; cases h), (by intro h; cases h)⟩ <;> first | (simp -implicitDefEqProofs only [wL, wM, wN, wX, seval, Option.some.injEq] <;> exact wt_) | rfl | exact ⟨_, rfl⟩) ?_
 intro q s hnx ⟨g1, g3, o0, g4, k1_0, k1_1, k1_2⟩
 obtain ⟨h, b⟩ := q
 dsimp only at *
 cases b with
 | true =>
   repeat' with_reducible first
    | refine s_ ?_
    | simp -implicitDefEqProofs only [wZZ, seval, g1, g3, g4, o0, k1_0]
   refine ewp_loopN ?nx2 (fun (r : Nat × (Nat → Bool) × Bool) s => s.f 1 = ?v2_1 ∧ s.f 3 = ?v2_3 ∧ s.H 0 = some (MObj.own 5 [g.V] false) ∧ s.f 4 = .bool r.2.2 ∧ s.f 5 = vi r.1 ∧ (r.1 ≤ g.prods.length) ∧ ((s.H 5 = some (MObj.own 1 (bolC g.nons.length r.2.1) false))) ∧ ((∀ F, ClosedG g true F → ∀ k, r.2.1 k = true → F k = true)) ∧ ((r.2.2 = false → r.2.1 = h ∧ ∀ p ∈ g.prods.take r.1, fitsB true h p.right = true → h p.left.toNat = true)) ∧ ((r.2.2 = true → cf r.2.1 g.nons.length < cf h g.nons.length))) (fun r => g.prods.length - r.1) ((0, h, false)) wj_ (by refine ⟨?_, ?_, ?_, ?_, ?_, (by first | omega | (simp; done) | assumption), (by (simp only [wM]; (repeat first | rw [if_pos trivial] | rw [if_pos rfl] | rw [if_neg (by omega)])); exact k1_0), (by exact k1_1), (by exact fun _ => ⟨rfl, fun p hp => by simp at hp⟩), (by intro h; cases h)⟩ <;> first | (simp -implicitDefEqProofs only [wL, wM, wN, wX, seval, Option.some.injEq, g1, g3, g4, o0] <;> exact wt_) | rfl | exact ⟨_, rfl⟩) ?_
   intro r s hnx ⟨g1, g3, o0, g4, g5, k2_0, k2_1, k2_2, k2_3, k2_4⟩
   obtain ⟨i, h', b'⟩ := r
   dsimp only at *
   have hz : IntKind.i64.wrap ((i + 1 : Nat) : Int) = ((i + 1 : Nat) : Int) := wrap64 (by omega) (by omega)
   by_cases hi : i < g.prods.length
   · have hmem := List.getElem_mem hi
     obtain ⟨lf, hl1, hl2⟩ := hg.left _ hmem
     have hrt := rt_ok hg hmem
     have hrl := hg.rlen _ hmem
     have htk : g.prods.take (i + 1) = g.prods.take i ++ [g.prods[i]] := by rw [List.take_add_one, List.getElem?_eq_getElem hi]; rfl
     generalize hp : g.prods[i] = p at *
     have hgp : g.prods[i]? = some p := by rw [List.getElem?_eq_getElem hi, hp]
     have hpm : p ∈ g.prods := hp ▸ List.getElem_mem hi
     clear hp
     obtain ⟨pl, pr, pc, pco, pa, pat⟩ := p
     dsimp only at hl1 hrt hrl
     subst hl1
     have hnew : (b' = false → h' = h ∧ ∀ p ∈ g.prods.take i, fitsB true h p.right = true → h p.left.toNat = true) → (fitsB true h' pr = true → h' lf = true) → (b' = false → h' = h ∧ ∀ p ∈ g.prods.take (i + 1), fitsB true h p.right = true → h p.left.toNat = true) := fun q1 q2 hb => by
      obtain ⟨e1, e2⟩ := q1 hb
      refine ⟨e1, fun p hp hf => ?_⟩
      rw [htk] at hp
      rcases List.mem_append.1 hp with hp | hp
      · exact e2 p hp hf
      · rw [List.mem_singleton] at hp; subst hp
        subst e1
        exact q2 hf
     repeat' with_reducible first
      | refine s_ ?_
      | simp -implicitDefEqProofs only [wZZ, seval, g1, g3, g4, g5, o0, k2_1, hz]
      | (refine condQ_j (fun h h_ => ?_) (fun h h_ => ?_) <;> (try simp only [wD, reduceCtorEq] at h_) <;> (try exact wb_) <;> (try simp only [h]))
      | (apply ldQ_cell; (exact wu_))
     refine ewp_loopN ?nx3 (fun (k : Nat) s => s.f 1 = ?v3_1 ∧ s.f 3 = ?v3_3 ∧ s.f 4 = ?v3_4 ∧ s.f 5 = ?v3_5 ∧ s.H 0 = some (MObj.own 5 [g.V] false) ∧ s.f 6 = .bool (fitsB true h' (pr.take k)) ∧ s.f 7 = vi k ∧ (k ≤ pr.length) ∧ ((s.H 5 = some (MObj.own 1 (bolC g.nons.length h') false)))) (fun k => pr.length - k) (0) wj_ (by refine ⟨?_, ?_, ?_, ?_, ?_, ?_, ?_, (by first | omega | (simp; done) | assumption), (by (simp only [wM]; (repeat first | rw [if_pos trivial] | rw [if_pos rfl] | rw [if_neg (by omega)])); exact k2_1)⟩ <;> first | (simp -implicitDefEqProofs only [wL, wM, wN, wX, seval, Option.some.injEq, g1, g3, g4, g5, o0] <;> exact wt_) | rfl | exact ⟨_, rfl⟩) ?_
     intro k s hnx ⟨g1, g3, g4, g5, o0, g6, g7, k3_0, k3_1⟩
     have hzk : IntKind.i64.wrap ((k + 1 : Nat) : Int) = ((k + 1 : Nat) : Int) := wrap64 (by omega) (by omega)
     by_cases hk : k < pr.length
     · have hgk : pr[k]? = some pr[k] := List.getElem?_eq_getElem hk
       have hst := fitsB_snoc true h' (pr.take k) pr[k]
       rw [show pr.take k ++ [pr[k]] = pr.take (k + 1) by rw [List.take_add_one, hgk]; rfl] at hst
       have hsr := hrt _ (List.getElem_mem hk)
       generalize pr[k] = sy at *
       generalize fitsB true h' (pr.take k) = q at *
       rcases hsr with hs | ⟨m, rfl, hm⟩
       · rw [if_pos hs, Bool.and_true] at hst
         cases q with
         | false =>
           repeat' with_reducible first
            | refine s_ ?_
            | simp -implicitDefEqProofs only [wZZ, seval, g1, g3, g4, g5, g6, g7, o0, k3_1, hzk]
            | (refine condQ_j (fun h h_ => ?_) (fun h h_ => ?_) <;> (try simp only [wD, reduceCtorEq] at h_) <;> (try exact wb_) <;> (try simp only [h]))
            | (apply ia_slQ; (focus omega); (focus with_unfolding_all exact hgp))
            | (apply ia_slQ; (focus omega); (focus with_unfolding_all exact hgk))
            | (apply ldQ_cell; (exact wu_))
            | (apply ld_ipQ; (exact wu_))
           refine ⟨wk_, k + 1, (by omega), ?_⟩
           refine ⟨?_, ?_, ?_, ?_, ?_, ?_, ?_, ?_, ?_⟩
           iterate 7 (focus (first | (simp -implicitDefEqProofs only [wL, wM, wN, wX, seval, Option.some.injEq, g1, g3, g4, g5, g6, g7, o0, hst] <;> exact wt_) | rfl | exact ⟨_, rfl⟩))
           all_goals try omega
           all_goals trivial
         | true =>
           repeat' with_reducible first
            | refine s_ ?_
            | simp -implicitDefEqProofs only [wZZ, seval, g1, g3, g4, g5, g6, g7, o0, k3_1, hzk]
            | (refine condQ_j (fun h h_ => ?_) (fun h h_ => ?_) <;> (try simp only [wD, reduceCtorEq] at h_) <;> (try exact wb_) <;> (try simp only [h]))
            | ((first | refine gdQ_iT (fun h => ?_) (fun h => ?_) | refine gdQ_iF (fun h => ?_) (fun h => ?_)) <;> have h_ := h <;> (try simp only [wD, reduceCtorEq] at h_) <;> (try exact wb_) <;> (try simp only [h]))
            | (apply ia_slQ; (focus omega); (focus with_unfolding_all exact hgp))
            | (apply ia_slQ; (focus omega); (focus with_unfolding_all exact hgk))
            | (apply ldQ_cell; (exact wu_))
            | (apply ld_ipQ; (exact wu_))
           refine ⟨wk_, k + 1, (by omega), ?_⟩
           refine ⟨?_, ?_, ?_, ?_, ?_, ?_, ?_, ?_, ?_⟩
           iterate 7 (focus (first | (simp -implicitDefEqProofs only [wL, wM, wN, wX, seval, Option.some.injEq, g1, g3, g4, g5, g6, g7, o0, hst] <;> exact wt_) | rfl | exact ⟨_, rfl⟩))
           all_goals try omega
           all_goals trivial
       · have hzm : IntKind.i64.wrap (1000 + (m : Int) - 1000) = (m : Int) := by rw [wrap64 (by omega) (by omega)]; omega
         rw [if_neg (by omega), show (1000 + (m : Int) - 1000).toNat = m by omega] at hst
         cases hb : h' m with
         | false =>
           rw [hb, Bool.and_false] at hst
           cases q with
           | false =>
             repeat' with_reducible first
              | refine s_ ?_
              | simp -implicitDefEqProofs only [wZZ, seval, g1, g3, g4, g5, g6, g7, o0, k3_1, hzk, hzm, hb]
              | (refine condQ_j (fun h h_ => ?_) (fun h h_ => ?_) <;> (try simp only [wD, reduceCtorEq] at h_) <;> (try exact wb_) <;> (try simp only [h]))
              | (apply ia_slQ; (focus omega); (focus with_unfolding_all exact hgp))
              | (apply ia_slQ; (focus omega); (focus with_unfolding_all exact hgk))
              | (apply ldQ_cell; (exact wu_))
              | (apply ld_ipQ; (exact wu_))
             refine ⟨wk_, k + 1, (by omega), ?_⟩
             refine ⟨?_, ?_, ?_, ?_, ?_, ?_, ?_, ?_, ?_⟩
             iterate 7 (focus (first | (simp -implicitDefEqProofs only [wL, wM, wN, wX, seval, Option.some.injEq, g1, g3, g4, g5, g6, g7, o0, hst] <;> exact wt_) | rfl | exact ⟨_, rfl⟩))
             all_goals try omega
             all_goals trivial
           | true =>
             repeat' with_reducible first
              | refine s_ ?_
              | simp -implicitDefEqProofs only [wZZ, seval, g1, g3, g4, g5, g6, g7, o0, k3_1, hzk, hzm, hb]
              | (refine condQ_j (fun h h_ => ?_) (fun h h_ => ?_) <;> (try simp only [wD, reduceCtorEq] at h_) <;> (try exact wb_) <;> (try simp only [h]))
              | ((first | refine gdQ_iT (fun h => ?_) (fun h => ?_) | refine gdQ_iF (fun h => ?_) (fun h => ?_)) <;> have h_ := h <;> (try simp only [wD, reduceCtorEq] at h_) <;> (try exact wb_) <;> (try simp only [h]))
              | (apply ia_slQ; (focus omega); (focus with_unfolding_all exact hgp))
              | (apply ia_slQ; (focus omega); (focus with_unfolding_all exact hgk))
              | (refine ldB hm ?_)
              | (apply ia_mslQ; (focus omega); (exact wf_))
              | (apply ldQ_cell; (exact wu_))
              | (apply ld_ipQ; (exact wu_))
             refine ⟨wk_, k + 1, (by omega), ?_⟩
             refine ⟨?_, ?_, ?_, ?_, ?_, ?_, ?_, ?_, ?_⟩
             iterate 7 (focus (first | (simp -implicitDefEqProofs only [wL, wM, wN, wX, seval, Option.some.injEq, g1, g3, g4, g5, g6, g7, o0, hst] <;> exact wt_) | rfl | exact ⟨_, rfl⟩))
             all_goals try omega
             all_goals trivial
           all_goals trivial
         | true =>
           rw [hb, Bool.and_true] at hst
           cases q with
           | false =>
             repeat' with_reducible first
              | refine s_ ?_
              | simp -implicitDefEqProofs only [wZZ, seval, g1, g3, g4, g5, g6, g7, o0, k3_1, hzk, hzm, hb]
              | (refine condQ_j (fun h h_ => ?_) (fun h h_ => ?_) <;> (try simp only [wD, reduceCtorEq] at h_) <;> (try exact wb_) <;> (try simp only [h]))
              | (apply ia_slQ; (focus omega); (focus with_unfolding_all exact hgp))
              | (apply ia_slQ; (focus omega); (focus with_unfolding_all exact hgk))
              | (apply ldQ_cell; (exact wu_))
              | (apply ld_ipQ; (exact wu_))
             refine ⟨wk_, k + 1, (by omega), ?_⟩
             refine ⟨?_, ?_, ?_, ?_, ?_, ?_, ?_, ?_, ?_⟩
             iterate 7 (focus (first | (simp -implicitDefEqProofs only [wL, wM, wN, wX, seval, Option.some.injEq, g1, g3, g4, g5, g6, g7, o0, hst] <;> exact wt_) | rfl | exact ⟨_, rfl⟩))
             all_goals try omega
             all_goals trivial
           | true =>
             repeat' with_reducible first
              | refine s_ ?_
              | simp -implicitDefEqProofs only [wZZ, seval, g1, g3, g4, g5, g6, g7, o0, k3_1, hzk, hzm, hb]
              | (refine condQ_j (fun h h_ => ?_) (fun h h_ => ?_) <;> (try simp only [wD, reduceCtorEq] at h_) <;> (try exact wb_) <;> (try simp only [h]))
              | ((first | refine gdQ_iT (fun h => ?_) (fun h => ?_) | refine gdQ_iF (fun h => ?_) (fun h => ?_)) <;> have h_ := h <;> (try simp only [wD, reduceCtorEq] at h_) <;> (try exact wb_) <;> (try simp only [h]))
              | (apply ia_slQ; (focus omega); (focus with_unfolding_all exact hgp))
              | (apply ia_slQ; (focus omega); (focus with_unfolding_all exact hgk))
              | (refine ldB hm ?_)
              | (apply ia_mslQ; (focus omega); (exact wf_))
              | (apply ldQ_cell; (exact wu_))
              | (apply ld_ipQ; (exact wu_))
             refine ⟨wk_, k + 1, (by omega), ?_⟩
             refine ⟨?_, ?_, ?_, ?_, ?_, ?_, ?_, ?_, ?_⟩
             iterate 7 (focus (first | (simp -implicitDefEqProofs only [wL, wM, wN, wX, seval, Option.some.injEq, g1, g3, g4, g5, g6, g7, o0, hst] <;> exact wt_) | rfl | exact ⟨_, rfl⟩))
             all_goals try omega
             all_goals trivial
     · rw [List.take_of_length_le (by omega)] at g6
       cases hfit : fitsB true h' pr with
       | false =>
         rw [hfit] at g6
         have hlf := hfit
         repeat' with_reducible first
          | refine s_ ?_
          | simp -implicitDefEqProofs only [wZZ, seval, g1, g3, g4, g5, g6, g7, o0, k3_1, hz, hlf]
          | (refine condQ_j (fun h h_ => ?_) (fun h h_ => ?_) <;> (try simp only [wD, reduceCtorEq] at h_) <;> (try exact wb_) <;> (try simp only [h]))
          | (apply ia_slQ; (focus omega); (focus with_unfolding_all exact hgp))
          | (apply ldQ_cell; (exact wu_))
          | (apply ld_ipQ; (exact wu_))
         refine ⟨by ((try simp only [wN]) <;> omega), (i + 1, h', b'), by dsimp only; omega, trivial, trivial, trivial, rfl, rfl, by dsimp only; omega, rfl, k2_2, hnew k2_3 (fun e => by rw [hfit] at e; cases e), k2_4⟩
       | true =>
         rw [hfit] at g6
         cases hlf : h' lf with
         | true =>
           repeat' with_reducible first
            | refine s_ ?_
            | simp -implicitDefEqProofs only [wZZ, seval, g1, g3, g4, g5, g6, g7, o0, k3_1, hz, hlf]
            | (refine condQ_j (fun h h_ => ?_) (fun h h_ => ?_) <;> (try simp only [wD, reduceCtorEq] at h_) <;> (try exact wb_) <;> (try simp only [h]))
            | (refine ldB hl2 ?_)
            | (apply ia_slQ; (focus omega); (focus with_unfolding_all exact hgp))
            | (apply ia_mslQ; (focus omega); (exact wf_))
            | (apply ldQ_cell; (exact wu_))
            | (apply ld_ipQ; (exact wu_))
           refine ⟨by ((try simp only [wN]) <;> omega), (i + 1, h', b'), by dsimp only; omega, trivial, trivial, trivial, rfl, rfl, by dsimp only; omega, rfl, k2_2, hnew k2_3 (fun _ => hlf), k2_4⟩
         | false =>
           repeat' with_reducible first
            | refine s_ ?_
            | simp -implicitDefEqProofs only [wZZ, seval, g1, g3, g4, g5, g6, g7, o0, k3_1, hz, hlf]
            | (refine condQ_j (fun h h_ => ?_) (fun h h_ => ?_) <;> (try simp only [wD, reduceCtorEq] at h_) <;> (try exact wb_) <;> (try simp only [h]))
            | (refine ldB hl2 ?_)
            | (apply ia_slQ; (focus omega); (focus with_unfolding_all exact hgp))
            | (refine stB hl2 ?_)
            | (apply ia_mslQ; (focus omega); (exact wf_))
            | (apply ldQ_cell; (exact wu_))
            | (apply ld_ipQ; (exact wu_))
           refine ⟨by ((try simp only [wN]) <;> omega), (i + 1, updN h' lf true, true), by dsimp only; omega, trivial, trivial, trivial, rfl, rfl, by dsimp only; omega, rfl, fun F hF k hk => ?_, fun e => (by cases e), fun _ => ?_⟩
           · dsimp only at hk
             unfold updN at hk
             split at hk
             · rename_i e; subst e
               exact hF _ hpm (fitsB_mono (k2_2 F hF) hfit)
             · exact k2_2 F hF k hk
           · have := (cf_upd (h := h') (k := lf) hlf g.nons.length).2 hl2
             show cf (updN h' lf true) g.nons.length < _
             cases b' with
             | false => have e := (k2_3 rfl).1; subst e; omega
             | true => have := k2_4 rfl; omega
   · have e : i = g.prods.length := by omega
     subst e
     rw [List.take_length] at k2_3
     skip
     repeat' with_reducible first
      | refine s_ ?_
      | simp -implicitDefEqProofs only [wZZ, seval, g1, g3, g4, g5, o0, k2_1]
      | (apply ldQ_cell; (exact wu_))
     refine ⟨by ((try simp only [wN]) <;> omega), (h', b'), ?_, trivial, trivial, trivial, rfl, rfl, k2_2, fun hb => ?_⟩
     · dsimp only
       cases b' with
       | false => have e := (k2_3 rfl).1; subst e; simp
       | true => have := k2_4 rfl; simp; omega
     · obtain ⟨e1, e2⟩ := k2_3 hb
       dsimp only
       rw [e1]; exact e2
 | false =>
   have hcl := k1_2 rfl
   skip
   repeat' with_reducible first
    | refine s_ ?_
    | simp -implicitDefEqProofs only [wZZ, seval, g1, g3, g4, o0, k1_0]
   refine ewp_loopN ?nx4 (fun (i : Nat) s => s.f 3 = ?v4_3 ∧ s.H 0 = some (MObj.own 5 [g.V] false) ∧ (∃ v, s.f 9 = v ∧ Gr s.H s.next 1 ((vainL i h).map (V.int .i64)) v) ∧ s.f 10 = vi i ∧ (i ≤ g.nons.length) ∧ ((s.H 5 = some (MObj.own 1 (bolC g.nons.length h) false)))) (fun i => g.nons.length - i) (0) wj_ (by refine ⟨?_, ?_, ?_, ?_, (by first | omega | (simp; done) | assumption), (by (simp only [wM]; (repeat first | rw [if_pos trivial] | rw [if_pos rfl] | rw [if_neg (by omega)])); exact k1_0)⟩ <;> first | (simp -implicitDefEqProofs only [wL, wM, wN, wX, seval, Option.some.injEq, g1, g3, g4, o0] <;> exact wt_) | rfl | exact ⟨_, rfl⟩) ?_
   intro i s hnx ⟨g3, o0, ⟨v9, g9, G9⟩, g10, k4_0, k4_1⟩
   have hz : IntKind.i64.wrap ((i + 1 : Nat) : Int) = ((i + 1 : Nat) : Int) := wrap64 (by omega) (by omega)
   have hz2 : IntKind.i64.wrap (1000 + (i : Int)) = 1000 + (i : Int) := wrap64 (by omega) (by omega)
   have hst := vainL_succ i h
   have hvl := vainL_len i h
   have hd := Gr.dropO G9 o0
   have hd5 := Gr.dropO G9 k4_1
   by_cases hi : i < g.nons.length
   · cases hb : h i with
     | true =>
       rw [hb, if_pos rfl, List.append_nil] at hst
       repeat' with_reducible first
        | refine s_ ?_
        | simp -implicitDefEqProofs only [wZZ, seval, g3, g9, g10, o0, Gr.dropO G9 o0, k4_1, hz, hz2, hb, G9.len]
        | (refine condQ_j (fun h h_ => ?_) (fun h h_ => ?_) <;> (try simp only [wD, reduceCtorEq] at h_) <;> (try exact wb_) <;> (try simp only [h]))
        | (refine ldB hi ?_)
        | (apply ia_mslQ; (focus omega); (exact wf_))
       refine ⟨wk_, i + 1, (by omega), ?_⟩
       refine ⟨?_, ?_, ?_, ?_, ?_, ?_⟩
       iterate 4 (focus (first | (simp -implicitDefEqProofs only [wL, wM, wN, wX, seval, Option.some.injEq, g3, g9, g10, o0, Gr.dropO G9 o0, hst] <;> first | rfl | exact ⟨_, rfl⟩ | exact ⟨_, rfl, by first | assumption | exact Gr.nil | exact Gr.tok rfl (by omega) | exact Gr.tok (by simp -implicitDefEqProofs only [wM, seval] <;> rfl) (by omega) | exact Gr.clip | exact G9.to (by first | rfl | (simp [*]; done)) (by omega) rfl⟩) | rfl | exact ⟨_, rfl⟩))
       all_goals try omega
       all_goals first | trivial | exact k4_1
     | false =>
       rw [hb, if_neg (by simp)] at hst
       repeat' with_reducible first
        | refine s_ ?_
        | simp -implicitDefEqProofs only [wZZ, seval, g3, g9, g10, o0, Gr.dropO G9 o0, k4_1, hz, hz2, hb, hvl, G9.len]
        | (refine condQ_j (fun h h_ => ?_) (fun h h_ => ?_) <;> (try simp only [wD, reduceCtorEq] at h_) <;> (try exact wb_) <;> (try simp only [h]))
        | (refine ldB hi ?_)
        | (apply ia_mslQ; (focus omega); (exact wf_))
        | (apply appQ_G (hg := G9); (focus (first | rfl | (simp -implicitDefEqProofs only [wM]; done))); (focus (first | exact SrcN.sl | exact SrcN.asl | exact SrcN.gr G9 | exact SrcN.str)); (exact wf_); (focus (unfold maxLen; first | omega | (simp only [wZ] <;> omega))))
       refine ⟨wk_, i + 1, (by omega), ?_⟩
       refine ⟨?_, ?_, ?_, ?_, ?_, ?_⟩
       iterate 4 (focus (first | (simp -implicitDefEqProofs only [wL, wM, wN, wX, seval, Option.some.injEq, g3, g9, g10, o0, Gr.dropO G9 o0, hst] <;> first | rfl | exact ⟨_, rfl⟩ | exact ⟨_, rfl, by first | assumption | exact Gr.nil | exact Gr.tok rfl (by omega) | exact Gr.tok (by simp -implicitDefEqProofs only [wM, seval] <;> rfl) (by omega) | exact Gr.clip | exact G9.to (by first | rfl | (simp [*]; done)) (by omega) rfl⟩) | rfl | exact ⟨_, rfl⟩))
       all_goals try omega
       all_goals first | trivial | (rw [hd5]; exact k4_1) | exact k4_1
   · have e : i = g.nons.length := by omega
     subst e
     repeat' with_reducible first
      | refine s_ ?_
      | simp -implicitDefEqProofs only [wZZ, seval, g3, g9, g10, o0, Gr.dropO G9 o0, k4_1, G9.len]
     refine ⟨_, ⟨h, rfl, hcl, k1_1⟩, Or.inr rfl, v9, ?_, Gr.er G9 rfl⟩
     show resV _ [.inl 2] = _
     simp [resV, resL, one, wL, g9]
end Go.Proofs
