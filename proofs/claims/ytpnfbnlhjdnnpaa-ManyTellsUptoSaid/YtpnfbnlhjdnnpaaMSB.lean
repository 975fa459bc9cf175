/- Part of a proof that a law of the given program answers true. -/
import Derived.Test.YtpnfbnlhjdnnpaaMSA
set_option linter.unusedSimpArgs false
set_option linter.unusedVariables false
set_option maxHeartbeats 20000000
namespace Go.Proofs
open Go.E
theorem rowA {s0 : St} {w right : List Int} {n nn j i r ia ib hi : Nat} {ids : Nat → Nat} {T : Tbl} {v : Nat → Nat} {sy : Int} {Q : Exit → St → Prop} (f0 : s0.f 0 = .msl hi 1 0 nn) (f1 : s0.f 1 = .sl 1 false (w.map (V.int .i64))) (f2 : s0.f 2 = vi n) (f3 : s0.f 3 = .sl 1 false (right.map (V.int .i64))) (f4 : s0.f 4 = vi i) (f11 : s0.f 11 = .msl ia 1 0 n) (f12 : s0.f 12 = vi r) (f13 : s0.f 13 = .msl ib 1 0 n)
 (hia : s0.H ia = some (.own 1 (vecN n (cutJ v j)) false)) (hib : s0.H ib = some (.own 1 (vecN n (fun _ => 0)) false)) (hh : s0.H hi = some (.own 1 (rowsC nn (n * n) ids) false)) (hk0 : ∀ k, k < nn → s0.H (ids k) = some (.own 1 (vecN (n * n) (tabM n (T k))) false)) (n1 : ia ≠ ib) (n2 : hi ≠ ib) (n3 : ∀ k, k < nn → ids k ≠ ib)
 (hjw : j = w.length) (hj : j ≤ 24) (hnj : n = j + 1) (hij : i ≤ j) (hr : right[r]? = some sy) (hsy : sy < 1000 ∨ ∃ k : Nat, sy = 1000 + (k : Int) ∧ k < nn) (hnn : nn ≤ 1000000) (hv : ∀ b, v b ≤ 2) (hlow : ∀ b, b < i → v b = 0) (hT : ∀ k a b, T k a b ≤ 2)
 (hQ : ∀ s', s'.H ib = some (.own 1 (vecN n (cutJ (stepN T w sy v) j)) false) → (∀ id, id ≠ ib → s'.H id = s0.H id) → (∀ t, t < 29 → t ≠ 14 → t ≠ 15 → s'.f t = s0.f t) → s0.next ≤ s'.next → Q .normal s') : ewp Try.prog e31n43 Q s0 := by
 have hn : n ≤ 25 := by omega
 repeat' with_reducible first
  | refine s_ ?_
  | simp -implicitDefEqProofs only [wZZ, seval, f0, f1, f2, f3, f4, f11, f12, f13]
 refine ewp_loopN ?nx2 (fun (a : Nat) s => s.f 0 = ?v2_0 ∧ s.f 1 = ?v2_1 ∧ s.f 2 = ?v2_2 ∧ s.f 3 = ?v2_3 ∧ s.f 4 = ?v2_4 ∧ s.f 11 = ?v2_11 ∧ s.f 12 = ?v2_12 ∧ s.f 13 = ?v2_13 ∧ s.f 14 = vi a ∧ (i ≤ a) ∧ (a ≤ n) ∧ ((s.H ib = some (MObj.own 1 (vecN n (partN T w sy v a j)) false))) ∧ ((∀ id, id ≠ ib → s.H id = s0.H id)) ∧ ((∀ t, t < 29 → t ≠ 14 → t ≠ 15 → s.f t = s0.f t))) (fun a => n - a) (i) wj_ (by refine ⟨?_, ?_, ?_, ?_, ?_, ?_, ?_, ?_, ?_, (by first | omega | (simp; done) | assumption), (by first | omega | (simp; done) | assumption), (by rw [partN_low hlow]; simp only [wM]; exact hib), (by intro id hid; simp only [wM]), (by intro t h1 h2 h3; ((try simp only [wL]); (repeat first | rw [if_pos trivial] | rw [if_pos rfl] | rw [if_neg (by omega)])))⟩ <;> first | (simp -implicitDefEqProofs only [wL, wM, wN, wX, seval, Option.some.injEq] <;> exact wt_) | rfl | exact ⟨_, rfl⟩) ?_
 intro a s hnx ⟨g0, g1, g2, g3, g4, g11, g12, g13, g14, k2_0, k2_1, k2_2, k2_3, k2_4⟩
 have ob := k2_2
 have oa : s.H ia = some (.own 1 (vecN n (cutJ v j)) false) := (k2_3 ia n1).trans hia
 have oh : s.H hi = some (.own 1 (rowsC nn (n * n) ids) false) := (k2_3 hi n2).trans hh
 by_cases ha : a < n
 · have hca : cutJ v j a = v a := by unfold cutJ; rw [if_pos (by omega)]
   have hzb : IntKind.i64.wrap ((a + 1 : Nat) : Int) = ((a + 1 : Nat) : Int) := wrap64 (by omega) (by omega)
   by_cases hz : v a = 0
   · have hz2 : (v a : Int) = 0 := by omega
     repeat' with_reducible first
      | refine s_ ?_
      | simp -implicitDefEqProofs only [wZZ, seval, g0, g1, g2, g3, g4, g11, g12, g13, g14, f0, f1, f2, f3, f4, f11, f12, f13, ob, oa, hca, hz2, hzb]
      | (refine condQ_j (fun h h_ => ?_) (fun h h_ => ?_) <;> (try simp only [wD, reduceCtorEq] at h_) <;> (try exact wb_) <;> (try simp only [h]))
      | (apply ia_mslQ; (focus omega); (focus omega))
      | (refine ldV (by omega) ?_)
     refine ⟨by ((try simp only [wN]) <;> omega), a + 1, by omega, trivial, trivial, trivial, trivial, trivial, trivial, trivial, trivial, rfl, by omega, by omega, ?_, fun id hid => ?_, fun t h1 h2 h3 => ?_⟩
     · rw [partN_skip hz]; first | done | rfl | exact ob | (simp only [wM]; exact ob)
     · ((try simp only [wM]); (repeat first | rw [if_pos trivial] | rw [if_pos rfl] | rw [if_neg (by omega)])); exact k2_3 id hid
     · ((try simp only [wL]); (repeat first | rw [if_pos trivial] | rw [if_pos rfl] | rw [if_neg (by omega)])); exact k2_4 t h1 h2 h3
   · have hz2 : ¬ (v a : Int) = 0 := by omega
     by_cases hs : sy < 1000
     · by_cases hc : a < j ∧ w[a]? = some sy
       · have hwa : w[a]? = some sy := hc.2
         have hst := partN_tokT (T := T) (w := w) (s := sy) (v := v) (a := a) (j := j) hs hc.2 hc.1
         have hp0 : partN T w sy v a j (a + 1) = 0 := by unfold partN; rw [if_pos (by omega), if_pos hs, if_neg (by omega)]
         have hva := hv a
         have hz5 : IntKind.i64.wrap (((partN T w sy v a j (a + 1) : Nat) : Int) + ((v a : Nat) : Int)) = ((v a : Nat) : Int) := by rw [hp0, wrap64 (by omega) (by omega)]; omega
         have hmn : (if ((v a : Nat) : Int) < 2 then ((v a : Nat) : Int) else 2) = ((v a : Nat) : Int) := by split <;> omega
         repeat' with_reducible first
          | refine s_ ?_
          | simp -implicitDefEqProofs only [wZZ, seval, g0, g1, g2, g3, g4, g11, g12, g13, g14, f0, f1, f2, f3, f4, f11, f12, f13, ob, oa, hca, hzb, hz5, hmn, st_min2, min2_ii]
          | (refine condQ_j (fun h h_ => ?_) (fun h h_ => ?_) <;> (try simp only [wD, reduceCtorEq] at h_) <;> (try exact wb_) <;> (try simp only [h]))
          | ((first | refine gdQ_iT (fun h => ?_) (fun h => ?_) | refine gdQ_iF (fun h => ?_) (fun h => ?_)) <;> have h_ := h <;> (try simp only [wD, reduceCtorEq] at h_) <;> (try exact wb_) <;> (try simp only [h]))
          | (apply ia_slQ; (focus omega); (focus with_unfolding_all exact hr))
          | (apply ia_slQ; (focus omega); (focus with_unfolding_all exact hwa))
          | (apply ia_mslQ; (focus omega); (focus omega))
          | (refine ldV (by omega) ?_)
          | (refine stV (by omega) ?_)
         refine ⟨by ((try simp only [wN]) <;> omega), a + 1, by omega, trivial, trivial, trivial, trivial, trivial, trivial, trivial, trivial, rfl, by omega, by omega, ?_, fun id hid => ?_, fun t h1 h2 h3 => ?_⟩
         · rw [hst]
         · ((try simp only [wM]); (repeat first | rw [if_pos trivial] | rw [if_pos rfl] | rw [if_neg (by omega)])); exact k2_3 id hid
         · ((try simp only [wL]); (repeat first | rw [if_pos trivial] | rw [if_pos rfl] | rw [if_neg (by omega)])); exact k2_4 t h1 h2 h3
       · have hst := partN_tokF (T := T) (w := w) (s := sy) (v := v) (a := a) (j := j) hs (fun h1 h2 => hc ⟨h1, h2⟩)
         by_cases haj : a < j
         · obtain ⟨wa, hwa⟩ : ∃ wa, w[a]? = some wa := ⟨w[a], List.getElem?_eq_getElem (by omega)⟩
           have hne2 : ¬ wa = sy := fun e => hc ⟨haj, by rw [hwa, e]⟩
           repeat' with_reducible first
            | refine s_ ?_
            | simp -implicitDefEqProofs only [wZZ, seval, g0, g1, g2, g3, g4, g11, g12, g13, g14, f0, f1, f2, f3, f4, f11, f12, f13, ob, oa, hca, hzb]
            | (refine condQ_j (fun h h_ => ?_) (fun h h_ => ?_) <;> (try simp only [wD, reduceCtorEq] at h_) <;> (try exact wb_) <;> (try simp only [h]))
            | ((first | refine gdQ_iT (fun h => ?_) (fun h => ?_) | refine gdQ_iF (fun h => ?_) (fun h => ?_)) <;> have h_ := h <;> (try simp only [wD, reduceCtorEq] at h_) <;> (try exact wb_) <;> (try simp only [h]))
            | (apply ia_slQ; (focus omega); (focus with_unfolding_all exact hr))
            | (apply ia_slQ; (focus omega); (focus with_unfolding_all exact hwa))
            | (apply ia_mslQ; (focus omega); (focus omega))
            | (refine ldV (by omega) ?_)
           refine ⟨by ((try simp only [wN]) <;> omega), a + 1, by omega, trivial, trivial, trivial, trivial, trivial, trivial, trivial, trivial, rfl, by omega, by omega, ?_, fun id hid => ?_, fun t h1 h2 h3 => ?_⟩
           · rw [hst]
           · ((try simp only [wM]); (repeat first | rw [if_pos trivial] | rw [if_pos rfl] | rw [if_neg (by omega)])); exact k2_3 id hid
           · ((try simp only [wL]); (repeat first | rw [if_pos trivial] | rw [if_pos rfl] | rw [if_neg (by omega)])); exact k2_4 t h1 h2 h3
         · repeat' with_reducible first
            | refine s_ ?_
            | simp -implicitDefEqProofs only [wZZ, seval, g0, g1, g2, g3, g4, g11, g12, g13, g14, f0, f1, f2, f3, f4, f11, f12, f13, ob, oa, hca, hzb]
            | (refine condQ_j (fun h h_ => ?_) (fun h h_ => ?_) <;> (try simp only [wD, reduceCtorEq] at h_) <;> (try exact wb_) <;> (try simp only [h]))
            | ((first | refine gdQ_iT (fun h => ?_) (fun h => ?_) | refine gdQ_iF (fun h => ?_) (fun h => ?_)) <;> have h_ := h <;> (try simp only [wD, reduceCtorEq] at h_) <;> (try exact wb_) <;> (try simp only [h]))
            | (apply ia_slQ; (focus omega); (focus with_unfolding_all exact hr))
            | (apply ia_mslQ; (focus omega); (focus omega))
            | (refine ldV (by omega) ?_)
           refine ⟨by ((try simp only [wN]) <;> omega), a + 1, by omega, trivial, trivial, trivial, trivial, trivial, trivial, trivial, trivial, rfl, by omega, by omega, ?_, fun id hid => ?_, fun t h1 h2 h3 => ?_⟩
           · rw [hst]
           · ((try simp only [wM]); (repeat first | rw [if_pos trivial] | rw [if_pos rfl] | rw [if_neg (by omega)])); exact k2_3 id hid
           · ((try simp only [wL]); (repeat first | rw [if_pos trivial] | rw [if_pos rfl] | rw [if_neg (by omega)])); exact k2_4 t h1 h2 h3
     · obtain ⟨k, hk1, hk2⟩ : ∃ k : Nat, sy = 1000 + (k : Int) ∧ k < nn := by
        rcases hsy with h | h
        · exact absurd h hs
        · exact h
       have hst := partN_non (T := T) (w := w) (s := sy) (v := v) (a := a) (j := j) hs
       rw [if_pos (by omega)] at hst
       have hkn : (sy - 1000).toNat = k := by omega
       have W : ∀ (s1 : St) (Q : Exit → St → Prop), s1.f 0 = .msl hi 1 0 nn → s1.f 2 = vi n → s1.f 3 = .sl 1 false (right.map (V.int .i64)) → s1.f 11 = .msl ia 1 0 n → s1.f 12 = vi r → s1.f 13 = .msl ib 1 0 n → s1.f 14 = vi a → (∀ id, s1.H id = s.H id) →
        (∀ s', s'.H ib = some (.own 1 (vecN n (partN T w sy v (a + 1) j)) false) → (∀ id, id ≠ ib → s'.H id = s1.H id) → (∀ t, t < 75 → t ≠ 15 → s'.f t = s1.f t) → s1.next ≤ s'.next → Q .normal s') → ewp Try.prog e31n34 Q s1 := by
        intro s1 Q q0 q2 q3 q11 q12 q13 q14 qH qQ
        refine rowB (A := cutJ v j) (B := partN T w sy v a j) q0 q2 q3 q11 q12 q13 q14 (by rw [qH, oa]) (by rw [qH, ob]) (by rw [qH, oh]) (by rw [qH, k2_3 _ (n3 k hk2)]; exact hk0 k hk2) n1 n2 (n3 k hk2) ha hn hr hk1 hk2 hnn (fun b => ?_) (partN_le hv) hT (fun s' r1 r2 r3 r4 => qQ s' ?_ r2 r3 r4)
        · unfold cutJ; split
          · exact hv b
          · omega
        · rw [r1, ← hkn, hnj, hst]
       show ewp _ (.seq e31n11 (.seq (.block 3 (.seq e31n14 (.seq e31n22 e31n34))) (.reg e31r38))) _ _
       generalize e31n34 = E34 at W
       repeat' with_reducible first
        | refine s_ ?_
        | simp -implicitDefEqProofs only [wZZ, seval, g0, g1, g2, g3, g4, g11, g12, g13, g14, f0, f1, f2, f3, f4, f11, f12, f13, ob, oa, hca]
        | (refine condQ_j (fun h h_ => ?_) (fun h h_ => ?_) <;> (try simp only [wD, reduceCtorEq] at h_) <;> (try exact wb_) <;> (try simp only [h]))
        | (apply ia_slQ; (focus omega); (focus with_unfolding_all exact hr))
        | (apply ia_mslQ; (focus omega); (focus omega))
        | (refine ldV (by omega) ?_)
       refine W _ _ (by (simp -implicitDefEqProofs only [wL, seval, f0, g0])) (by (simp -implicitDefEqProofs only [wL, seval, f2, g2])) (by (simp -implicitDefEqProofs only [wL, seval, f3, g3])) (by (simp -implicitDefEqProofs only [wL, seval, f11, g11])) (by (simp -implicitDefEqProofs only [wL, seval, f12, g12])) (by (simp -implicitDefEqProofs only [wL, seval, f13, g13])) (by (simp -implicitDefEqProofs only [wL, seval, g14])) (fun id => by simp only [wM]) (fun s2 r1 r2 r3 r4 => ?_)
       have r3' : ∀ t, t < 29 → t ≠ 15 → s2.f t = s.f t := fun t h1 h2 => by
        rw [r3 t (by omega) h2]
        ((try simp only [wL]); (repeat first | rw [if_pos trivial] | rw [if_pos rfl] | rw [if_neg (by omega)]))
       (try simp only [wN] at r4); (try simp only [wM] at r2)
       have h14 := (r3' 14 (by omega) (by omega)).trans g14
       repeat' with_reducible first
        | refine s_ ?_
        | simp -implicitDefEqProofs only [wZZ, seval, g0, g1, g2, g3, g4, g11, g12, g13, g14, h14, hzb]
       refine ⟨by ((try simp only [wN]) <;> omega), a + 1, by omega, (r3' 0 (by omega) (by omega)).trans (g0.trans f0), (r3' 1 (by omega) (by omega)).trans (g1.trans f1), (r3' 2 (by omega) (by omega)).trans (g2.trans f2), (r3' 3 (by omega) (by omega)).trans (g3.trans f3), (r3' 4 (by omega) (by omega)).trans (g4.trans f4), (r3' 11 (by omega) (by omega)).trans (g11.trans f11), (r3' 12 (by omega) (by omega)).trans (g12.trans f12), (r3' 13 (by omega) (by omega)).trans (g13.trans f13), rfl, by omega, by omega, ?_, fun id hid => ?_, fun t h1 h2 h3 => ?_⟩
       · ((try simp only [wM]); (repeat first | rw [if_pos trivial] | rw [if_pos rfl] | rw [if_neg (by omega)])); exact r1
       · ((try simp only [wM]); (repeat first | rw [if_pos trivial] | rw [if_pos rfl] | rw [if_neg (by omega)])); exact (r2 id hid).trans (k2_3 id hid)
       · ((try simp only [wL]); (repeat first | rw [if_pos trivial] | rw [if_pos rfl] | rw [if_neg (by omega)]))
         exact (r3' t h1 h3).trans (k2_4 t h1 h2 h3)
 · have e : a = j + 1 := by omega
   subst e
   rw [partN_end] at ob
   repeat' with_reducible first
    | refine s_ ?_
    | simp -implicitDefEqProofs only [wZZ, seval, g0, g1, g2, g3, g4, g11, g12, g13, g14, f0, f1, f2, f3, f4, f11, f12, f13]
    | (refine condQ_j (fun h h_ => ?_) (fun h h_ => ?_) <;> (try simp only [wD, reduceCtorEq] at h_) <;> (try exact wb_) <;> (try simp only [h]))
   refine hQ _ (by ((try simp only [wM]); (repeat first | rw [if_pos trivial] | rw [if_pos rfl] | rw [if_neg (by omega)])); exact ob) (fun id hid => by ((try simp only [wM]); (repeat first | rw [if_pos trivial] | rw [if_pos rfl] | rw [if_neg (by omega)])); exact k2_3 id hid) (fun t h1 h2 h3 => ?_) (by ((try simp only [wN]) <;> omega))
   ((try simp only [wL]); (repeat first | rw [if_pos trivial] | rw [if_pos rfl] | rw [if_neg (by omega)])); exact k2_4 t h1 h2 h3
end Go.Proofs
