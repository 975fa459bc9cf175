/- Part of a proof that a law of the given program answers true. -/
import Derived.Test.YtpnfbnlhjdnnpaaWHA
set_option linter.unusedSimpArgs false
set_option linter.unusedVariables false
set_option maxHeartbeats 4000000
namespace Go.Proofs
open Go.E
def partN (T : Tbl) (w : List Int) (s : Int) (v : Nat → Nat) (a j : Nat) : Nat → Nat := fun b =>
 if b ≤ j then (if s < 1000 then (if 0 < b ∧ b ≤ a ∧ w[b - 1]? = some s then v (b - 1) else 0) else min 2 (sumN (fun a' => v a' * T (s - 1000).toNat a' b) (min a (b + 1)))) else 0
def cutJ (v : Nat → Nat) (j : Nat) : Nat → Nat := fun b => if b ≤ j then v b else 0
theorem partN_le {T : Tbl} {w : List Int} {s : Int} {v : Nat → Nat} {a j : Nat} (h : ∀ b, v b ≤ 2) (b : Nat) : partN T w s v a j b ≤ 2 := by
 unfold partN; split
 · split
   · split
     · exact h _
     · omega
   · omega
 · omega
theorem partN_low {T : Tbl} {w : List Int} {s : Int} {v : Nat → Nat} {i j : Nat} (h : ∀ b, b < i → v b = 0) : partN T w s v i j = fun _ => 0 := by
 funext b
 unfold partN
 split
 · split
   · split
     · exact h _ (by omega)
     · rfl
   · rw [sumN_zero fun a ha => by rw [h a (by omega), Nat.zero_mul]]; rfl
 · rfl
theorem partN_end {T : Tbl} {w : List Int} {s : Int} {v : Nat → Nat} {j : Nat} : partN T w s v (j + 1) j = cutJ (stepN T w s v) j := by
 funext b
 unfold partN cutJ stepN
 split
 · split
   · have e : (0 < b ∧ b ≤ j + 1 ∧ w[b - 1]? = some s) ↔ (0 < b ∧ w[b - 1]? = some s) := ⟨fun h => ⟨h.1, h.2.2⟩, fun h => ⟨h.1, by omega, h.2⟩⟩
     simp only [e]
   · rw [show min (j + 1) (b + 1) = b + 1 by omega]
 · rfl
theorem partN_skip {T : Tbl} {w : List Int} {s : Int} {v : Nat → Nat} {a j : Nat} (h : v a = 0) : partN T w s v (a + 1) j = partN T w s v a j := by
 funext b
 unfold partN
 split
 · split
   · by_cases e : b = a + 1
     · subst e
       have hn : ¬ (0 < a + 1 ∧ a + 1 ≤ a ∧ w[a + 1 - 1]? = some s) := fun q => by omega
       rw [if_neg hn]
       split
       · rw [Nat.add_sub_cancel]; exact h
       · rfl
     · have e2 : (0 < b ∧ b ≤ a + 1 ∧ w[b - 1]? = some s) ↔ (0 < b ∧ b ≤ a ∧ w[b - 1]? = some s) := ⟨fun h => ⟨h.1, by omega, h.2.2⟩, fun h => ⟨h.1, by omega, h.2.2⟩⟩
       simp only [e2]
   · by_cases hb : a < b + 1
     · rw [show min (a + 1) (b + 1) = a + 1 by omega, show min a (b + 1) = a by omega, sumN, h, Nat.zero_mul, Nat.add_zero]
     · rw [show min (a + 1) (b + 1) = b + 1 by omega, show min a (b + 1) = b + 1 by omega]
 · rfl
theorem partN_tokT {T : Tbl} {w : List Int} {s : Int} {v : Nat → Nat} {a j : Nat} (hs : s < 1000) (h : w[a]? = some s) (haj : a < j) : partN T w s v (a + 1) j = upd (partN T w s v a j) (a + 1) (v a) := by
 funext b
 unfold partN upd
 by_cases e : b = a + 1
 · subst e
   rw [if_pos rfl, if_pos (by omega), if_pos hs, if_pos ⟨by omega, by omega, by simpa using h⟩, Nat.add_sub_cancel]
 · rw [if_neg e]
   have e2 : (0 < b ∧ b ≤ a + 1 ∧ w[b - 1]? = some s) ↔ (0 < b ∧ b ≤ a ∧ w[b - 1]? = some s) := ⟨fun h => ⟨h.1, by omega, h.2.2⟩, fun h => ⟨h.1, by omega, h.2.2⟩⟩
   simp only [e2, if_pos hs]
theorem partN_tokF {T : Tbl} {w : List Int} {s : Int} {v : Nat → Nat} {a j : Nat} (hs : s < 1000) (h : a < j → w[a]? ≠ some s) : partN T w s v (a + 1) j = partN T w s v a j := by
 funext b
 unfold partN
 split
 · (try rw [if_pos hs]); (try rw [if_pos hs])
   by_cases e : b = a + 1
   · subst e
     have hn : ¬ (0 < a + 1 ∧ a + 1 ≤ a ∧ w[a + 1 - 1]? = some s) := fun q => by omega
     rw [if_neg (fun q => h (by omega) (by simpa using q.2.2)), if_neg hn]
   · have e2 : (0 < b ∧ b ≤ a + 1 ∧ w[b - 1]? = some s) ↔ (0 < b ∧ b ≤ a ∧ w[b - 1]? = some s) := ⟨fun h => ⟨h.1, by omega, h.2.2⟩, fun h => ⟨h.1, by omega, h.2.2⟩⟩
     simp only [e2]
 · rfl
theorem partN_non {T : Tbl} {w : List Int} {s : Int} {v : Nat → Nat} {a j : Nat} (hs : ¬ s < 1000) : addN T (s - 1000).toNat (cutJ v j) (partN T w s v a j) a (j + 1) = if a ≤ j then partN T w s v (a + 1) j else partN T w s v a j := by
 funext b
 unfold addN
 by_cases haj : a ≤ j
 · rw [if_pos haj]
   by_cases hb : a ≤ b ∧ b < j + 1
   · rw [if_pos hb]
     unfold partN cutJ
     rw [if_pos (by omega), if_neg hs, if_pos haj, if_pos (by omega), if_neg hs, show min a (b + 1) = a by omega, show min (a + 1) (b + 1) = a + 1 by omega, sumN]
     omega
   · rw [if_neg hb]
     unfold partN
     split
     · (try rw [if_neg hs]); (try rw [if_neg hs])
       rw [show min a (b + 1) = b + 1 by omega, show min (a + 1) (b + 1) = b + 1 by omega]
     · rfl
 · rw [if_neg haj, if_neg (by omega)]
theorem ways2 {s0 : St} {g : Grammar} {w : List Int} {nn i j ia ib : Nat} {T : Tbl} {v : Nat → Nat} {sy : Int} {Q : Exit → St → Prop} (f0 : s0.f 0 = .iptr 7 (cntV g w nn T) 0) (f2 : s0.f 2 = vi i) (f3 : s0.f 3 = vi j) (f9 : s0.f 9 = .ptr ia 0 0) (f11 : s0.f 11 = vi sy) (f12 : s0.f 12 = .ptr ib 0 0)
 (hia : s0.H ia = some (.own 25 [.agg (vecC (cutJ v j))] false)) (hib : s0.H ib = some (.own 25 [.agg (vecC (fun _ => 0))] false)) (hne : ia ≠ ib) (hij : i ≤ j) (hj : j ≤ 24) (hjw : j ≤ w.length) (hw : w.length ≤ 24) (hsy : sy < 1000 ∨ ∃ k : Nat, sy = 1000 + (k : Int) ∧ k < nn) (hnn : nn ≤ 1000000) (hv : ∀ b, v b ≤ 2) (hlow : ∀ b, b < i → v b = 0) (hT : ∀ k a b, T k a b ≤ 2)
 (hQ : ∀ s', s'.H ib = some (.own 25 [.agg (vecC (cutJ (stepN T w sy v) j))] false) → (∀ id, id ≠ ib → s'.H id = s0.H id) → (∀ t, t < 23 → t ≠ 13 → t ≠ 14 → s'.f t = s0.f t) → s0.next ≤ s'.next → Q .normal s') : ewp Try.prog e47n43 Q s0 := by
 repeat' with_reducible first
  | refine s_ ?_
  | simp -implicitDefEqProofs only [wZZ, seval, f0, f2, f3, f9, f11, f12]
 refine ewp_loopN ?nx2 (fun (a : Nat) s => s.f 0 = ?v2_0 ∧ s.f 2 = ?v2_2 ∧ s.f 3 = ?v2_3 ∧ s.f 9 = ?v2_9 ∧ s.f 11 = ?v2_11 ∧ s.f 12 = ?v2_12 ∧ s.f 17 = ?v2_17 ∧ s.f 18 = ?v2_18 ∧ s.f 19 = ?v2_19 ∧ s.f 13 = vi a ∧ (i ≤ a) ∧ (a ≤ j + 1) ∧ ((s.H ib = some (MObj.own 25 [.agg (vecC (partN T w sy v a j))] false))) ∧ ((∀ id, id ≠ ib → s.H id = s0.H id)) ∧ ((∀ t, t < 23 → t ≠ 13 → t ≠ 14 → s.f t = s0.f t))) (fun a => j + 1 - a) (i) wj_ (by refine ⟨?_, ?_, ?_, ?_, ?_, ?_, ?_, ?_, ?_, ?_, (by first | omega | (simp; done) | assumption), (by first | omega | (simp; done) | assumption), (by rw [partN_low hlow]; simp only [wM]; exact hib), (by intro id hid; simp only [wM]), (by intro t h1 h2 h3; simp only [wL]; repeat (first | rw [if_pos trivial] | rw [if_pos rfl] | rw [if_neg (by omega)]))⟩ <;> first | (simp -implicitDefEqProofs only [wL, wM, wN, wX, seval, Option.some.injEq] <;> exact wt_) | rfl | exact ⟨_, rfl⟩) ?_
 intro a s hnx ⟨g0, g2, g3, g9, g11, g12, g17, g18, g19, g13, k2_0, k2_1, k2_2, k2_3, k2_4⟩
 have ob := k2_2
 have oa : s.H ia = some (.own 25 [.agg (vecC (cutJ v j))] false) := by rw [k2_3 ia hne]; exact hia
 by_cases ha : a ≤ j
 · have hca : cutJ v j a = v a := by unfold cutJ; rw [if_pos ha]
   by_cases hz : v a = 0
   · have hz2 : (v a : Int) = 0 := by omega
     have hzb : IntKind.i64.wrap ((a + 1 : Nat) : Int) = ((a + 1 : Nat) : Int) := wrap64 (by omega) (by omega)
     repeat' with_reducible first
      | refine s_ ?_
      | simp -implicitDefEqProofs only [wZZ, seval, g0, g2, g3, g9, g11, g12, g17, g18, g19, g13, f0, f2, f3, f9, f11, f12, ob, oa, hca, hz2, hzb]
      | (refine condQ_j (fun h h_ => ?_) (fun h h_ => ?_) <;> (try simp only [wD, reduceCtorEq] at h_) <;> (try exact wb_) <;> (try simp only [h]))
      | (apply iaA_ptrQ (by omega))
      | (refine ldQ_cell (vecC_get (by omega)) ?_)
     refine ⟨by (try simp only [wN]) <;> omega, a + 1, by omega, trivial, trivial, trivial, trivial, trivial, trivial, trivial, trivial, trivial, rfl, by omega, by omega, ?_, fun id hid => ?_, fun t h1 h2 h3 => ?_⟩
     · rw [partN_skip hz]; first | done | rfl | exact ob | (simp only [wM]; exact ob)
     · first | exact k2_3 id hid | (simp only [wM]; exact k2_3 id hid)
     · (try simp only [wL])
       repeat (first | rw [if_pos trivial] | rw [if_pos rfl] | rw [if_neg (by omega)])
       exact k2_4 t h1 h2 h3
   · have hz2 : ¬ (v a : Int) = 0 := by omega
     have hzb : IntKind.i64.wrap ((a + 1 : Nat) : Int) = ((a + 1 : Nat) : Int) := wrap64 (by omega) (by omega)
     by_cases hs : sy < 1000
     · by_cases hc : a < j ∧ w[a]? = some sy
       · have hwa : w[(a : Int).toNat]? = some sy := by rw [Int.toNat_natCast]; exact hc.2
         have hst := partN_tokT (T := T) (w := w) (s := sy) (v := v) (a := a) (j := j) hs hc.2 hc.1
         repeat' with_reducible first
          | refine s_ ?_
          | simp -implicitDefEqProofs only [wZZ, seval, g0, g2, g3, g9, g11, g12, g17, g18, g19, g13, f0, f2, f3, f9, f11, f12, ob, oa, hca, hzb, vecC_set]
          | (refine condQ_j (fun h h_ => ?_) (fun h h_ => ?_) <;> (try simp only [wD, reduceCtorEq] at h_) <;> (try exact wb_) <;> (try simp only [h]))
          | ((first | refine gdQ_iT (fun h => ?_) (fun h => ?_) | refine gdQ_iF (fun h => ?_) (fun h => ?_)) <;> have h_ := h <;> (try simp only [wD, reduceCtorEq] at h_) <;> (try exact wb_) <;> (try simp only [h]))
          | (apply iaA_ptrQ (by omega))
          | (refine ldQ_cell (vecC_get (by omega)) ?_)
          | (refine stQ_cell rfl rfl rfl (vecC_lt (by omega)) ?_)
          | (apply ia_slQ; (focus omega); (exact wd_))
          | (apply ld_ipQ; (exact wu_))
         refine ⟨by (try simp only [wN]) <;> omega, a + 1, by omega, trivial, trivial, trivial, trivial, trivial, trivial, trivial, trivial, trivial, rfl, by omega, by omega, ?_, fun id hid => ?_, fun t h1 h2 h3 => ?_⟩
         · rw [hst]
         · first | exact k2_3 id hid | (rw [if_neg hid]; exact k2_3 id hid) | (simp only [wM]; exact k2_3 id hid)
         · (try simp only [wL])
           repeat (first | rw [if_pos trivial] | rw [if_pos rfl] | rw [if_neg (by omega)])
           exact k2_4 t h1 h2 h3
       · have hst := partN_tokF (T := T) (w := w) (s := sy) (v := v) (a := a) (j := j) hs (fun h1 h2 => hc ⟨h1, h2⟩)
         by_cases haj : a < j
         · obtain ⟨wa, hwa⟩ : ∃ wa, w[a]? = some wa := ⟨w[a], List.getElem?_eq_getElem (by omega)⟩
           have hwa2 : w[(a : Int).toNat]? = some wa := by rw [Int.toNat_natCast]; exact hwa
           have hne2 : ¬ wa = sy := fun e => hc ⟨haj, by rw [hwa, e]⟩
           repeat' with_reducible first
            | refine s_ ?_
            | simp -implicitDefEqProofs only [wZZ, seval, g0, g2, g3, g9, g11, g12, g17, g18, g19, g13, f0, f2, f3, f9, f11, f12, ob, oa, hca, hzb]
            | (refine condQ_j (fun h h_ => ?_) (fun h h_ => ?_) <;> (try simp only [wD, reduceCtorEq] at h_) <;> (try exact wb_) <;> (try simp only [h]))
            | ((first | refine gdQ_iT (fun h => ?_) (fun h => ?_) | refine gdQ_iF (fun h => ?_) (fun h => ?_)) <;> have h_ := h <;> (try simp only [wD, reduceCtorEq] at h_) <;> (try exact wb_) <;> (try simp only [h]))
            | (apply iaA_ptrQ (by omega))
            | (refine ldQ_cell (vecC_get (by omega)) ?_)
            | (apply ia_slQ; (focus omega); (exact wd_))
            | (apply ld_ipQ; (exact wu_))
           refine ⟨by (try simp only [wN]) <;> omega, a + 1, by omega, trivial, trivial, trivial, trivial, trivial, trivial, trivial, trivial, trivial, rfl, by omega, by omega, ?_, fun id hid => ?_, fun t h1 h2 h3 => ?_⟩
           · rw [hst]
           · first | exact k2_3 id hid | (rw [if_neg hid]; exact k2_3 id hid) | (simp only [wM]; exact k2_3 id hid)
           · (try simp only [wL])
             repeat (first | rw [if_pos trivial] | rw [if_pos rfl] | rw [if_neg (by omega)])
             exact k2_4 t h1 h2 h3
         · repeat' with_reducible first
            | refine s_ ?_
            | simp -implicitDefEqProofs only [wZZ, seval, g0, g2, g3, g9, g11, g12, g17, g18, g19, g13, f0, f2, f3, f9, f11, f12, ob, oa, hca, hzb]
            | (refine condQ_j (fun h h_ => ?_) (fun h h_ => ?_) <;> (try simp only [wD, reduceCtorEq] at h_) <;> (try exact wb_) <;> (try simp only [h]))
            | ((first | refine gdQ_iT (fun h => ?_) (fun h => ?_) | refine gdQ_iF (fun h => ?_) (fun h => ?_)) <;> have h_ := h <;> (try simp only [wD, reduceCtorEq] at h_) <;> (try exact wb_) <;> (try simp only [h]))
            | (apply iaA_ptrQ (by omega))
            | (refine ldQ_cell (vecC_get (by omega)) ?_)
           refine ⟨by (try simp only [wN]) <;> omega, a + 1, by omega, trivial, trivial, trivial, trivial, trivial, trivial, trivial, trivial, trivial, rfl, by omega, by omega, ?_, fun id hid => ?_, fun t h1 h2 h3 => ?_⟩
           · rw [hst]
           · first | exact k2_3 id hid | (rw [if_neg hid]; exact k2_3 id hid) | (simp only [wM]; exact k2_3 id hid)
           · (try simp only [wL])
             repeat (first | rw [if_pos trivial] | rw [if_pos rfl] | rw [if_neg (by omega)])
             exact k2_4 t h1 h2 h3
     · obtain ⟨k, hk1, hk2⟩ : ∃ k : Nat, sy = 1000 + (k : Int) ∧ k < nn := by
        rcases hsy with h | h
        · exact absurd h hs
        · exact h
       have hst := partN_non (T := T) (w := w) (s := sy) (v := v) (a := a) (j := j) hs
       rw [if_pos ha] at hst
       have hkn : (sy - 1000).toNat = k := by omega
       have W : ∀ (s1 : St) (Q : Exit → St → Prop), s1.f 0 = .iptr 7 (cntV g w nn T) 0 → s1.f 3 = vi j → s1.f 9 = .ptr ia 0 0 → s1.f 11 = vi sy → s1.f 12 = .ptr ib 0 0 → s1.f 13 = vi a → s1.H ia = some (.own 25 [.agg (vecC (cutJ v j))] false) → s1.H ib = some (.own 25 [.agg (vecC (partN T w sy v a j))] false) →
        (∀ s', s'.H ib = some (.own 25 [.agg (vecC (partN T w sy v (a + 1) j))] false) → (∀ id, id ≠ ib → s'.H id = s1.H id) → (∀ t, t < 55 → t ≠ 14 → s'.f t = s1.f t) → s1.next ≤ s'.next → Q .normal s') → ewp Try.prog e47n34 Q s1 := by
        intro s1 Q q0 q3 q9 q11 q12 q13 qa qb qQ
        refine ways1 q0 q3 q9 q11 q12 q13 qa qb hne ha hj hk1 hk2 hnn (fun b => ?_) (partN_le hv) hT (fun s' r1 r2 r3 r4 => qQ s' ?_ r2 r3 r4)
        · unfold cutJ; split
          · exact hv b
          · omega
        · rw [r1, ← hkn, hst]
       show ewp _ (.seq e47n11 (.seq (.block 3 (.seq e47n14 (.seq e47n22 e47n34))) (.reg e47r38))) _ _
       generalize e47n34 = E34 at W
       repeat' with_reducible first
        | refine s_ ?_
        | simp -implicitDefEqProofs only [wZZ, seval, g0, g2, g3, g9, g11, g12, g17, g18, g19, g13, f0, f2, f3, f9, f11, f12, ob, oa, hca]
        | (refine condQ_j (fun h h_ => ?_) (fun h h_ => ?_) <;> (try simp only [wD, reduceCtorEq] at h_) <;> (try exact wb_) <;> (try simp only [h]))
        | (apply iaA_ptrQ (by omega))
        | (refine ldQ_cell (vecC_get (by omega)) ?_)
       refine W _ _ (by simp -implicitDefEqProofs only [wL, seval, f0, g0]) (by simp -implicitDefEqProofs only [wL, seval, f3, g3]) (by simp -implicitDefEqProofs only [wL, seval, f9, g9]) (by simp -implicitDefEqProofs only [wL, seval, f11, g11]) (by simp -implicitDefEqProofs only [wL, seval, f12, g12]) (by simp -implicitDefEqProofs only [wL, seval, g13]) (by simp only [wM]; exact oa) (by simp only [wM]; exact ob) (fun s2 r1 r2 r3 r4 => ?_)
       have hzb : IntKind.i64.wrap ((a + 1 : Nat) : Int) = ((a + 1 : Nat) : Int) := wrap64 (by omega) (by omega)
       have r3' : ∀ t, t < 23 → t ≠ 14 → s2.f t = s.f t := fun t h1 h2 => by
        rw [r3 t (by omega) h2]
        simp only [wL]
        repeat (first | rw [if_pos trivial] | rw [if_pos rfl] | rw [if_neg (by omega)])
       (try simp only [wN] at r4); (try simp only [wM] at r2)
       have h13 := (r3' 13 (by omega) (by omega)).trans g13
       repeat' with_reducible first
        | refine s_ ?_
        | simp -implicitDefEqProofs only [wZZ, seval, g0, g2, g3, g9, g11, g12, g17, g18, g19, g13, h13, hzb]
       refine ⟨by (try simp only [wN]) <;> omega, a + 1, by omega, (r3' 0 (by omega) (by omega)).trans (g0.trans f0), (r3' 2 (by omega) (by omega)).trans (g2.trans f2), (r3' 3 (by omega) (by omega)).trans (g3.trans f3), (r3' 9 (by omega) (by omega)).trans (g9.trans f9), (r3' 11 (by omega) (by omega)).trans (g11.trans f11), (r3' 12 (by omega) (by omega)).trans (g12.trans f12), (r3' 17 (by omega) (by omega)).trans g17, (r3' 18 (by omega) (by omega)).trans g18, (r3' 19 (by omega) (by omega)).trans g19, rfl, by omega, by omega, ?_, fun id hid => ?_, fun t h1 h2 h3 => ?_⟩
       · first | exact r1 | (simp only [wM]; exact r1)
       · first | exact (r2 id hid).trans (k2_3 id hid) | (simp only [wM]; exact (r2 id hid).trans (k2_3 id hid))
       · (try simp only [wL])
         repeat (first | rw [if_pos trivial] | rw [if_pos rfl] | rw [if_neg (by omega)])
         exact (r3' t h1 h3).trans (k2_4 t h1 h2 h3)
 · have e : a = j + 1 := by omega
   subst e
   rw [partN_end] at ob
   repeat' with_reducible first
    | refine s_ ?_
    | simp -implicitDefEqProofs only [wZZ, seval, g0, g2, g3, g9, g11, g12, g17, g18, g19, g13, f0, f2, f3, f9, f11, f12]
    | (refine condQ_j (fun h h_ => ?_) (fun h h_ => ?_) <;> (try simp only [wD, reduceCtorEq] at h_) <;> (try exact wb_) <;> (try simp only [h]))
   refine hQ _ (by simp only [wM]; exact ob) (fun id hid => by simp only [wM]; exact k2_3 id hid) (fun t h1 h2 h3 => ?_) wh_
   simp only [wL]
   repeat (first | rw [if_pos trivial] | rw [if_pos rfl] | rw [if_neg (by omega)])
   exact k2_4 t h1 h2 h3
end Go.Proofs
