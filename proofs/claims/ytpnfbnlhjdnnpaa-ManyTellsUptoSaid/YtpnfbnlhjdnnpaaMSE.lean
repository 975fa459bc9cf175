/- Part of a proof that a law of the given program answers true. -/
import Derived.Test.YtpnfbnlhjdnnpaaMSD
import Derived.Test.YtpnfbnlhjdnnpaaMHE
set_option linter.unusedSimpArgs false
set_option linter.unusedVariables false
set_option maxHeartbeats 4000000
namespace Go.Proofs
open Go.E
def vecI (z : Nat) (a : Nat → Nat) : List Int := (List.range z).map fun b => (a b : Int)
theorem vecI_V (z : Nat) (a : Nat → Nat) : vecN z a = (vecI z a).map (V.int .i64) := by unfold vecN vecI; rw [List.map_map]; rfl
theorem vecI_len (z : Nat) (a : Nat → Nat) : (vecI z a).length = z := by simp [vecI]
theorem vecI_eq {z : Nat} {a b : Nat → Nat} : vecI z a = vecI z b ↔ ∀ q, q < z → a q = b q := by
 constructor
 · intro h q hq
   have e := congrArg (fun l => l[q]?) h
   simp only [vecI, List.getElem?_map, List.getElem?_range hq, Option.map_some] at e
   injection e with e; omega
 · intro h
   unfold vecI
   refine List.map_congr_left fun q hq => ?_
   rw [h q (List.mem_range.1 hq)]
theorem er_vecM {H : Nat → Option MObj} {id z : Nat} {a : Nat → Nat} {ro : Bool} (h : H id = some (.own 1 (vecN z a) ro)) : Er true H (.msl id 1 0 z) (.sl 1 false ((vecI z a).map (V.int .i64))) := by
 refine er_msl_eq h (by rw [vecN_len]; omega) ?_
 rw [← vecI_V, List.drop_zero, List.take_of_length_le (by rw [vecN_len]; omega)]
theorem cnt7 {s0 : St} {z nn hi hn : Nat} {ids jds : Nat → Nat} {A C : Nat → Nat → Nat} {Q : Exit → St → Prop} (f8 : s0.f 8 = .msl hi 1 0 nn) (f10 : s0.f 10 = .bool false) (f11 : s0.f 11 = .msl hn 1 0 nn)
 (hh : s0.H hi = some (.own 1 (rowsC nn z ids) false)) (hk : ∀ k, k < nn → s0.H (ids k) = some (.own 1 (vecN z (A k)) false)) (hhn : s0.H hn = some (.own 1 (rowsC nn z jds) false)) (hkn : ∀ k, k < nn → s0.H (jds k) = some (.own 1 (vecN z (C k)) false)) (hz : z ≤ 1000000) (hnn : nn ≤ 1000000)
 (hQ : ∀ s' b, s'.f 10 = .bool b → (b = false → ∀ k, k < nn → vecI z (C k) = vecI z (A k)) → (b = true → ∃ k, k < nn ∧ vecI z (C k) ≠ vecI z (A k)) → (∀ id, s'.H id = s0.H id) → (∀ t, t < 18 → t ≠ 10 → s'.f t = s0.f t) → s0.next ≤ s'.next → Q .normal s') : ewp Try.prog e14n103 Q s0 := by
 repeat' with_reducible first
  | refine s_ ?_
  | simp -implicitDefEqProofs only [wZZ, seval, f8, f10, f11]
 refine ewp_loopN ?nx7 (fun (q : Nat × Bool) s => s.f 1 = ?v7_1 ∧ s.f 2 = ?v7_2 ∧ s.f 3 = ?v7_3 ∧ s.f 7 = ?v7_7 ∧ s.f 8 = ?v7_8 ∧ s.f 11 = ?v7_11 ∧ s.f 18 = vi q.1 ∧ (q.1 ≤ nn) ∧ ((q.2 = false → ∀ k, k < q.1 → vecI z (C k) = vecI z (A k))) ∧ ((q.2 = true → ∃ k, k < nn ∧ vecI z (C k) ≠ vecI z (A k))) ∧ ((∀ id, s.H id = s0.H id)) ∧ ((∀ t, t < 18 → t ≠ 10 → s.f t = s0.f t)) ∧ (s.f 10 = .bool q.2)) (fun q => nn - q.1) ((0, false)) wj_ (by refine ⟨?_, ?_, ?_, ?_, ?_, ?_, ?_, (by first | omega | (simp; done) | assumption), (by intro _ k hk; omega), (by intro e; cases e), (by intro id; ((try simp only [wM]); (repeat first | rw [if_pos trivial] | rw [if_pos rfl] | rw [if_neg (by omega)]))), (by intro t h1 h2; ((try simp only [wL]); (repeat first | rw [if_pos trivial] | rw [if_pos rfl] | rw [if_neg (by omega)]))), (by (try simp -implicitDefEqProofs only [wL, wM, wN, seval]); exact f10)⟩ <;> first | (simp -implicitDefEqProofs only [wL, wM, wN, wX, seval, Option.some.injEq] <;> exact wt_) | rfl | exact ⟨_, rfl⟩) ?_
 intro q s hnx ⟨g1, g2, g3, g7, g8, g11, g18, k7_0, k7_1, k7_2, k7_3, k7_4, g10⟩
 obtain ⟨i, b⟩ := q
 dsimp only at *
 have oh := (k7_3 hi).trans hh
 have on := (k7_3 hn).trans hhn
 have hzb : IntKind.i64.wrap ((i + 1 : Nat) : Int) = ((i + 1 : Nat) : Int) := wrap64 (by omega) (by omega)
 by_cases hi2 : i < nn
 · cases b with
   | true =>
     repeat' with_reducible first
      | refine s_ ?_
      | simp -implicitDefEqProofs only [wZZ, seval, g1, g2, g3, g7, g8, g11, g18, g10, f8, f11, hzb]
      | (refine condQ_j (fun h h_ => ?_) (fun h h_ => ?_) <;> (try simp only [wD, reduceCtorEq] at h_) <;> (try exact wb_) <;> (try simp only [h]))
     refine ⟨by ((try simp only [wN]) <;> omega), (i + 1, true), by dsimp only; omega, ?_⟩; (repeat refine ⟨True.intro, ?_⟩); refine ⟨rfl, by dsimp only; omega, fun e => (by cases e), k7_2, fun id => by ((try simp only [wM]); (repeat first | rw [if_pos trivial] | rw [if_pos rfl] | rw [if_neg (by omega)])); exact k7_3 id, fun t h1 h2 => ?_, by first | rfl | (simp -implicitDefEqProofs only [wL, seval, g10])⟩
     ((try simp only [wL]); (repeat first | rw [if_pos trivial] | rw [if_pos rfl] | rw [if_neg (by omega)])); exact k7_4 t h1 h2
   | false =>
     have oi := (k7_3 (ids i)).trans (hk i hi2)
     have oj := (k7_3 (jds i)).trans (hkn i hi2)
     have hq := yuccaref0_EqInts (a := vecI z (C i)) (b := vecI z (A i)) (by rw [vecI_len]; omega) (by rw [vecI_len]; omega)
     by_cases he : vecI z (C i) = vecI z (A i)
     · rw [decide_eq_true he] at hq
       repeat' with_reducible first
        | refine s_ ?_
        | simp -implicitDefEqProofs only [wZZ, seval, g1, g2, g3, g7, g8, g11, g18, g10, f8, f11, oh, on, hzb]
        | (refine condQ_j (fun h h_ => ?_) (fun h h_ => ?_) <;> (try simp only [wD, reduceCtorEq] at h_) <;> (try exact wb_) <;> (try simp only [h]))
        | (apply ia_mslQ; (focus omega); (focus omega))
        | (refine ldR hi2 ?_)
        | (apply callQB2 (hp := hq); (focus (refine er_vecM (ro := false) ?_; ((try simp only [wM]); (repeat first | rw [if_pos trivial] | rw [if_pos rfl] | rw [if_neg (by omega)])); exact oj)); (focus (refine er_vecM (ro := false) ?_; ((try simp only [wM]); (repeat first | rw [if_pos trivial] | rw [if_pos rfl] | rw [if_neg (by omega)])); exact oi)); (exact wu_); (focus exact Flat.bool _))
       refine ⟨by ((try simp only [wN]) <;> omega), (i + 1, false), by dsimp only; omega, ?_⟩; (repeat refine ⟨True.intro, ?_⟩); refine ⟨rfl, by dsimp only; omega, fun _ k hk2 => ?_, fun e => (by cases e), fun id => by ((try simp only [wM]); (repeat first | rw [if_pos trivial] | rw [if_pos rfl] | rw [if_neg (by omega)])); exact k7_3 id, fun t h1 h2 => ?_, by first | rfl | (simp -implicitDefEqProofs only [wL, seval, g10])⟩
       · by_cases e : k = i
         · subst e; exact he
         · exact k7_1 rfl k (by dsimp only at hk2; omega)
       · ((try simp only [wL]); (repeat first | rw [if_pos trivial] | rw [if_pos rfl] | rw [if_neg (by omega)])); exact k7_4 t h1 h2
     · rw [decide_eq_false he] at hq
       repeat' with_reducible first
        | refine s_ ?_
        | simp -implicitDefEqProofs only [wZZ, seval, g1, g2, g3, g7, g8, g11, g18, g10, f8, f11, oh, on, hzb]
        | (refine condQ_j (fun h h_ => ?_) (fun h h_ => ?_) <;> (try simp only [wD, reduceCtorEq] at h_) <;> (try exact wb_) <;> (try simp only [h]))
        | (apply ia_mslQ; (focus omega); (focus omega))
        | (refine ldR hi2 ?_)
        | (apply callQB2 (hp := hq); (focus (refine er_vecM (ro := false) ?_; ((try simp only [wM]); (repeat first | rw [if_pos trivial] | rw [if_pos rfl] | rw [if_neg (by omega)])); exact oj)); (focus (refine er_vecM (ro := false) ?_; ((try simp only [wM]); (repeat first | rw [if_pos trivial] | rw [if_pos rfl] | rw [if_neg (by omega)])); exact oi)); (exact wu_); (focus exact Flat.bool _))
       refine ⟨by ((try simp only [wN]) <;> omega), (i + 1, true), by dsimp only; omega, ?_⟩; (repeat refine ⟨True.intro, ?_⟩); refine ⟨rfl, by dsimp only; omega, fun e => (by cases e), fun _ => ⟨i, hi2, he⟩, fun id => by ((try simp only [wM]); (repeat first | rw [if_pos trivial] | rw [if_pos rfl] | rw [if_neg (by omega)])); exact k7_3 id, fun t h1 h2 => ?_, by first | rfl | (simp -implicitDefEqProofs only [wL, seval, g10])⟩
       ((try simp only [wL]); (repeat first | rw [if_pos trivial] | rw [if_pos rfl] | rw [if_neg (by omega)])); exact k7_4 t h1 h2
 · have e : i = nn := by omega
   subst e
   repeat' with_reducible first
    | refine s_ ?_
    | simp -implicitDefEqProofs only [wZZ, seval, g1, g2, g3, g7, g8, g11, g18, g10, f8, f11]
   refine hQ _ b (by (simp -implicitDefEqProofs only [wL, seval, g10])) k7_1 k7_2 (fun id => by ((try simp only [wM]); (repeat first | rw [if_pos trivial] | rw [if_pos rfl] | rw [if_neg (by omega)])); exact k7_3 id) (fun t h1 h2 => ?_) (by ((try simp only [wN]) <;> omega))
   ((try simp only [wL]); (repeat first | rw [if_pos trivial] | rw [if_pos rfl] | rw [if_neg (by omega)])); exact k7_4 t h1 h2

theorem tab_get {nn n : Nat} {T U : Tbl} (hn : ∀ k, k < nn → vecI (n * n) (tabM n (T k)) = vecI (n * n) (tabM n (U k))) {k a b : Nat} (hk : k < nn) (ha : a < n) (hb : b < n) : T k a b = U k a b := by
 have h := vecI_eq.1 (hn k hk) (a * n + b) (tab_lt ha hb)
 rwa [tabM_at hb, tabM_at hb] at h
theorem vecN_inj {z : Nat} {a b : Nat → Nat} (h : vecN z a = vecN z b) : vecI z a = vecI z b := by
 rw [vecI_eq]
 intro q hq
 have e := congrArg (fun l => l[q]?) h
 rw [vecN_get hq, vecN_get hq] at e
 injection e with e; injection e with _ e; omega
structure TabAt (H : Nat → Option MObj) (next nn n hi : Nat) (T : Tbl) (ids : Nat → Nat) : Prop where
 ho : H hi = some (.own 1 (rowsC nn (n * n) ids) false)
 hr : ∀ k, k < nn → H (ids k) = some (.own 1 (vecN (n * n) (tabM n (T k))) false)
 li : hi < next
 lk : ∀ k, k < nn → ids k < next
theorem TabAt.mono {H H' : Nat → Option MObj} {next next' nn n hi : Nat} {T : Tbl} {ids : Nat → Nat} (h : TabAt H next nn n hi T ids) (hn : next ≤ next') (hH : ∀ j, j < next → H' j = H j) : TabAt H' next' nn n hi T ids :=
 ⟨(hH _ h.li).trans h.ho, fun k hk => (hH _ (h.lk k hk)).trans (h.hr k hk), Nat.lt_of_lt_of_le h.li hn, fun k hk => Nat.lt_of_lt_of_le (h.lk k hk) hn⟩
theorem cnt8 {s0 : St} {g : Grammar} {w : List Int} {n nn j gb hi : Nat} {ids : Nat → Nat} {Q : Exit → St → Prop} (hg : Cnt g nn) (f2 : s0.f 2 = .sl 1 false (w.map (V.int .i64))) (f3 : s0.f 3 = .ptr gb 0 0) (f7 : s0.f 7 = vi n) (f8 : s0.f 8 = .msl hi 1 0 nn)
 (hgb : s0.H gb = some (.own 5 [g.V] false)) (hT : TabAt s0.H s0.next nn n hi (fun _ _ _ => 0) ids) (l1 : gb < s0.next) (hjw : j = w.length) (hj : j ≤ 24) (hnj : n = j + 1)
 (hQ : ∀ s' m hi' ids', IsCount g nn w (itT g.prods w m) → s'.f 8 = .msl hi' 1 0 nn → TabAt s'.H s'.next nn n hi' (itT g.prods w m) ids' → s'.f 1 = s0.f 1 → s'.f 7 = s0.f 7 → s0.next ≤ s'.next → Q .normal s') : ewp Try.prog e14n114 Q s0 := by
 have hnb := hg.nb
 have hqq : n * n ≤ 625 := Nat.le_trans (Nat.mul_le_mul (show n ≤ 25 by omega) (show n ≤ 25 by omega)) (by decide)
 repeat' with_reducible first
  | refine s_ ?_
  | simp -implicitDefEqProofs only [wZZ, seval, f2, f3, f7, f8]
 refine ewp_loopN ?nx2 (fun (q : Nat × Bool × Nat) s => s.f 1 = ?v2_1 ∧ s.f 2 = ?v2_2 ∧ s.f 3 = ?v2_3 ∧ s.f 7 = ?v2_7 ∧ s.f 10 = .bool q.2.1 ∧ ((∃ ids, TabAt s.H s.next nn n q.2.2 (itT g.prods w q.1) ids)) ∧ ((q.2.1 = false → IsCount g nn w (itT g.prods w q.1))) ∧ ((s.H gb = some (.own 5 [g.V] false))) ∧ (s.f 8 = .msl q.2.2 1 0 nn)) (fun q => roomT nn n (itT g.prods w q.1) + (if q.2.1 = true then 1 else 0)) ((0, true, hi)) wj_ (by refine ⟨?_, ?_, ?_, ?_, ?_, (by exact ⟨ids, hT.mono (by ((try simp only [wN]) <;> omega)) (fun j hj => by ((try simp only [wM]); (repeat first | rw [if_pos trivial] | rw [if_pos rfl] | rw [if_neg (by omega)])))⟩), (by intro e; cases e), (by ((try simp only [wM]); (repeat first | rw [if_pos trivial] | rw [if_pos rfl] | rw [if_neg (by omega)])); exact hgb), (by (try simp -implicitDefEqProofs only [wL, wM, wN, seval]); exact f8)⟩ <;> first | (simp -implicitDefEqProofs only [wL, wM, wN, wX, seval, Option.some.injEq] <;> exact wt_) | rfl | exact ⟨_, rfl⟩) ?_
 intro q s hnx ⟨g1, g2, g3, g7, g10, k2_0, k2_1, k2_2, g8⟩
 obtain ⟨m, b, hi⟩ := q
 dsimp only at *
 obtain ⟨ids, hT2⟩ := k2_0
 have t1 := hT2.ho; have t3 := hT2.li
 cases b with
 | false =>
   repeat' with_reducible first
    | refine s_ ?_
    | simp -implicitDefEqProofs only [wZZ, seval, g1, g2, g3, g7, g10, g8, f2, f3, f7]
   exact hQ _ m hi ids (k2_1 rfl) (by (simp -implicitDefEqProofs only [wL, seval, g8])) (hT2.mono (by ((try simp only [wN]) <;> omega)) (fun j hj => by ((try simp only [wM]); (repeat first | rw [if_pos trivial] | rw [if_pos rfl] | rw [if_neg (by omega)])))) (by (simp -implicitDefEqProofs only [wL, seval, g1])) (by (simp -implicitDefEqProofs only [wL, seval, g7])) (by ((try simp only [wN]) <;> omega))
 | true =>
   have W1 := @cnt3
   have W2 := @cnt4
   have W3 := @cnt7
   show ewp _ (.seq e14n39 (.block 3 (.seq (.reg e14r40) (.seq (.reg e14r41) (.seq e14n53 (.seq e14n91 (.seq e14n103 (.reg e14r104)))))))) _ _
   generalize e14n53 = E1 at W1 ⊢
   generalize e14n91 = E2 at W2 ⊢
   generalize e14n103 = E3 at W3 ⊢
   repeat' with_reducible first
    | refine s_ ?_
    | simp -implicitDefEqProofs only [wZZ, seval, g1, g2, g3, g7, g10, g8, f2, f3, f7]
    | (apply mkQ_T; (focus omega); (focus omega); (focus (unfold maxLen; omega)))
   refine W1 (n := n) (nn := nn) (hi := s.next + 1 + 1 + 2) (by (simp -implicitDefEqProofs only [wL, seval, f7, g7])) (by (simp -implicitDefEqProofs only [wL, seval])) (by ((try simp only [wM]); (repeat first | rw [if_pos trivial] | rw [if_pos rfl] | rw [if_neg (by omega)]))) (by ((try simp only [wN]) <;> omega)) (by omega) hnb (fun s2 jds r1 r2 r3 r4 => ?_)
   (try simp only [wN] at r1 r2 r4)
   have hq1 : ∀ id, id < s.next → s2.H id = s.H id := fun id hid => by
    rw [r2 id (by omega) (by omega)]
    ((try simp only [wM]); (repeat first | rw [if_pos trivial] | rw [if_pos rfl] | rw [if_neg (by omega)]))
   repeat' with_reducible first
    | refine s_ ?_
   refine W2 (T := itT g.prods w m) (j := j) (hi := hi) (hn := s.next + 1 + 1 + 2) (B := s.next + 1 + 1 + 4) (ids := ids) (gb := gb) hg ((r3 2 (by omega) (by omega)).trans (by (simp -implicitDefEqProofs only [wL, seval, f2, g2]))) ((r3 3 (by omega) (by omega)).trans (by (simp -implicitDefEqProofs only [wL, seval, f3, g3]))) ((r3 7 (by omega) (by omega)).trans (by (simp -implicitDefEqProofs only [wL, seval, f7, g7]))) ((r3 8 (by omega) (by omega)).trans (by (simp -implicitDefEqProofs only [wL, seval, g8]))) ((r3 11 (by omega) (by omega)).trans (by (simp -implicitDefEqProofs only [wL, seval]))) ((hq1 gb (by omega)).trans k2_2) ((hq1 hi t3).trans t1) (fun k hk => (hq1 _ (hT2.lk k hk)).trans (hT2.hr k hk)) r1 (by omega) (by omega) (by omega) (by omega) (fun k hk => by have := hT2.lk k hk; omega) hjw hj hnj (itT_le _ _ m) (fun s3 p1 p2 p3 p4 => ?_)
   have hq2 : ∀ id, id < s.next → s3.H id = s.H id := fun id hid => (p2 id (by omega)).trans (hq1 id hid)
   have h11 : s3.f 11 = .msl (s.next + 1 + 1 + 2) 1 0 nn := (p3 11 (by omega)).trans ((r3 11 (by omega) (by omega)).trans (by (simp -implicitDefEqProofs only [wL, seval])))
   have h10 : s3.f 10 = .bool false := (p3 10 (by omega)).trans ((r3 10 (by omega) (by omega)).trans (by (simp -implicitDefEqProofs only [wL, seval])))
   have h8 : s3.f 8 = .msl hi 1 0 nn := (p3 8 (by omega)).trans ((r3 8 (by omega) (by omega)).trans (by (simp -implicitDefEqProofs only [wL, seval, g8])))
   have hfr : ∀ t, t < 10 → s3.f t = s.f t := fun t ht => by
    rw [p3 t (by omega), r3 t (by omega) (by omega)]
    ((try simp only [wL]); (repeat first | rw [if_pos trivial] | rw [if_pos rfl] | rw [if_neg (by omega)]))
   have hho := p1.ho
   rw [rowsP_all] at hho
   repeat' with_reducible first
    | refine s_ ?_
   refine W3 (z := n * n) (nn := nn) (hi := hi) (hn := s.next + 1 + 1 + 2) (ids := ids) (jds := jds) (A := fun k => tabM n (itT g.prods w m k)) (C := fun k => tabM n (itT g.prods w (m + 1) k)) h8 h10 h11 ((hq2 hi t3).trans t1) (fun k hk => (hq2 _ (hT2.lk k hk)).trans (hT2.hr k hk)) hho p1.hr (by omega) hnb (fun s4 b u1 u2 u3 u4 u5 u6 => ?_)
   have v11 : s4.f 11 = .msl (s.next + 1 + 1 + 2) 1 0 nn := (u5 11 (by omega) (by omega)).trans h11
   have vfr : ∀ t, t < 10 → s4.f t = s.f t := fun t ht => (u5 t (by omega) (by omega)).trans (hfr t ht)
   have hTn : TabAt s4.H s4.next nn n (s.next + 1 + 1 + 2) (itT g.prods w (m + 1)) jds := ⟨(u4 _).trans hho, fun k hk => (u4 _).trans (p1.hr k hk), by omega, fun k hk => by have := p1.li k hk; omega⟩
   have hgb4 : s4.H gb = some (.own 5 [g.V] false) := (u4 gb).trans ((hq2 gb (by omega)).trans k2_2)
   cases b with
   | false =>
     have e := u2 rfl
     have hC : IsCount g nn w (itT g.prods w m) := itT_done hg fun k a b hk h1 h2 => tab_get e hk (by omega) (by omega)
     have hTm : TabAt s4.H s4.next nn n (s.next + 1 + 1 + 2) (itT g.prods w m) jds := ⟨hTn.ho, fun k hk => by rw [hTn.hr k hk, vecN_ext (vecI_eq.1 (e k hk))], hTn.li, hTn.lk⟩
     repeat' with_reducible first
      | refine s_ ?_
      | simp -implicitDefEqProofs only [wZZ, seval, g1, g2, g3, g7, g10, g8, v11]
     refine ⟨by ((try simp only [wN]) <;> omega), (m, false, s.next + 1 + 1 + 2), by dsimp only; simp, (vfr 1 (by omega)).trans g1, (vfr 2 (by omega)).trans (g2.trans f2), (vfr 3 (by omega)).trans (g3.trans f3), (vfr 7 (by omega)).trans (g7.trans f7), u1, ⟨jds, hTm.mono (by ((try simp only [wN]) <;> omega)) (fun j hj => by ((try simp only [wM]); (repeat first | rw [if_pos trivial] | rw [if_pos rfl] | rw [if_neg (by omega)])))⟩, fun _ => hC, by ((try simp only [wM]); (repeat first | rw [if_pos trivial] | rw [if_pos rfl] | rw [if_neg (by omega)])); exact hgb4, rfl⟩
   | true =>
     obtain ⟨k, hk, hne⟩ := u3 rfl
     have hlt := roomT_lt (nn := nn) (n := n) (itT_up g.prods w m) (itT_le g.prods w (m + 1)) ⟨k, hk, fun e => hne (vecN_inj e)⟩
     repeat' with_reducible first
      | refine s_ ?_
      | simp -implicitDefEqProofs only [wZZ, seval, g1, g2, g3, g7, g10, g8, v11]
     refine ⟨by ((try simp only [wN]) <;> omega), (m + 1, true, s.next + 1 + 1 + 2), by dsimp only; simp; omega, (vfr 1 (by omega)).trans g1, (vfr 2 (by omega)).trans (g2.trans f2), (vfr 3 (by omega)).trans (g3.trans f3), (vfr 7 (by omega)).trans (g7.trans f7), u1, ⟨jds, hTn.mono (by ((try simp only [wN]) <;> omega)) (fun j hj => by ((try simp only [wM]); (repeat first | rw [if_pos trivial] | rw [if_pos rfl] | rw [if_neg (by omega)])))⟩, fun e => (by cases e), by ((try simp only [wM]); (repeat first | rw [if_pos trivial] | rw [if_pos rfl] | rw [if_neg (by omega)])); exact hgb4, rfl⟩

theorem cntP.uniq {g : Grammar} {nn : Nat} {s : Int} {w : List Int} {x y : Int} (hx : cntP g nn s w x) (hy : cntP g nn s w y) : x = y := by
 unfold cntP at hx hy
 split at hx
 · rename_i h; rw [if_pos h] at hy; rw [hx, hy]
 · rename_i h; rw [if_neg h] at hy
   split at hx
   · rename_i h; rw [if_pos h] at hy; rw [hx, hy]
   · rename_i h; rw [if_neg h] at hy
     split at hx
     · rename_i h; rw [if_pos h] at hy; rw [hx, hy]
     · rename_i h; rw [if_neg h] at hy
       obtain ⟨T, h1, rfl⟩ := hx
       obtain ⟨U, h2, rfl⟩ := hy
       rw [h1.uniq h2 (s - 1000).toNat 0 w.length (by omega) (Nat.zero_le _) (Nat.le_refl _)]
theorem rcPre {g : Grammar} {nn : Nat} {s : Int} {w : List Int} (hg : Cnt g nn) (hs : s < 9223372036854775808) (hwl : w.length ≤ 1000000) (htl : g.toks.length ≤ 900) {Q : Exit → St → Prop} {next : Nat} {H : Nat → Option MObj}
 (hE : ∀ s' x, s'.f 6 = vi x → cntP g nn s w x → Q .ret s')
 (hQ : ∀ s' gb, ¬ w.length > 24 → 1000 ≤ s → s < 1000 + (nn : Int) → s'.f 1 = vi s → s'.f 2 = .sl 1 false (w.map (V.int .i64)) → s'.f 3 = .ptr gb 0 0 → s'.H gb = some (.own 5 [g.V] false) → gb < s'.next → ewp Try.prog e14n120 Q s') : ewp Try.prog e14n124 Q (entry [g.V, vi s, .sl 1 false (w.map (V.int .i64))] H next) := by
 show ewp _ (.seq (.reg e14r0) (.seq e14n5 (.seq e14n10 (.seq e14n21 e14n120)))) _ _
 generalize e14n120 = F at hQ
 have hnl := hg.nl
 have hnb := hg.nb
 have hsy := yuccaref9_Symbol (g := g) (x := s) (by omega) (by omega)
 by_cases h24 : w.length > 24
 · repeat' with_reducible first
    | refine s_ ?_
    | simp -implicitDefEqProofs only [wZZ, seval]
    | (refine condQ_j (fun h h_ => ?_) (fun h h_ => ?_) <;> (try simp only [wD, reduceCtorEq] at h_) <;> (try exact wb_) <;> (try simp only [h]))
    | (apply boxQ_i; (exact wu_); (exact wu_))
   exact hE _ (-1) (by (simp -implicitDefEqProofs only [wL, seval])) (by unfold cntP; rw [if_pos h24])
 by_cases ht : 0 ≤ s ∧ s < g.toks.length
 · have e : symOkB g.toks.length g.nons.length s = true := by unfold symOkB; simp; omega
   rw [e] at hsy
   repeat' with_reducible first
    | refine s_ ?_
    | simp -implicitDefEqProofs only [wZZ, seval]
    | (refine condQ_j (fun h h_ => ?_) (fun h h_ => ?_) <;> (try simp only [wD, reduceCtorEq] at h_) <;> (try exact wb_) <;> (try simp only [h]))
    | ((first | refine gdQ_iT (fun h => ?_) (fun h => ?_) | refine gdQ_iF (fun h => ?_) (fun h => ?_)) <;> have h_ := h <;> (try simp only [wD, reduceCtorEq] at h_) <;> (try exact wb_) <;> (try simp only [h]))
    | (apply callQ2 (hp := hsy); (focus exact er_cl); (focus exact er_cl))
    | (apply ia_slQ; (focus omega); (exact wd_))
    | (apply ldQ_whole)
    | (apply boxQ_i; (exact wu_); (exact wu_))
   · refine hE _ 1 (by (simp -implicitDefEqProofs only [wL, seval])) (by unfold cntP; rw [if_neg h24, if_pos ht, if_pos]; exact List.ext_getElem (by simp; omega) (fun i h1 h2 => by have e : i = 0 := (by simp at h2; omega); subst e; simpa using h_))
   · refine hE _ 0 (by (simp -implicitDefEqProofs only [wL, seval])) (by unfold cntP; rw [if_neg h24, if_pos ht, if_neg]; intro e; apply h_; simp [e])
   · refine hE _ 0 (by (simp -implicitDefEqProofs only [wL, seval])) (by unfold cntP; rw [if_neg h24, if_pos ht, if_neg]; intro e; apply h_; simp [e])
 by_cases hk : 1000 ≤ s ∧ s < 1000 + (nn : Int)
 · have e : symOkB g.toks.length g.nons.length s = true := by unfold symOkB; simp; omega
   rw [e] at hsy
   repeat' with_reducible first
    | refine s_ ?_
    | simp -implicitDefEqProofs only [wZZ, seval]
    | (refine condQ_j (fun h h_ => ?_) (fun h h_ => ?_) <;> (try simp only [wD, reduceCtorEq] at h_) <;> (try exact wb_) <;> (try simp only [h]))
    | (apply callQ2 (hp := hsy); (focus exact er_cl); (focus exact er_cl))
    | (apply ldQ_whole)
    | (apply boxQ_i; (exact wu_); (exact wu_))
   exact hQ _ next h24 hk.1 hk.2 (by (simp -implicitDefEqProofs only [wL, seval])) (by (simp -implicitDefEqProofs only [wL, seval])) (by (simp -implicitDefEqProofs only [wL, seval])) (by ((try simp only [wM]); (repeat first | rw [if_pos trivial] | rw [if_pos rfl] | rw [if_neg (by omega)]))) (by ((try simp only [wN]) <;> omega))
 · have e : symOkB g.toks.length g.nons.length s = false := by unfold symOkB; simp; omega
   rw [e] at hsy
   repeat' with_reducible first
    | refine s_ ?_
    | simp -implicitDefEqProofs only [wZZ, seval]
    | (refine condQ_j (fun h h_ => ?_) (fun h h_ => ?_) <;> (try simp only [wD, reduceCtorEq] at h_) <;> (try exact wb_) <;> (try simp only [h]))
    | (apply callQ2 (hp := hsy); (focus exact er_cl); (focus exact er_cl))
    | (apply ldQ_whole)
    | (apply boxQ_i; (exact wu_); (exact wu_))
   exact hE _ 0 (by (simp -implicitDefEqProofs only [wL, seval])) (by unfold cntP; rw [if_neg h24, if_neg ht, if_pos (by omega)])
theorem rcBody {g : Grammar} {nn gb : Nat} {sy : Int} {w : List Int} (hg : Cnt g nn) (hs : sy < 9223372036854775808) {Q : Exit → St → Prop} {s0 : St} (h24 : ¬ w.length > 24) (h1 : 1000 ≤ sy) (h2 : sy < 1000 + (nn : Int)) (f1 : s0.f 1 = vi sy) (f2 : s0.f 2 = .sl 1 false (w.map (V.int .i64))) (f3 : s0.f 3 = .ptr gb 0 0) (hgb : s0.H gb = some (.own 5 [g.V] false)) (lg : gb < s0.next)
 (hQ : ∀ s' T, IsCount g nn w T → s'.f 6 = vi (T (sy - 1000).toNat 0 w.length) → Q .ret s') : ewp Try.prog e14n120 Q s0 := by
 have hnl := hg.nl
 have hnb := hg.nb
 have hzs : IntKind.i64.wrap (sy - 1000) = sy - 1000 := wrap64 (by omega) (by omega)
 obtain ⟨kq, e0⟩ : ∃ kq : Nat, sy - 1000 = kq := ⟨(sy - 1000).toNat, by omega⟩
 have hk : kq < nn := by omega
 rw [e0] at hzs
 have hzw : IntKind.i64.wrap ((w.length + 1 : Nat) : Int) = ((w.length + 1 : Nat) : Int) := wrap64 (by omega) (by omega)
 have hzv : IntKind.i64.wrap (((w.length + 1 : Nat) : Int) - 1) = ((w.length : Nat) : Int) := by rw [wrap64 (by omega) (by omega)]; omega
 have W1 := @cnt1
 have W2 := @cnt8
 show ewp _ (.seq (.reg e14r22) (.seq (.reg e14r23) (.seq e14n35 (.seq e14n114 (.seq (.reg e14r115) .ret))))) _ _
 generalize e14n35 = E1 at W1 ⊢
 generalize e14n114 = E2 at W2 ⊢
 repeat' with_reducible first
  | refine s_ ?_
  | simp -implicitDefEqProofs only [wZZ, seval, f1, f2, f3, hgb, hzw, hnl]
  | (apply mkQ_T; (focus omega); (focus omega); (focus (unfold maxLen; omega)))
  | (apply ldQ_cell; (exact wu_))
 refine W1 (n := w.length + 1) (nn := nn) (hi := s0.next + 4 + 3) (by (simp -implicitDefEqProofs only [wL, seval])) (by (simp -implicitDefEqProofs only [wL, seval])) (by ((try simp only [wM]); (repeat first | rw [if_pos trivial] | rw [if_pos rfl] | rw [if_neg (by omega)]))) (by ((try simp only [wN]) <;> omega)) (by omega) hnb (fun s1 ids r1 r2 r3 r4 => ?_)
 (try simp only [wN] at r1 r2 r4)
 have hho := r1.ho
 rw [rowsP_all] at hho
 have hl := r1.li
 repeat' with_reducible first
  | refine s_ ?_
 refine W2 (n := w.length + 1) (j := w.length) (gb := gb) (hi := s0.next + 4 + 3) (ids := ids) hg ((r3 2 (by omega) (by omega)).trans (by (simp -implicitDefEqProofs only [wL, seval, f2]))) ((r3 3 (by omega) (by omega)).trans (by (simp -implicitDefEqProofs only [wL, seval, f3]))) ((r3 7 (by omega) (by omega)).trans (by (simp -implicitDefEqProofs only [wL, seval]))) ((r3 8 (by omega) (by omega)).trans (by (simp -implicitDefEqProofs only [wL, seval]))) ((r2 gb (by omega) (by omega)).trans (by ((try simp only [wM]); (repeat first | rw [if_pos trivial] | rw [if_pos rfl] | rw [if_neg (by omega)])); exact hgb)) ⟨hho, r1.hr, by omega, fun k hk => (hl k hk).2⟩ (by omega) rfl (by omega) rfl (fun s2 m hi ids c1 c2 c3 c4 c5 c6 => ?_)
 have v1 : s2.f 1 = vi sy := c4.trans ((r3 1 (by omega) (by omega)).trans (by (simp -implicitDefEqProofs only [wL, seval, f1])))
 have v7 : s2.f 7 = vi (w.length + 1 : Nat) := c5.trans ((r3 7 (by omega) (by omega)).trans (by (simp -implicitDefEqProofs only [wL, seval])))
 have o8 := c3.ho
 have ok := c3.hr kq hk
 have htm := tabM_at (n := w.length + 1) (t := itT g.prods w m kq) (a := 0) (b := w.length) (by omega)
 rw [Nat.zero_mul, Nat.zero_add] at htm
 have hq : w.length < (w.length + 1) * (w.length + 1) := by have := tab_lt (n := w.length + 1) (a := 0) (b := w.length) (by omega) (by omega); omega
 repeat' with_reducible first
  | refine s_ ?_
  | simp -implicitDefEqProofs only [wZZ, seval, c2, v1, v7, e0, hzs, hzv, o8, ok, htm]
  | (apply ia_mslQ; (focus omega); (focus omega))
  | (refine ldR hk ?_)
  | (refine ldV hq ?_)
  | simp -implicitDefEqProofs (disch := omega) only [w64, if_neg]
 refine hQ _ _ c1 ?_
 ((try simp only [wL]); (repeat first | rw [if_pos trivial] | rw [if_pos rfl] | rw [if_neg (by omega)]))
 rw [e0]; rfl
theorem ref_Count {g : Grammar} {nn : Nat} {sy : Int} {w : List Int} (hg : Cnt g nn) (hs : sy < 9223372036854775808) (hwl : w.length ≤ 1000000) (htl : g.toks.length ≤ 900) : ∃ x : Int, cntP g nn sy w x ∧ Pure Try.prog 14 [g.V, vi sy, .sl 1 false (w.map (V.int .i64))] (vi x) := by
 have hh := pure_ex (G := fun v => ∃ x : Int, v = vi x ∧ cntP g nn sy w x) (args := [g.V, vi sy, .sl 1 false (w.map (V.int .i64))]) Try.func14 e14_nm e14_ok (by show 3 ≤ 163; decide) ?_
 · obtain ⟨v, ⟨x, rfl, h⟩, h2⟩ := hh
   exact ⟨x, h, h2⟩
 refine rcPre hg hs hwl htl (fun s' x h6 hc => ⟨vi x, ⟨x, rfl, hc⟩, Or.inr rfl, vi x, ?_, .int _ _⟩) fun s' gb h24 h1 h2 f1 f2 f3 hgb lg => rcBody hg hs h24 h1 h2 f1 f2 f3 hgb lg fun s2 T hT h6 => ⟨vi (T (sy - 1000).toNat 0 w.length), ⟨_, rfl, ?_⟩, Or.inr rfl, vi (T (sy - 1000).toNat 0 w.length), ?_, .int _ _⟩
 · show resV s' [.inl 6] = _
   simp [resV, resL, one, h6]
 · unfold cntP
   rw [if_neg h24, if_neg (by omega), if_neg (by omega)]
   exact ⟨T, hT, rfl⟩
 · show resV s2 [.inl 6] = _
   simp [resV, resL, one, h6]
end Go.Proofs
