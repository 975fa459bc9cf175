/- Part of a proof that a law of the given program answers true. -/
import Derived.Test.YtpnfbnlhjdnnpaaMSC
set_option linter.unusedSimpArgs false
set_option linter.unusedVariables false
set_option maxHeartbeats 4000000
namespace Go.Proofs
open Go.E
theorem cnt6 {s0 : St} {p : GPr} {n nn lf i pb wy hi : Nat} {ids : Nat → Nat} {N : Nat → Nat → Nat} {W : Nat → Nat} {Q : Exit → St → Prop} (f7 : s0.f 7 = vi n) (f11 : s0.f 11 = .msl hi 1 0 nn) (f14 : s0.f 14 = .ptr pb 0 0) (f15 : s0.f 15 = vi i) (f16 : s0.f 16 = .msl wy 1 0 n)
 (hp : s0.H pb = some (.own 6 [p.V] false)) (hw : s0.H wy = some (.own 1 (vecN n W) false)) (hh : s0.H hi = some (.own 1 (rowsC nn (n * n) ids) false)) (hk0 : s0.H (ids lf) = some (.own 1 (vecN (n * n) (tabM n N)) false)) (n1 : pb ≠ ids lf) (n2 : wy ≠ ids lf) (n3 : hi ≠ ids lf)
 (hin : i < n) (hn : n ≤ 25) (hlf : p.left = (lf : Int)) (hk : lf < nn) (hnn : nn ≤ 1000000) (hN : ∀ a b, N a b ≤ 2) (hW : ∀ b, W b ≤ 2)
 (hQ : ∀ s', s'.H (ids lf) = some (.own 1 (vecN (n * n) (tabM n (addW N W i n))) false) → (∀ id, id ≠ ids lf → s'.H id = s0.H id) → (∀ t, t < 99 → t ≠ 17 → s'.f t = s0.f t) → s0.next ≤ s'.next → Q .normal s') : ewp Try.prog e14n75 Q s0 := by
 obtain ⟨pl, pr, pc, pco, pa, pat⟩ := p
 dsimp only at hlf
 subst hlf
 repeat' with_reducible first
  | refine s_ ?_
  | simp -implicitDefEqProofs only [wZZ, seval, f7, f11, f14, f15, f16]
 refine ewp_loopN ?nx6 (fun (b : Nat) s => s.f 1 = ?v6_1 ∧ s.f 2 = ?v6_2 ∧ s.f 3 = ?v6_3 ∧ s.f 7 = ?v6_7 ∧ s.f 8 = ?v6_8 ∧ s.f 10 = ?v6_10 ∧ s.f 11 = ?v6_11 ∧ s.f 13 = ?v6_13 ∧ s.f 14 = ?v6_14 ∧ s.f 15 = ?v6_15 ∧ s.f 16 = ?v6_16 ∧ s.f 17 = vi b ∧ (i ≤ b) ∧ (b ≤ n) ∧ ((s.H (ids lf) = some (MObj.own 1 (vecN (n * n) (tabM n (addW N W i b))) false))) ∧ ((∀ id, id ≠ ids lf → s.H id = s0.H id)) ∧ ((∀ t, t < 99 → t ≠ 17 → s.f t = s0.f t))) (fun b => n - b) (i) wj_ (by refine ⟨?_, ?_, ?_, ?_, ?_, ?_, ?_, ?_, ?_, ?_, ?_, ?_, (by first | omega | (simp; done) | assumption), (by first | omega | (simp; done) | assumption), (by rw [addW_0]; ((try simp only [wM]); (repeat first | rw [if_pos trivial] | rw [if_pos rfl] | rw [if_neg (by omega)])); exact hk0), (by intro id h1; ((try simp only [wM]); (repeat first | rw [if_pos trivial] | rw [if_pos rfl] | rw [if_neg (by omega)]))), (by intro t h1 h2; ((try simp only [wL]); (repeat first | rw [if_pos trivial] | rw [if_pos rfl] | rw [if_neg (by omega)])))⟩ <;> first | (simp -implicitDefEqProofs only [wL, wM, wN, wX, seval, Option.some.injEq] <;> exact wt_) | rfl | exact ⟨_, rfl⟩) ?_
 intro b s hnx ⟨g1, g2, g3, g7, g8, g10, g11, g13, g14, g15, g16, g17, k6_0, k6_1, k6_2, k6_3, k6_4⟩
 have ok := k6_2
 have op := (k6_3 _ n1).trans hp
 have ow := (k6_3 _ n2).trans hw
 have oh := (k6_3 _ n3).trans hh
 have hzb : IntKind.i64.wrap ((b + 1 : Nat) : Int) = ((b + 1 : Nat) : Int) := wrap64 (by omega) (by omega)
 by_cases hb : b < n
 · have hq := tab_lt hin hb
   have hqq : n * n ≤ 625 := Nat.le_trans (Nat.mul_le_mul hn hn) (by decide)
   have hm2 : (i : Int) * (n : Int) = ((i * n : Nat) : Int) := by simp
   have hz3 : IntKind.i64.wrap ((i * n : Nat) : Int) = ((i * n : Nat) : Int) := wrap64 (by omega) (by omega)
   have hz4 : IntKind.i64.wrap (((i * n : Nat) : Int) + (b : Int)) = ((i * n + b : Nat) : Int) := by rw [wrap64 (by omega) (by omega)]; omega
   have htm := tabM_at (t := addW N W i b) (a := i) hb
   have hNb : addW N W i b i b = N i b := by unfold addW; rw [if_neg (by omega)]
   rw [hNb] at htm
   have hsu := addW_succ (N := N) (W := W) hin hb (by omega)
   have h1 := hN i b; have h2 := hW b
   have hz5 : IntKind.i64.wrap (((N i b : Nat) : Int) + ((W b : Nat) : Int)) = ((N i b + W b : Nat) : Int) := by rw [wrap64 (by omega) (by omega)]; omega
   have hmn := min2_nat (N i b + W b)
   generalize i * n + b = q at *
   repeat' with_reducible first
    | refine s_ ?_
    | simp -implicitDefEqProofs only [wZZ, seval, g1, g2, g3, g7, g8, g10, g11, g13, g14, g15, g16, g17, f7, f11, f14, f15, f16, ok, op, ow, oh, hzb, hm2, hz3, hz4, htm, hz5, st_min2, min2_ii, hmn]
    | (refine condQ_j (fun h h_ => ?_) (fun h h_ => ?_) <;> (try simp only [wD, reduceCtorEq] at h_) <;> (try exact wb_) <;> (try simp only [h]))
    | (apply ia_mslQ; (focus omega); (focus omega))
    | (refine ldV (by omega) ?_)
    | (refine ldR hk ?_)
    | (refine stV (by omega) ?_)
    | (apply ldQ_cell; (exact wu_))
   refine ⟨by ((try simp only [wN]) <;> omega), b + 1, by omega, ?_⟩; (repeat refine ⟨True.intro, ?_⟩); refine ⟨rfl, by omega, by omega, ?_, fun id hid => ?_, fun t h1 h2 => ?_⟩
   · rw [hsu]
   · ((try simp only [wM]); (repeat first | rw [if_pos trivial] | rw [if_pos rfl] | rw [if_neg (by omega)])); exact k6_3 id hid
   · ((try simp only [wL]); (repeat first | rw [if_pos trivial] | rw [if_pos rfl] | rw [if_neg (by omega)])); exact k6_4 t h1 h2
 · have e : b = n := by omega
   subst e
   repeat' with_reducible first
    | refine s_ ?_
    | simp -implicitDefEqProofs only [wZZ, seval, g1, g2, g3, g7, g8, g10, g11, g13, g14, g15, g16, g17, f7, f11, f14, f15, f16]
   refine hQ _ (by ((try simp only [wM]); (repeat first | rw [if_pos trivial] | rw [if_pos rfl] | rw [if_neg (by omega)])); exact ok) (fun id hid => by ((try simp only [wM]); (repeat first | rw [if_pos trivial] | rw [if_pos rfl] | rw [if_neg (by omega)])); exact k6_3 id hid) (fun t h1 h2 => ?_) (by ((try simp only [wN]) <;> omega))
   ((try simp only [wL]); (repeat first | rw [if_pos trivial] | rw [if_pos rfl] | rw [if_neg (by omega)])); exact k6_4 t h1 h2

theorem cnt5 {s0 : St} {p : GPr} {w : List Int} {n nn j lf pb hi hn : Nat} {ids jds : Nat → Nat} {N : Nat → Nat → Nat} {T : Tbl} {Q : Exit → St → Prop} (f2 : s0.f 2 = .sl 1 false (w.map (V.int .i64))) (f7 : s0.f 7 = vi n) (f8 : s0.f 8 = .msl hi 1 0 nn) (f11 : s0.f 11 = .msl hn 1 0 nn) (f14 : s0.f 14 = .ptr pb 0 0)
 (hp : s0.H pb = some (.own 6 [p.V] false)) (hh : s0.H hi = some (.own 1 (rowsC nn (n * n) ids) false)) (hk0 : ∀ k, k < nn → s0.H (ids k) = some (.own 1 (vecN (n * n) (tabM n (T k))) false)) (hhn : s0.H hn = some (.own 1 (rowsC nn (n * n) jds) false)) (hkn : s0.H (jds lf) = some (.own 1 (vecN (n * n) (tabM n N)) false))
 (n1 : pb ≠ jds lf) (n2 : hi ≠ jds lf) (n3 : hn ≠ jds lf) (n4 : ∀ k, k < nn → ids k ≠ jds lf) (l1 : pb < s0.next) (l2 : hi < s0.next) (l3 : hn < s0.next) (l4 : ∀ k, k < nn → ids k < s0.next) (l5 : jds lf < s0.next)
 (hjw : j = w.length) (hj : j ≤ 24) (hnj : n = j + 1) (hr : ∀ s ∈ p.right, s < 1000 ∨ ∃ k : Nat, s = 1000 + (k : Int) ∧ k < nn) (hl : p.right.length ≤ 1000000) (hlf : p.left = (lf : Int)) (hk : lf < nn) (hnn : nn ≤ 1000000) (hN : ∀ a b, N a b ≤ 2) (hT : ∀ k a b, T k a b ≤ 2)
 (hQ : ∀ s', s'.H (jds lf) = some (.own 1 (vecN (n * n) (tabM n (addF N T w p.right n))) false) → (∀ id, id < s0.next → id ≠ jds lf → s'.H id = s0.H id) → (∀ t, t < 15 → s'.f t = s0.f t) → s0.next ≤ s'.next → Q .normal s') : ewp Try.prog e14n83 Q s0 := by
 have hpV : p.V = .agg [vi p.left, .sl 1 false (p.right.map (V.int .i64)), vi p.prec, .str p.code, .sl 1 false (p.args.map (V.int .i64)), vi p.at_] := rfl
 repeat' with_reducible first
  | refine s_ ?_
  | simp -implicitDefEqProofs only [wZZ, seval, f2, f7, f8, f11, f14]
 refine ewp_loopN ?nx5 (fun (i : Nat) s => s.f 1 = ?v5_1 ∧ s.f 2 = ?v5_2 ∧ s.f 3 = ?v5_3 ∧ s.f 7 = ?v5_7 ∧ s.f 8 = ?v5_8 ∧ s.f 10 = ?v5_10 ∧ s.f 11 = ?v5_11 ∧ s.f 13 = ?v5_13 ∧ s.f 14 = ?v5_14 ∧ s.f 15 = vi i ∧ (i ≤ n) ∧ ((s.H (jds lf) = some (MObj.own 1 (vecN (n * n) (tabM n (addF N T w p.right i))) false))) ∧ ((∀ id, id < s0.next → id ≠ jds lf → s.H id = s0.H id)) ∧ ((∀ t, t < 15 → s.f t = s0.f t))) (fun i => n - i) (0) wj_ (by refine ⟨?_, ?_, ?_, ?_, ?_, ?_, ?_, ?_, ?_, ?_, (by first | omega | (simp; done) | assumption), (by rw [addF_0]; ((try simp only [wM]); (repeat first | rw [if_pos trivial] | rw [if_pos rfl] | rw [if_neg (by omega)])); exact hkn), (by intro id h1 h2; ((try simp only [wM]); (repeat first | rw [if_pos trivial] | rw [if_pos rfl] | rw [if_neg (by omega)]))), (by intro t h1; ((try simp only [wL]); (repeat first | rw [if_pos trivial] | rw [if_pos rfl] | rw [if_neg (by omega)])))⟩ <;> first | (simp -implicitDefEqProofs only [wL, wM, wN, wX, seval, Option.some.injEq] <;> exact wt_) | rfl | exact ⟨_, rfl⟩) ?_
 intro i s hnx ⟨g1, g2, g3, g7, g8, g10, g11, g13, g14, g15, k5_0, k5_1, k5_2, k5_3⟩
 have op := (k5_2 _ l1 n1).trans hp
 rw [hpV] at op
 have hzb : IntKind.i64.wrap ((i + 1 : Nat) : Int) = ((i + 1 : Nat) : Int) := wrap64 (by omega) (by omega)
 by_cases hb : i < n
 · have W : ∀ (s1 : St) (Q : Exit → St → Prop) (wy : Nat), s1.f 7 = vi n → s1.f 11 = .msl hn 1 0 nn → s1.f 14 = .ptr pb 0 0 → s1.f 15 = vi i → s1.f 16 = .msl wy 1 0 n → s.next ≤ wy → (∀ id, id < s.next → s1.H id = s.H id) → s1.H wy = some (.own 1 (vecN n (waysV T w i p.right)) false) →
    (∀ s', s'.H (jds lf) = some (.own 1 (vecN (n * n) (tabM n (addF N T w p.right (i + 1)))) false) → (∀ id, id ≠ jds lf → s'.H id = s1.H id) → (∀ t, t < 99 → t ≠ 17 → s'.f t = s1.f t) → s1.next ≤ s'.next → Q .normal s') → ewp Try.prog e14n75 Q s1 := by
    intro s1 Q wy q7 q11 q14 q15 q16 qw qH qo qQ
    rw [← addF_succ] at qQ
    refine cnt6 (p := p) (N := addF N T w p.right i) (W := waysV T w i p.right) (ids := jds) (lf := lf) q7 q11 q14 q15 q16 (by rw [qH _ (by omega), hpV]; exact op) qo (by rw [qH _ (by omega), k5_2 _ l3 n3]; exact hhn) (by rw [qH _ (by omega)]; exact k5_1) n1 (by omega) n3 hb (by omega) hlf hk hnn (fun a b => ?_) (fun b => (waysV_le T w i p.right).1 b) qQ
    unfold addF; split
    · omega
    · exact hN a b
   show ewp _ (.seq e14n62 (.seq (.block 9 (.seq (.reg e14r63) e14n75)) (.reg e14r78))) _ _
   generalize e14n75 = E75 at W
   repeat' with_reducible first
    | refine s_ ?_
    | simp -implicitDefEqProofs only [wZZ, seval, g1, g2, g3, g7, g8, g10, g11, g13, g14, g15, f2, f7, f8, f11, f14, op, hzb]
    | (refine condQ_j (fun h h_ => ?_) (fun h h_ => ?_) <;> (try simp only [wD, reduceCtorEq] at h_) <;> (try exact wb_) <;> (try simp only [h]))
    | (refine callQWc rfl rfl rfl ((rowE (w := w) (right := p.right) (n := n) (nn := nn) (i := i) (j := j) (hi := hi) (ids := ids) (T := T) (by ((try simp only [wM]); (repeat first | rw [if_pos trivial] | rw [if_pos rfl] | rw [if_neg (by omega)])); rw [k5_2 _ l2 n2]; exact hh) (fun k hk => by ((try simp only [wM]); (repeat first | rw [if_pos trivial] | rw [if_pos rfl] | rw [if_neg (by omega)])); rw [k5_2 _ (l4 k hk) (n4 k hk)]; exact hk0 k hk) (by ((try simp only [wN]) <;> omega)) (fun k hk => by have := l4 k hk; ((try simp only [wN]) <;> omega)) hjw hj hnj (by omega) hr hnn hl hT).mono ?_); rintro v1 H1 n1' ⟨q1, ⟨wy, rfl, q2, q3, q4⟩, q5⟩; (try simp only [wN] at q1 q2 q5); (try simp only [wM] at q5))
    | (apply ldQ_cell; (exact wu_))
   refine W _ _ wy (by (simp -implicitDefEqProofs only [wL, seval, f7, g7])) (by (simp -implicitDefEqProofs only [wL, seval, f11, g11])) (by (simp -implicitDefEqProofs only [wL, seval, f14, g14])) (by (simp -implicitDefEqProofs only [wL, seval, g15])) (by (simp -implicitDefEqProofs only [wL, seval])) (by omega) (fun id hid => by ((try simp only [wM]); (repeat first | rw [if_pos trivial] | rw [if_pos rfl] | rw [if_neg (by omega)])); exact q5 id (by omega)) (by ((try simp only [wM]); (repeat first | rw [if_pos trivial] | rw [if_pos rfl] | rw [if_neg (by omega)])); exact q4) (fun s2 r1 r2 r3 r4 => ?_)
   have r3' : ∀ t, t < 16 → s2.f t = s.f t := fun t h1 => by
    rw [r3 t (by omega) (by omega)]
    ((try simp only [wL]); (repeat first | rw [if_pos trivial] | rw [if_pos rfl] | rw [if_neg (by omega)]))
   have h15 := (r3' 15 (by omega)).trans g15
   (try simp only [wN] at r4)
   repeat' with_reducible first
    | refine s_ ?_
    | simp -implicitDefEqProofs only [wZZ, seval, g1, g2, g3, g7, g8, g10, g11, g13, g14, g15, h15, hzb]
   refine ⟨by ((try simp only [wN]) <;> omega), i + 1, by omega, (r3' 1 (by omega)).trans g1, (r3' 2 (by omega)).trans (g2.trans f2), (r3' 3 (by omega)).trans g3, (r3' 7 (by omega)).trans (g7.trans f7), (r3' 8 (by omega)).trans (g8.trans f8), (r3' 10 (by omega)).trans g10, (r3' 11 (by omega)).trans (g11.trans f11), (r3' 13 (by omega)).trans g13, (r3' 14 (by omega)).trans (g14.trans f14), rfl, by omega, by ((try simp only [wM]); (repeat first | rw [if_pos trivial] | rw [if_pos rfl] | rw [if_neg (by omega)])); exact r1, fun id h1 h2 => ?_, fun t h1 => ?_⟩
   · ((try simp only [wM]); (repeat first | rw [if_pos trivial] | rw [if_pos rfl] | rw [if_neg (by omega)]))
     rw [r2 id h2]
     ((try simp only [wM]); (repeat first | rw [if_pos trivial] | rw [if_pos rfl] | rw [if_neg (by omega)]))
     rw [q5 id (by omega)]; exact k5_2 id h1 h2
   · ((try simp only [wL]); (repeat first | rw [if_pos trivial] | rw [if_pos rfl] | rw [if_neg (by omega)]))
     exact (r3' t (by omega)).trans (k5_3 t h1)
 · have e : i = n := by omega
   subst e
   repeat' with_reducible first
    | refine s_ ?_
    | simp -implicitDefEqProofs only [wZZ, seval, g1, g2, g3, g7, g8, g10, g11, g13, g14, g15, f2, f7, f8, f11, f14]
   refine hQ _ (by ((try simp only [wM]); (repeat first | rw [if_pos trivial] | rw [if_pos rfl] | rw [if_neg (by omega)])); exact k5_1) (fun id h1 h2 => by ((try simp only [wM]); (repeat first | rw [if_pos trivial] | rw [if_pos rfl] | rw [if_neg (by omega)])); exact k5_2 id h1 h2) (fun t h1 => ?_) (by ((try simp only [wN]) <;> omega))
   ((try simp only [wL]); (repeat first | rw [if_pos trivial] | rw [if_pos rfl] | rw [if_neg (by omega)])); exact k5_3 t h1

theorem cnt4 {s0 : St} {g : Grammar} {w : List Int} {n nn j B gb hi hn : Nat} {ids jds : Nat → Nat} {T : Tbl} {Q : Exit → St → Prop} (hg : Cnt g nn) (f2 : s0.f 2 = .sl 1 false (w.map (V.int .i64))) (f3 : s0.f 3 = .ptr gb 0 0) (f7 : s0.f 7 = vi n) (f8 : s0.f 8 = .msl hi 1 0 nn) (f11 : s0.f 11 = .msl hn 1 0 nn)
 (hgb : s0.H gb = some (.own 5 [g.V] false)) (hh : s0.H hi = some (.own 1 (rowsC nn (n * n) ids) false)) (hk0 : ∀ k, k < nn → s0.H (ids k) = some (.own 1 (vecN (n * n) (tabM n (T k))) false)) (hR : Rows s0.H B s0.next nn (n * n) hn nn (fun _ _ => 0) jds)
 (l0 : B ≤ s0.next) (l1 : gb < B) (l2 : hi < B) (l3 : hn < B) (l4 : ∀ k, k < nn → ids k < B) (hjw : j = w.length) (hj : j ≤ 24) (hnj : n = j + 1) (hT : ∀ k a b, T k a b ≤ 2)
 (hQ : ∀ s', Rows s'.H B s'.next nn (n * n) hn nn (fun k => tabM n (sumT T g.prods w k)) jds → (∀ id, id < B → s'.H id = s0.H id) → (∀ t, t < 13 → s'.f t = s0.f t) → s0.next ≤ s'.next → Q .normal s') : ewp Try.prog e14n91 Q s0 := by
 have hpl := hg.pb
 have h0 : (fun k => tabM n (sumT T (g.prods.take 0) w k)) = fun _ _ => 0 := by
  rw [List.take_zero, sumT_0]; rfl
 repeat' with_reducible first
  | refine s_ ?_
  | simp -implicitDefEqProofs only [wZZ, seval, f2, f3, f7, f8, f11]
 refine ewp_loopN ?nx4 (fun (m : Nat) s => s.f 1 = ?v4_1 ∧ s.f 2 = ?v4_2 ∧ s.f 3 = ?v4_3 ∧ s.f 7 = ?v4_7 ∧ s.f 8 = ?v4_8 ∧ s.f 10 = ?v4_10 ∧ s.f 11 = ?v4_11 ∧ s.f 13 = vi m ∧ (m ≤ g.prods.length) ∧ ((Rows s.H B s.next nn (n * n) hn nn (fun k => tabM n (sumT T (g.prods.take m) w k)) jds)) ∧ ((∀ id, id < B → s.H id = s0.H id)) ∧ ((∀ t, t < 13 → s.f t = s0.f t))) (fun m => g.prods.length - m) (0) wj_ (by refine ⟨?_, ?_, ?_, ?_, ?_, ?_, ?_, ?_, (by first | omega | (simp; done) | assumption), (by rw [h0]; exact hR.mono (by omega) (by ((try simp only [wN]) <;> omega)) (fun j _ => by ((try simp only [wM]); (repeat first | rw [if_pos trivial] | rw [if_pos rfl] | rw [if_neg (by omega)])))), (by intro id h1; ((try simp only [wM]); (repeat first | rw [if_pos trivial] | rw [if_pos rfl] | rw [if_neg (by omega)]))), (by intro t h1; ((try simp only [wL]); (repeat first | rw [if_pos trivial] | rw [if_pos rfl] | rw [if_neg (by omega)])))⟩ <;> first | (simp -implicitDefEqProofs only [wL, wM, wN, wX, seval, Option.some.injEq] <;> exact wt_) | rfl | exact ⟨_, rfl⟩) ?_
 intro m s hnx ⟨g1, g2, g3, g7, g8, g10, g11, g13, k4_0, k4_1, k4_2, k4_3⟩
 have og := (k4_2 _ l1).trans hgb
 have hzb : IntKind.i64.wrap ((m + 1 : Nat) : Int) = ((m + 1 : Nat) : Int) := wrap64 (by omega) (by omega)
 by_cases hm : m < g.prods.length
 · have hmem := List.getElem_mem hm
   have hgp : g.prods[m]? = some g.prods[m] := List.getElem?_eq_getElem hm
   have htk : g.prods.take (m + 1) = g.prods.take m ++ [g.prods[m]] := by rw [List.take_add_one, hgp]; rfl
   obtain ⟨lf, hl1, hl2⟩ := hg.pl _ hmem
   have hpr := hg.pr _ hmem
   have hrb := hg.rb _ hmem
   generalize g.prods[m] = p at *
   have hsn := sumT_snoc (T := T) (l := g.prods.take m) (p := p) (w := w) (n := n) (lf := lf) (by rw [hl1]; rfl)
   rw [← htk] at hsn
   have li := k4_1.li lf hl2
   have W : ∀ (s1 : St) (Q : Exit → St → Prop) (pb : Nat), s1.f 2 = .sl 1 false (w.map (V.int .i64)) → s1.f 7 = vi n → s1.f 8 = .msl hi 1 0 nn → s1.f 11 = .msl hn 1 0 nn → s1.f 14 = .ptr pb 0 0 → s1.H pb = some (.own 6 [p.V] false) → s.next ≤ pb → pb < s1.next → (∀ id, id < s.next → s1.H id = s.H id) →
    (∀ s', s'.H (jds lf) = some (.own 1 (vecN (n * n) (tabM n (sumT T (g.prods.take (m + 1)) w lf))) false) → (∀ id, id < s1.next → id ≠ jds lf → s'.H id = s1.H id) → (∀ t, t < 15 → s'.f t = s1.f t) → s1.next ≤ s'.next → Q .normal s') → ewp Try.prog e14n83 Q s1 := by
    intro s1 Q pb q2 q7 q8 q11 q14 qp qb qb2 qH qQ
    rw [← hsn.2] at qQ
    exact cnt5 (p := p) (pb := pb) (hi := hi) (hn := hn) (ids := ids) (jds := jds) (N := sumT T (g.prods.take m) w lf) q2 q7 q8 q11 q14 qp (by rw [qH _ (by omega), k4_2 _ l2]; exact hh) (fun k hk => by have := l4 k hk; rw [qH _ (by omega), k4_2 _ this]; exact hk0 k hk) (by rw [qH _ (by omega), k4_1.ho, rowsP_all]) (by rw [qH _ (by omega)]; exact k4_1.hr lf hl2) (by omega) (by omega) (by omega) (fun k hk => by have := l4 k hk; omega) (by omega) (by omega) (by omega) (fun k hk => by have := l4 k hk; omega) (by omega) hjw hj hnj hpr hrb hl1 hl2 hg.nb (fun a b => sumT_le _ _ _ _ _ _) hT qQ
   show ewp _ (.seq e14n57 (.seq (.block 7 (.seq (.reg e14r58) e14n83)) (.reg e14r86))) _ _
   generalize e14n83 = E83 at W
   obtain ⟨pl, pr, pc, pco, pa, pat⟩ := p
   repeat' with_reducible first
    | refine s_ ?_
    | simp -implicitDefEqProofs only [wZZ, seval, g1, g2, g3, g7, g8, g10, g11, g13, f2, f3, f7, f8, f11, og, hzb]
    | (refine condQ_j (fun h h_ => ?_) (fun h h_ => ?_) <;> (try simp only [wD, reduceCtorEq] at h_) <;> (try exact wb_) <;> (try simp only [h]))
    | (apply ia_slQ; (focus omega); (focus with_unfolding_all exact hgp))
    | (apply ldQ_cell; (exact wu_))
    | (apply stQ_whole; (exact wu_); (exact wu_))
   refine W _ _ (s.next + 5 + 5) (by (simp -implicitDefEqProofs only [wL, seval, f2, g2])) (by (simp -implicitDefEqProofs only [wL, seval, f7, g7])) (by (simp -implicitDefEqProofs only [wL, seval, f8, g8])) (by (simp -implicitDefEqProofs only [wL, seval, f11, g11])) (by (simp -implicitDefEqProofs only [wL, seval])) (by ((try simp only [wM]); (repeat first | rw [if_pos trivial] | rw [if_pos rfl] | rw [if_neg (by omega)]))) (by omega) (by ((try simp only [wN]) <;> omega)) (fun id hid => by ((try simp only [wM]); (repeat first | rw [if_pos trivial] | rw [if_pos rfl] | rw [if_neg (by omega)]))) (fun s2 r1 r2 r3 r4 => ?_)
   have r3' : ∀ t, t < 14 → s2.f t = s.f t := fun t h1 => by
    rw [r3 t (by omega)]
    ((try simp only [wL]); (repeat first | rw [if_pos trivial] | rw [if_pos rfl] | rw [if_neg (by omega)]))
   have h13 := (r3' 13 (by omega)).trans g13
   (try simp only [wN] at r4 r2)
   repeat' with_reducible first
    | refine s_ ?_
    | simp -implicitDefEqProofs only [wZZ, seval, g1, g2, g3, g7, g8, g10, g11, g13, h13, hzb]
   refine ⟨by ((try simp only [wN]) <;> omega), m + 1, by omega, (r3' 1 (by omega)).trans g1, (r3' 2 (by omega)).trans (g2.trans f2), (r3' 3 (by omega)).trans (g3.trans f3), (r3' 7 (by omega)).trans (g7.trans f7), (r3' 8 (by omega)).trans (g8.trans f8), (r3' 10 (by omega)).trans g10, (r3' 11 (by omega)).trans (g11.trans f11), rfl, by omega, ?_, fun id h1 => ?_, fun t h1 => ?_⟩
   · refine k4_1.put (k := lf) hl2 l3 (by ((try simp only [wN]) <;> omega)) (by ((try simp only [wM]); (repeat first | rw [if_pos trivial] | rw [if_pos rfl] | rw [if_neg (by omega)])); exact r1) (fun q hq => by rw [hsn.1 q hq]) (fun q h1 h2 => ?_) (by omega)
     ((try simp only [wM]); (repeat first | rw [if_pos trivial] | rw [if_pos rfl] | rw [if_neg (by omega)]))
     rw [r2 q (by omega) h2]
     ((try simp only [wM]); (repeat first | rw [if_pos trivial] | rw [if_pos rfl] | rw [if_neg (by omega)]))
   · ((try simp only [wM]); (repeat first | rw [if_pos trivial] | rw [if_pos rfl] | rw [if_neg (by omega)]))
     rw [r2 id (by omega) (by omega)]
     ((try simp only [wM]); (repeat first | rw [if_pos trivial] | rw [if_pos rfl] | rw [if_neg (by omega)]))
     exact k4_2 id h1
   · ((try simp only [wL]); (repeat first | rw [if_pos trivial] | rw [if_pos rfl] | rw [if_neg (by omega)]))
     exact (r3' t (by omega)).trans (k4_3 t h1)
 · have e : m = g.prods.length := by omega
   subst e
   rw [List.take_length] at k4_1
   repeat' with_reducible first
    | refine s_ ?_
    | simp -implicitDefEqProofs only [wZZ, seval, g1, g2, g3, g7, g8, g10, g11, g13, f2, f3, f7, f8, f11, og]
    | (apply ldQ_cell; (exact wu_))
   refine hQ _ (k4_1.mono (by omega) (by ((try simp only [wN]) <;> omega)) (fun j _ => by ((try simp only [wM]); (repeat first | rw [if_pos trivial] | rw [if_pos rfl] | rw [if_neg (by omega)])))) (fun id h1 => by ((try simp only [wM]); (repeat first | rw [if_pos trivial] | rw [if_pos rfl] | rw [if_neg (by omega)])); exact k4_2 id h1) (fun t h1 => ?_) (by ((try simp only [wN]) <;> omega))
   ((try simp only [wL]); (repeat first | rw [if_pos trivial] | rw [if_pos rfl] | rw [if_neg (by omega)])); exact k4_3 t h1
end Go.Proofs
