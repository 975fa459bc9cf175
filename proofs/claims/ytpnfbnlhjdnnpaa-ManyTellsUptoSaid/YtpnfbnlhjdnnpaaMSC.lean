/- Part of a proof that a law of the given program answers true. -/
import Derived.Test.YtpnfbnlhjdnnpaaMSB
import Derived.Test.YtpnfbnlhjdnnpaaMHE
set_option linter.unusedSimpArgs false
set_option linter.unusedVariables false
set_option maxHeartbeats 4000000
namespace Go.Proofs
open Go.E
theorem vecN_init {n i j : Nat} (h : i ≤ j) : vecN n (upd (fun _ => 0) i 1) = vecN n (cutJ (fun b => if b = i then 1 else 0) j) := by
 refine vecN_ext fun b _ => ?_
 unfold upd cutJ
 by_cases e : b = i
 · subst e; simp [h]
 · simp [e]
theorem rowE {H : Nat → Option MObj} {next : Nat} {w right : List Int} {n nn i j hi : Nat} {ids : Nat → Nat} {T : Tbl} (hh : H hi = some (.own 1 (rowsC nn (n * n) ids) false)) (hk0 : ∀ k, k < nn → H (ids k) = some (.own 1 (vecN (n * n) (tabM n (T k))) false)) (lh : hi < next) (lk : ∀ k, k < nn → ids k < next) (hjw : j = w.length) (hj : j ≤ 24) (hnj : n = j + 1) (hij : i ≤ j) (hr : ∀ s ∈ right, s < 1000 ∨ ∃ k : Nat, s = 1000 + (k : Int) ∧ k < nn) (hnn : nn ≤ 1000000) (hl : right.length ≤ 1000000) (hT : ∀ k a b, T k a b ≤ 2) : ECalls Try.prog 31 [.msl hi 1 0 nn, .sl 1 false (w.map (V.int .i64)), vi n, .sl 1 false (right.map (V.int .i64)), vi i] H next (fun v H' n' => next ≤ n' ∧ (∃ id, v = .msl id 1 0 n ∧ next ≤ id ∧ id < n' ∧ H' id = some (.own 1 (vecN n (waysV T w i right)) false)) ∧ ∀ j, j < next → H' j = H j) := by
 refine ecalls_intro Try.func31 e31_nm e31_ok (by show 5 ≤ 112; decide) ?_
 show ewp _ e31n59 _ _
 have hn0 := vecN_0 n
 repeat' with_reducible first
  | refine s_ ?_
  | simp -implicitDefEqProofs only [wZZ, seval, hn0]
  | (apply mkQ_T; (focus omega); (focus omega); (focus (unfold maxLen; omega)))
  | (apply ia_mslQ; (focus omega); (focus omega))
  | (refine stV1 (by omega) ?_)
 rw [vecN_init hij]
 refine ewp_loopN ?nx1 (fun (p : Nat × Nat) s => s.f 0 = ?v1_0 ∧ s.f 1 = ?v1_1 ∧ s.f 2 = ?v1_2 ∧ s.f 3 = ?v1_3 ∧ s.f 4 = ?v1_4 ∧ s.f 11 = .msl p.2 1 0 n ∧ s.f 12 = vi p.1 ∧ (p.1 ≤ right.length) ∧ (next ≤ p.2) ∧ (p.2 < s.next) ∧ ((s.H p.2 = some (MObj.own 1 (vecN n (cutJ (waysV T w i (right.take p.1)) j)) false))) ∧ ((∀ j, j < next → s.H j = H j))) (fun p => right.length - p.1) ((0, next + 1 + 1)) wj_ (by refine ⟨?_, ?_, ?_, ?_, ?_, ?_, ?_, (by first | omega | (simp; done) | assumption), (by first | omega | (simp; done) | assumption), (by ((try simp only [wN]) <;> omega)), (by ((try simp only [wM]); (repeat first | rw [if_pos trivial] | rw [if_pos rfl] | rw [if_neg (by omega)])); rfl), (by intro j hj; ((try simp only [wM]); (repeat first | rw [if_pos trivial] | rw [if_pos rfl] | rw [if_neg (by omega)])))⟩ <;> first | (simp -implicitDefEqProofs only [wL, wM, wN, wX, seval, Option.some.injEq] <;> exact wt_) | rfl | exact ⟨_, rfl⟩) ?_
 intro p s hnx ⟨g0, g1, g2, g3, g4, g11, g12, k1_0, k1_1, k1_2, k1_3, k1_4⟩
 obtain ⟨r, ia⟩ := p
 dsimp only at *
 obtain ⟨hv, hlow⟩ := waysV_le T w i (right.take r)
 by_cases hr2 : r < right.length
 · have hgr : right[r]? = some right[r] := List.getElem?_eq_getElem hr2
   have htk : right.take (r + 1) = right.take r ++ [right[r]] := by rw [List.take_add_one, hgr]; rfl
   have hst : waysV T w i (right.take (r + 1)) = stepN T w right[r] (waysV T w i (right.take r)) := by rw [htk, waysV_snoc]
   have hsr := hr _ (List.getElem_mem hr2)
   have hzr : IntKind.i64.wrap ((r + 1 : Nat) : Int) = ((r + 1 : Nat) : Int) := wrap64 (by omega) (by omega)
   generalize right[r] = sy at *
   have W : ∀ (s1 : St) (Q : Exit → St → Prop) (ib : Nat), s1.f 0 = .msl hi 1 0 nn → s1.f 1 = .sl 1 false (w.map (V.int .i64)) → s1.f 2 = vi n → s1.f 3 = .sl 1 false (right.map (V.int .i64)) → s1.f 4 = vi i → s1.f 11 = .msl ia 1 0 n → s1.f 12 = vi r → s1.f 13 = .msl ib 1 0 n → s.next ≤ ib → (∀ id, id < s.next → s1.H id = s.H id) → s1.H ib = some (.own 1 (vecN n (fun _ => 0)) false) →
    (∀ s', s'.H ib = some (.own 1 (vecN n (cutJ (waysV T w i (right.take (r + 1))) j)) false) → (∀ id, id ≠ ib → s'.H id = s1.H id) → (∀ t, t < 29 → t ≠ 14 → t ≠ 15 → s'.f t = s1.f t) → s1.next ≤ s'.next → Q .normal s') → ewp Try.prog e31n43 Q s1 := by
    intro s1 Q ib q0 q1 q2 q3 q4 q11 q12 q13 qb qH qib qQ
    rw [hst] at qQ
    exact rowA (v := waysV T w i (right.take r)) q0 q1 q2 q3 q4 q11 q12 q13 (by rw [qH ia (by omega)]; exact k1_3) qib (by rw [qH hi (by omega), k1_4 hi lh]; exact hh) (fun k hk => by have := lk k hk; rw [qH (ids k) (by omega), k1_4 _ this]; exact hk0 k hk) (by omega) (by omega) (fun k hk => by have := lk k hk; omega) hjw hj hnj hij hgr hsr hnn hv hlow hT qQ
   show ewp _ (.seq (.seq (.reg e31r4) e31n5) (.seq (.block 1 (.seq (.reg e31r7) (.seq e31n43 (.reg e31r44)))) (.reg e31r48))) _ _
   generalize e31n43 = E43 at W
   repeat' with_reducible first
    | refine s_ ?_
    | simp -implicitDefEqProofs only [wZZ, seval, g0, g1, g2, g3, g4, g11, g12, hn0]
    | (refine condQ_j (fun h h_ => ?_) (fun h h_ => ?_) <;> (try simp only [wD, reduceCtorEq] at h_) <;> (try exact wb_) <;> (try simp only [h]))
    | (apply mkQ_T; (focus omega); (focus omega); (focus (unfold maxLen; omega)))
   refine W _ _ (s.next + 4 + 1) (by (simp -implicitDefEqProofs only [wL, seval, g0])) (by (simp -implicitDefEqProofs only [wL, seval, g1])) (by (simp -implicitDefEqProofs only [wL, seval, g2])) (by (simp -implicitDefEqProofs only [wL, seval, g3])) (by (simp -implicitDefEqProofs only [wL, seval, g4])) (by (simp -implicitDefEqProofs only [wL, seval, g11])) (by (simp -implicitDefEqProofs only [wL, seval, g12])) (by (simp -implicitDefEqProofs only [wL, seval])) (by omega) (fun id hid => by ((try simp only [wM]); (repeat first | rw [if_pos trivial] | rw [if_pos rfl] | rw [if_neg (by omega)]))) (by ((try simp only [wM]); (repeat first | rw [if_pos trivial] | rw [if_pos rfl] | rw [if_neg (by omega)]))) (fun s2 r1 r2 r3 r4 => ?_)
   have r3' : ∀ t, t < 13 → s2.f t = s.f t := fun t h1 => by
    rw [r3 t (by omega) (by omega) (by omega)]
    ((try simp only [wL]); (repeat first | rw [if_pos trivial] | rw [if_pos rfl] | rw [if_neg (by omega)]))
   have h12 := (r3' 12 (by omega)).trans g12
   have h13 : s2.f 13 = .msl (s.next + 4 + 1) 1 0 n := (r3 13 (by omega) (by omega) (by omega)).trans (by (simp -implicitDefEqProofs only [wL, seval]))
   (try simp only [wN] at r4)
   repeat' with_reducible first
    | refine s_ ?_
    | simp -implicitDefEqProofs only [wZZ, seval, g0, g1, g2, g3, g4, g11, g12, h12, h13, hzr]
   refine ⟨by ((try simp only [wN]) <;> omega), (r + 1, s.next + 4 + 1), by dsimp only; omega, (r3' 0 (by omega)).trans g0, (r3' 1 (by omega)).trans g1, (r3' 2 (by omega)).trans g2, (r3' 3 (by omega)).trans g3, (r3' 4 (by omega)).trans g4, rfl, rfl, by dsimp only; omega, by dsimp only; omega, by dsimp only; ((try simp only [wN]) <;> omega), ?_, fun q hq => ?_⟩
   · ((try simp only [wM]); (repeat first | rw [if_pos trivial] | rw [if_pos rfl] | rw [if_neg (by omega)])); exact r1
   · ((try simp only [wM]); (repeat first | rw [if_pos trivial] | rw [if_pos rfl] | rw [if_neg (by omega)]))
     rw [r2 q (by omega)]
     ((try simp only [wM]); (repeat first | rw [if_pos trivial] | rw [if_pos rfl] | rw [if_neg (by omega)]))
     exact k1_4 q hq
 · rw [List.take_of_length_le (by omega)] at k1_3
   repeat' with_reducible first
    | refine s_ ?_
    | simp -implicitDefEqProofs only [wZZ, seval, g0, g1, g2, g3, g4, g11, g12]
    | (refine condQ_j (fun h h_ => ?_) (fun h h_ => ?_) <;> (try simp only [wD, reduceCtorEq] at h_) <;> (try exact wb_) <;> (try simp only [h]))
   refine heap1 rfl (Or.inr rfl) ⟨by ((try simp only [wN]) <;> omega), ⟨ia, by (simp -implicitDefEqProofs only [wL, seval, g11]), k1_1, by ((try simp only [wN]) <;> omega), ?_⟩, fun j hj => by ((try simp only [wM]); (repeat first | rw [if_pos trivial] | rw [if_pos rfl] | rw [if_neg (by omega)])); exact k1_4 j hj⟩
   ((try simp only [wM]); (repeat first | rw [if_pos trivial] | rw [if_pos rfl] | rw [if_neg (by omega)]))
   rw [k1_3]
   refine congrArg (fun l => some (MObj.own 1 l false)) (vecN_ext fun b hb => ?_)
   unfold cutJ; rw [if_pos (by omega)]

def rowsP (nn z : Nat) (ids : Nat → Nat) (m : Nat) : List V := (List.range nn).map fun k => if k < m then .msl (ids k) 1 0 z else .sl 1 true []
theorem rowsP_len (nn z : Nat) (ids : Nat → Nat) (m : Nat) : (rowsP nn z ids m).length = nn := by simp [rowsP]
theorem rowsP_get {nn z m k : Nat} {ids : Nat → Nat} (h : k < nn) : (rowsP nn z ids m)[k]? = some (if k < m then .msl (ids k) 1 0 z else .sl 1 true []) := by simp [rowsP, h]
theorem rowsP_0 (nn z : Nat) (ids : Nat → Nat) : List.replicate nn (V.sl 1 true []) = rowsP nn z ids 0 := by
 refine List.ext_getElem? fun i => ?_
 by_cases h : i < nn
 · rw [rowsP_get h]; simp [h]
 · rw [List.getElem?_eq_none (by simp; omega), List.getElem?_eq_none (by rw [rowsP_len]; omega)]
theorem rowsP_all (nn z : Nat) (ids : Nat → Nat) : rowsP nn z ids nn = rowsC nn z ids := by
 unfold rowsP rowsC
 refine List.map_congr_left fun k hk => ?_
 rw [if_pos (List.mem_range.1 hk)]
theorem rowsP_set {nn z m id : Nat} {ids : Nat → Nat} (h : m < nn) : (rowsP nn z ids m).set m (.msl id 1 0 z) = rowsP nn z (upd ids m id) (m + 1) := by
 refine List.ext_getElem? fun i => ?_
 rw [List.getElem?_set]
 by_cases hi : i < nn
 · rw [rowsP_get hi, rowsP_len, rowsP_get hi]
   by_cases e : m = i
   · subst e; simp [hi, upd]
   · by_cases h2 : i < m
     · rw [if_neg e, if_pos h2, if_pos (by omega)]; simp [upd, Ne.symm e]
     · rw [if_neg e, if_neg h2, if_neg (by omega)]
 · rw [List.getElem?_eq_none (by rw [rowsP_len]; omega), List.getElem?_eq_none (by rw [rowsP_len]; omega)]
   rw [rowsP_len]; simp; omega
theorem stR {K : St → Prop} {s : St} {nn z m id hi : Nat} {ids : Nat → Nat} (h : m < nn) (hk : K (s.setO hi (some (.own 1 (rowsP nn z (upd ids m id) (m + 1)) false)))) : onS (stQ s (some (.own 1 (rowsP nn z ids m) false)) 1 hi m 0 (.msl id 1 0 z)) K := by
 have e : stQ s (some (.own 1 (rowsP nn z ids m) false)) 1 hi m 0 (.msl id 1 0 z) = some (s.setO hi (some (.own 1 (rowsP nn z (upd ids m id) (m + 1)) false))) := by
  rw [← rowsP_set h]
  simp [stQ, rowsP_get h, V.cells, V.okCell, storeE, V.isAgg]
 rw [e]; exact hk
structure Rows (H : Nat → Option MObj) (base next nn z hi m : Nat) (C : Nat → Nat → Nat) (ids : Nat → Nat) : Prop where
 ho : H hi = some (.own 1 (rowsP nn z ids m) false)
 hr : ∀ k, k < m → H (ids k) = some (.own 1 (vecN z (C k)) false)
 li : ∀ k, k < m → base ≤ ids k ∧ ids k < next
 inj : ∀ j k, j < m → k < m → ids j = ids k → j = k
theorem Rows.snoc {H H' : Nat → Option MObj} {base next next' nn z hi m id : Nat} {C : Nat → Nat → Nat} {ids : Nat → Nat} (h : Rows H base next nn z hi m C ids) (hb : hi < base) (hb2 : base ≤ next) (h1 : H' hi = some (.own 1 (rowsP nn z (upd ids m id) (m + 1)) false)) (h2 : H' id = some (.own 1 (vecN z (C m)) false))
 (h3 : next ≤ id) (h4 : id < next') (h5 : next ≤ next') (hH : ∀ j, j < next → j ≠ hi → H' j = H j) : Rows H' base next' nn z hi (m + 1) C (upd ids m id) := by
 refine ⟨h1, fun k hk => ?_, fun k hk => ?_, fun j k hj hk e => ?_⟩
 · unfold upd
   by_cases e : k = m
   · subst e; rw [if_pos rfl]; exact h2
   · rw [if_neg e]
     have := h.li k (by omega)
     rw [hH _ this.2 (by omega)]; exact h.hr k (by omega)
 · unfold upd
   by_cases e : k = m
   · rw [if_pos e]; omega
   · rw [if_neg e]; have := h.li k (by omega); omega
 · unfold upd at e
   by_cases e1 : j = m
   · by_cases e2 : k = m
     · omega
     · rw [if_pos e1, if_neg e2] at e; have := h.li k (by omega); omega
   · by_cases e2 : k = m
     · rw [if_neg e1, if_pos e2] at e; have := h.li j (by omega); omega
     · rw [if_neg e1, if_neg e2] at e; exact h.inj j k (by omega) (by omega) e
theorem Rows.init {H : Nat → Option MObj} {base next nn z hi : Nat} {C : Nat → Nat → Nat} (h : H hi = some (.own 1 (List.replicate nn (V.sl 1 true [])) false)) : Rows H base next nn z hi 0 C (fun _ => 0) :=
 ⟨by rw [h, rowsP_0], fun k hk => by omega, fun k hk => by omega, fun j k hj => by omega⟩
theorem Rows.mono {H H' : Nat → Option MObj} {base next next' nn z hi m : Nat} {C : Nat → Nat → Nat} {ids : Nat → Nat} (h : Rows H base next nn z hi m C ids) (hb : hi < next) (hn : next ≤ next') (hH : ∀ j, j < next → H' j = H j) : Rows H' base next' nn z hi m C ids :=
 ⟨(hH _ hb).trans h.ho, fun k hk => (hH _ (h.li k hk).2).trans (h.hr k hk), fun k hk => by have := h.li k hk; omega, h.inj⟩
theorem Rows.put {H H' : Nat → Option MObj} {base next next' nn z hi m k : Nat} {C C' : Nat → Nat → Nat} {ids : Nat → Nat} (h : Rows H base next nn z hi m C ids) (hk : k < m) (hb : hi < base) (hn : next ≤ next') (h1 : H' (ids k) = some (.own 1 (vecN z (C' k)) false)) (hC : ∀ q, q ≠ k → C' q = C q) (hH : ∀ j, j < next → j ≠ ids k → H' j = H j) (hbn : base ≤ next) : Rows H' base next' nn z hi m C' ids := by
 have hk2 := h.li k hk
 refine ⟨(hH _ (by omega) (by omega)).trans h.ho, fun q hq => ?_, fun q hq => by have := h.li q hq; omega, h.inj⟩
 by_cases e : q = k
 · subst e; exact h1
 · have hq2 := h.li q hq
   rw [hH _ hq2.2 (fun e2 => e (h.inj q k hq hk e2)), hC q e]; exact h.hr q hq
theorem tab_ext {n : Nat} {t t' : Nat → Nat → Nat} (h : ∀ a b, a < n → b < n → t a b = t' a b) : vecN (n * n) (tabM n t) = vecN (n * n) (tabM n t') := by
 refine vecN_ext fun q hq => ?_
 unfold tabM
 have hn : 0 < n := Nat.pos_of_ne_zero fun e => by subst e; simp at hq
 exact h _ _ (Nat.div_lt_of_lt_mul hq) (Nat.mod_lt _ hn)
def addW (N : Nat → Nat → Nat) (W : Nat → Nat) (i c : Nat) : Nat → Nat → Nat := fun a b => if a = i ∧ i ≤ b ∧ b < c then min 2 (N a b + W b) else N a b
theorem addW_0 (N : Nat → Nat → Nat) (W : Nat → Nat) (i : Nat) : addW N W i i = N := by
 funext a b; unfold addW; rw [if_neg (by omega)]
theorem addW_succ {N : Nat → Nat → Nat} {W : Nat → Nat} {n i b : Nat} (hi : i < n) (hb : b < n) (hib : i ≤ b) : vecN (n * n) (upd (tabM n (addW N W i b)) (i * n + b) (min 2 (N i b + W b))) = vecN (n * n) (tabM n (addW N W i (b + 1))) := by
 refine vecN_ext fun q hq => ?_
 have hn : 0 < n := by omega
 unfold upd
 by_cases e : q = i * n + b
 · rw [if_pos e, e, tabM_at hb]
   unfold addW; rw [if_pos ⟨rfl, hib, by omega⟩]
 · rw [if_neg e]
   unfold tabM addW
   have hne : ¬ (q / n = i ∧ q % n = b) := fun h => e (by
    have := Nat.div_add_mod q n
    rw [h.1, h.2, Nat.mul_comm] at this; omega)
   by_cases h : q / n = i ∧ i ≤ q % n ∧ q % n < b
   · rw [if_pos h, if_pos (by omega)]
   · rw [if_neg h, if_neg (by omega)]
def addF (N : Nat → Nat → Nat) (T : Tbl) (w right : List Int) (c : Nat) : Nat → Nat → Nat := fun a b => if a < c ∧ a ≤ b then min 2 (N a b + waysN T w right a b) else N a b
theorem addF_0 (N : Nat → Nat → Nat) (T : Tbl) (w right : List Int) : addF N T w right 0 = N := by
 funext a b; unfold addF; rw [if_neg (by omega)]
theorem addF_succ {N : Nat → Nat → Nat} {T : Tbl} {w right : List Int} {n i : Nat} : vecN (n * n) (tabM n (addW (addF N T w right i) (waysV T w i right) i n)) = vecN (n * n) (tabM n (addF N T w right (i + 1))) := by
 refine tab_ext fun a b ha hb => ?_
 unfold addW addF
 by_cases e : a = i
 · subst e
   by_cases h : a ≤ b
   · rw [if_pos ⟨rfl, h, hb⟩, if_neg (by omega), if_pos ⟨by omega, h⟩]; rfl
   · rw [if_neg (by omega), if_neg (by omega), if_neg (by omega)]
 · rw [if_neg (by omega)]
   by_cases h : a < i ∧ a ≤ b
   · rw [if_pos h, if_pos ⟨by omega, h.2⟩]
   · rw [if_neg h, if_neg (by omega)]
def sumT (T : Tbl) (prods : List GPr) (w : List Int) : Tbl := fun k a b => if a ≤ b then sumP T prods w a b k else 0
theorem sumT_0 (T : Tbl) (w : List Int) : sumT T [] w = fun _ _ _ => 0 := by
 funext k a b; unfold sumT; split <;> rfl
theorem sumT_snoc {T : Tbl} {l : List GPr} {p : GPr} {w : List Int} {n lf : Nat} (hp : p.left.toNat = lf) : (∀ k, k ≠ lf → sumT T (l ++ [p]) w k = sumT T l w k) ∧ vecN (n * n) (tabM n (addF (sumT T l w lf) T w p.right n)) = vecN (n * n) (tabM n (sumT T (l ++ [p]) w lf)) := by
 refine ⟨fun k hk => ?_, tab_ext fun a b ha hb => ?_⟩
 · funext a b
   unfold sumT
   split
   · rw [sumP_snoc]; unfold sumS upd; rw [if_neg (by omega)]
   · rfl
 · unfold addF sumT
   by_cases h : a ≤ b
   · rw [if_pos ⟨ha, h⟩, if_pos h, if_pos h, sumP_snoc]
     unfold sumS upd
     rw [if_pos hp.symm, hp]
   · rw [if_neg (by omega), if_neg h, if_neg h]
theorem sumT_le (T : Tbl) (l : List GPr) (w : List Int) (k a b : Nat) : sumT T l w k a b ≤ 2 := by
 unfold sumT; split
 · exact sumP_le _ _ _ _ _ _
 · omega
def itT (l : List GPr) (w : List Int) : Nat → Tbl
 | 0 => fun _ _ _ => 0
 | m + 1 => sumT (itT l w m) l w
theorem itT_le (l : List GPr) (w : List Int) : ∀ m k a b, itT l w m k a b ≤ 2
 | 0, _, _, _ => Nat.zero_le _
 | m + 1, k, a, b => sumT_le _ _ _ _ _ _
theorem itT_up (l : List GPr) (w : List Int) : ∀ m, LeT (itT l w m) (itT l w (m + 1))
 | 0 => fun _ _ _ => Nat.zero_le _
 | m + 1 => fun k a b => by
   show sumT (itT l w m) l w k a b ≤ sumT (itT l w (m + 1)) l w k a b
   unfold sumT; split
   · exact sumP_mono (itT_up l w m) l a b k
   · exact Nat.le_refl _
theorem itT_min {g : Grammar} {nn : Nat} {w : List Int} (hg : Cnt g nn) {U : Tbl} (hU : PreT g nn w U) : ∀ m k a b, k < nn → a ≤ b → b ≤ w.length → itT g.prods w m k a b ≤ U k a b
 | 0, _, _, _, _, _, _ => Nat.zero_le _
 | m + 1, k, a, b, hk, hab, hb => by
   show sumT (itT g.prods w m) g.prods w k a b ≤ _
   unfold sumT; rw [if_pos hab]
   exact Nat.le_trans (sumP_loc (fun k a' b' hk h1 h2 h3 => itT_min hg hU m k a' b' hk h2 (by omega)) g.prods hg.pr k) (hU k a b hk hab hb)
theorem itT_done {g : Grammar} {nn m : Nat} {w : List Int} (hg : Cnt g nn) (h : ∀ k a b, k < nn → a ≤ b → b ≤ w.length → itT g.prods w (m + 1) k a b = itT g.prods w m k a b) : IsCount g nn w (itT g.prods w m) := by
 refine ⟨itT_le _ _ m, fun k i j hk hi hj => ?_, fun U hU k i j hk hi hj => itT_min hg hU m k i j hk hi hj⟩
 rw [← h k i j hk hi hj]
 show _ = sumT (itT g.prods w m) g.prods w k i j
 unfold sumT; rw [if_pos hi]
def roomT (nn n : Nat) (T : Tbl) : Nat := sumN (fun k => sumN (fun q => 2 - tabM n (T k) q) (n * n)) nn
theorem roomT_lt {nn n : Nat} {T U : Tbl} (h : LeT T U) (h2 : ∀ k a b, U k a b ≤ 2) (hx : ∃ k, k < nn ∧ vecN (n * n) (tabM n (U k)) ≠ vecN (n * n) (tabM n (T k))) : roomT nn n U < roomT nn n T := by
 obtain ⟨k, hk, hne⟩ := hx
 refine sumN_lt (fun k _ => sumN_le fun q _ => ?_) ⟨k, hk, sumN_lt (fun q _ => ?_) ?_⟩
 · have := h k (q / n) (q % n)
   unfold tabM; omega
 · have := h k (q / n) (q % n)
   unfold tabM; omega
 · refine Classical.byContradiction fun hn => hne (vecN_ext fun q hq => ?_)
   refine Classical.byContradiction fun e => hn ⟨q, hq, ?_⟩
   have h1 := h k (q / n) (q % n)
   have h3 := h2 k (q / n) (q % n)
   unfold tabM at *
   omega

theorem cnt1 {s0 : St} {n nn hi : Nat} {Q : Exit → St → Prop} (f7 : s0.f 7 = vi n) (f8 : s0.f 8 = .msl hi 1 0 nn) (hh : s0.H hi = some (.own 1 (List.replicate nn (V.sl 1 true [])) false)) (lh : hi < s0.next) (hn : n ≤ 25) (hnn : nn ≤ 1000000)
 (hQ : ∀ s' ids, Rows s'.H s0.next s'.next nn (n * n) hi nn (fun _ _ => 0) ids → (∀ id, id < s0.next → id ≠ hi → s'.H id = s0.H id) → (∀ t, t < 45 → t ≠ 9 → s'.f t = s0.f t) → s0.next ≤ s'.next → Q .normal s') : ewp Try.prog e14n35 Q s0 := by
 have hqq : n * n ≤ 625 := Nat.le_trans (Nat.mul_le_mul hn hn) (by decide)
 have hm2 : (n : Int) * (n : Int) = ((n * n : Nat) : Int) := by simp
 have hz3 : IntKind.i64.wrap ((n * n : Nat) : Int) = ((n * n : Nat) : Int) := wrap64 (by omega) (by omega)
 have hv0 := vecN_0 (n * n)
 generalize hz : n * n = z at *
 repeat' with_reducible first
  | refine s_ ?_
  | simp -implicitDefEqProofs only [wZZ, seval, f7, f8]
 refine ewp_loopN ?nx1 (fun (i : Nat) s => s.f 1 = ?v1_1 ∧ s.f 2 = ?v1_2 ∧ s.f 3 = ?v1_3 ∧ s.f 7 = ?v1_7 ∧ s.f 8 = ?v1_8 ∧ s.f 9 = vi i ∧ (i ≤ nn) ∧ ((∃ ids, Rows s.H s0.next s.next nn z hi i (fun _ _ => 0) ids)) ∧ ((∀ id, id < s0.next → id ≠ hi → s.H id = s0.H id)) ∧ ((∀ t, t < 45 → t ≠ 9 → s.f t = s0.f t))) (fun i => nn - i) (0) wj_ (by refine ⟨?_, ?_, ?_, ?_, ?_, ?_, (by first | omega | (simp; done) | assumption), (by exact ⟨_, Rows.init (by ((try simp only [wM]); (repeat first | rw [if_pos trivial] | rw [if_pos rfl] | rw [if_neg (by omega)])); exact hh)⟩), (by intro id h1 h2; ((try simp only [wM]); (repeat first | rw [if_pos trivial] | rw [if_pos rfl] | rw [if_neg (by omega)]))), (by intro t h1 h2; ((try simp only [wL]); (repeat first | rw [if_pos trivial] | rw [if_pos rfl] | rw [if_neg (by omega)])))⟩ <;> first | (simp -implicitDefEqProofs only [wL, wM, wN, wX, seval, Option.some.injEq] <;> exact wt_) | rfl | exact ⟨_, rfl⟩) ?_
 intro i s hnx ⟨g1, g2, g3, g7, g8, g9, k1_0, k1_1, k1_2, k1_3⟩
 obtain ⟨ids, hR⟩ := k1_1
 have oh := hR.ho
 have hzb : IntKind.i64.wrap ((i + 1 : Nat) : Int) = ((i + 1 : Nat) : Int) := wrap64 (by omega) (by omega)
 by_cases hi2 : i < nn
 · repeat' with_reducible first
    | refine s_ ?_
    | simp -implicitDefEqProofs only [wZZ, seval, g1, g2, g3, g7, g8, g9, f7, f8, oh, hm2, hz3, hv0, hzb]
    | (refine condQ_j (fun h h_ => ?_) (fun h h_ => ?_) <;> (try simp only [wD, reduceCtorEq] at h_) <;> (try exact wb_) <;> (try simp only [h]))
    | (apply ia_mslQ; (focus omega); (focus omega))
    | (apply mkQ_T; (focus omega); (focus omega); (focus (unfold maxLen; omega)))
    | (refine stR hi2 ?_)
    | simp -implicitDefEqProofs (disch := omega) only [w64, if_neg]
   refine ⟨by ((try simp only [wN]) <;> omega), i + 1, by omega, ?_⟩; (repeat refine ⟨True.intro, ?_⟩); refine ⟨rfl, by omega, ⟨_, hR.snoc (id := s.next + 4 + 5) lh (by omega) (by ((try simp only [wM]); (repeat first | rw [if_pos trivial] | rw [if_pos rfl] | rw [if_neg (by omega)]))) (by ((try simp only [wM]); (repeat first | rw [if_pos trivial] | rw [if_pos rfl] | rw [if_neg (by omega)]))) (by omega) (by ((try simp only [wN]) <;> omega)) (by ((try simp only [wN]) <;> omega)) (fun j h1 h2 => by ((try simp only [wM]); (repeat first | rw [if_pos trivial] | rw [if_pos rfl] | rw [if_neg (by omega)])))⟩, fun id h1 h2 => ?_, fun t h1 h2 => ?_⟩
   · ((try simp only [wM]); (repeat first | rw [if_pos trivial] | rw [if_pos rfl] | rw [if_neg (by omega)])); exact k1_2 id h1 h2
   · ((try simp only [wL]); (repeat first | rw [if_pos trivial] | rw [if_pos rfl] | rw [if_neg (by omega)])); exact k1_3 t h1 h2
 · have e : i = nn := by omega
   subst e
   repeat' with_reducible first
    | refine s_ ?_
    | simp -implicitDefEqProofs only [wZZ, seval, g1, g2, g3, g7, g8, g9, f7, f8]
   refine hQ _ ids (hR.mono (by omega) (by ((try simp only [wN]) <;> omega)) (fun j _ => by ((try simp only [wM]); (repeat first | rw [if_pos trivial] | rw [if_pos rfl] | rw [if_neg (by omega)])))) (fun id h1 h2 => by ((try simp only [wM]); (repeat first | rw [if_pos trivial] | rw [if_pos rfl] | rw [if_neg (by omega)])); exact k1_2 id h1 h2) (fun t h1 h2 => ?_) (by ((try simp only [wN]) <;> omega))
   ((try simp only [wL]); (repeat first | rw [if_pos trivial] | rw [if_pos rfl] | rw [if_neg (by omega)])); exact k1_3 t h1 h2
theorem cnt3 {s0 : St} {n nn hi : Nat} {Q : Exit → St → Prop} (f7 : s0.f 7 = vi n) (f11 : s0.f 11 = .msl hi 1 0 nn) (hh : s0.H hi = some (.own 1 (List.replicate nn (V.sl 1 true [])) false)) (lh : hi < s0.next) (hn : n ≤ 25) (hnn : nn ≤ 1000000)
 (hQ : ∀ s' ids, Rows s'.H s0.next s'.next nn (n * n) hi nn (fun _ _ => 0) ids → (∀ id, id < s0.next → id ≠ hi → s'.H id = s0.H id) → (∀ t, t < 62 → t ≠ 12 → s'.f t = s0.f t) → s0.next ≤ s'.next → Q .normal s') : ewp Try.prog e14n53 Q s0 := by
 have hqq : n * n ≤ 625 := Nat.le_trans (Nat.mul_le_mul hn hn) (by decide)
 have hm2 : (n : Int) * (n : Int) = ((n * n : Nat) : Int) := by simp
 have hz3 : IntKind.i64.wrap ((n * n : Nat) : Int) = ((n * n : Nat) : Int) := wrap64 (by omega) (by omega)
 have hv0 := vecN_0 (n * n)
 generalize hz : n * n = z at *
 repeat' with_reducible first
  | refine s_ ?_
  | simp -implicitDefEqProofs only [wZZ, seval, f7, f11]
 refine ewp_loopN ?nx3 (fun (i : Nat) s => s.f 1 = ?v3_1 ∧ s.f 2 = ?v3_2 ∧ s.f 3 = ?v3_3 ∧ s.f 7 = ?v3_7 ∧ s.f 8 = ?v3_8 ∧ s.f 10 = ?v3_10 ∧ s.f 11 = ?v3_11 ∧ s.f 12 = vi i ∧ (i ≤ nn) ∧ ((∃ ids, Rows s.H s0.next s.next nn z hi i (fun _ _ => 0) ids)) ∧ ((∀ id, id < s0.next → id ≠ hi → s.H id = s0.H id)) ∧ ((∀ t, t < 62 → t ≠ 12 → s.f t = s0.f t))) (fun i => nn - i) (0) wj_ (by refine ⟨?_, ?_, ?_, ?_, ?_, ?_, ?_, ?_, (by first | omega | (simp; done) | assumption), (by exact ⟨_, Rows.init (by ((try simp only [wM]); (repeat first | rw [if_pos trivial] | rw [if_pos rfl] | rw [if_neg (by omega)])); exact hh)⟩), (by intro id h1 h2; ((try simp only [wM]); (repeat first | rw [if_pos trivial] | rw [if_pos rfl] | rw [if_neg (by omega)]))), (by intro t h1 h2; ((try simp only [wL]); (repeat first | rw [if_pos trivial] | rw [if_pos rfl] | rw [if_neg (by omega)])))⟩ <;> first | (simp -implicitDefEqProofs only [wL, wM, wN, wX, seval, Option.some.injEq] <;> exact wt_) | rfl | exact ⟨_, rfl⟩) ?_
 intro i s hnx ⟨g1, g2, g3, g7, g8, g10, g11, g12, k3_0, k3_1, k3_2, k3_3⟩
 obtain ⟨ids, hR⟩ := k3_1
 have oh := hR.ho
 have hzb : IntKind.i64.wrap ((i + 1 : Nat) : Int) = ((i + 1 : Nat) : Int) := wrap64 (by omega) (by omega)
 by_cases hi2 : i < nn
 · repeat' with_reducible first
    | refine s_ ?_
    | simp -implicitDefEqProofs only [wZZ, seval, g1, g2, g3, g7, g8, g10, g11, g12, f7, f11, oh, hm2, hz3, hv0, hzb]
    | (refine condQ_j (fun h h_ => ?_) (fun h h_ => ?_) <;> (try simp only [wD, reduceCtorEq] at h_) <;> (try exact wb_) <;> (try simp only [h]))
    | (apply ia_mslQ; (focus omega); (focus omega))
    | (apply mkQ_T; (focus omega); (focus omega); (focus (unfold maxLen; omega)))
    | (refine stR hi2 ?_)
    | simp -implicitDefEqProofs (disch := omega) only [w64, if_neg]
   refine ⟨by ((try simp only [wN]) <;> omega), i + 1, by omega, ?_⟩; (repeat refine ⟨True.intro, ?_⟩); refine ⟨rfl, by omega, ⟨_, hR.snoc (id := s.next + 4 + 5) lh (by omega) (by ((try simp only [wM]); (repeat first | rw [if_pos trivial] | rw [if_pos rfl] | rw [if_neg (by omega)]))) (by ((try simp only [wM]); (repeat first | rw [if_pos trivial] | rw [if_pos rfl] | rw [if_neg (by omega)]))) (by omega) (by ((try simp only [wN]) <;> omega)) (by ((try simp only [wN]) <;> omega)) (fun j h1 h2 => by ((try simp only [wM]); (repeat first | rw [if_pos trivial] | rw [if_pos rfl] | rw [if_neg (by omega)])))⟩, fun id h1 h2 => ?_, fun t h1 h2 => ?_⟩
   · ((try simp only [wM]); (repeat first | rw [if_pos trivial] | rw [if_pos rfl] | rw [if_neg (by omega)])); exact k3_2 id h1 h2
   · ((try simp only [wL]); (repeat first | rw [if_pos trivial] | rw [if_pos rfl] | rw [if_neg (by omega)])); exact k3_3 t h1 h2
 · have e : i = nn := by omega
   subst e
   repeat' with_reducible first
    | refine s_ ?_
    | simp -implicitDefEqProofs only [wZZ, seval, g1, g2, g3, g7, g8, g10, g11, g12, f7, f11]
   refine hQ _ ids (hR.mono (by omega) (by ((try simp only [wN]) <;> omega)) (fun j _ => by ((try simp only [wM]); (repeat first | rw [if_pos trivial] | rw [if_pos rfl] | rw [if_neg (by omega)])))) (fun id h1 h2 => by ((try simp only [wM]); (repeat first | rw [if_pos trivial] | rw [if_pos rfl] | rw [if_neg (by omega)])); exact k3_2 id h1 h2) (fun t h1 h2 => ?_) (by ((try simp only [wN]) <;> omega))
   ((try simp only [wL]); (repeat first | rw [if_pos trivial] | rw [if_pos rfl] | rw [if_neg (by omega)])); exact k3_3 t h1 h2
end Go.Proofs
