/-
  Part of a proof that a law of the given program answers true: contracts of its functions, and the law. Holds for inputs of at most 1048576 values and letters in all.
-/
import Derived.Test.YtpnfbnlhjdnnpaaPE
set_option linter.unusedSimpArgs false
set_option linter.unusedVariables false
set_option maxHeartbeats 4000000
namespace Go.Proofs
open Go.E

/- Numbers in a row of 25. -/
def upd (a : Nat → Nat) (b x : Nat) : Nat → Nat := fun c => if c = b then x else a c
def vecC (a : Nat → Nat) : List V := (List.range 25).map fun b => vi (a b)
theorem vecC_len (a : Nat → Nat) : (vecC a).length = 25 := by simp [vecC]
theorem vecC_get {a : Nat → Nat} {b : Nat} (h : b < 25) : (vecC a)[b]? = some (vi (a b)) := by simp [vecC, h]
theorem vecC_set (a : Nat → Nat) (b x : Nat) : (vecC a).set b (vi x) = vecC (upd a b x) := by
  refine List.ext_getElem? fun i => ?_
  rw [List.getElem?_set]
  by_cases hi : i < 25
  · rw [vecC_get hi, vecC_len, vecC_get hi]
    by_cases e : b = i
    · subst e; simp [hi, upd]
    · simp [e, upd, Ne.symm e]
  · rw [List.getElem?_eq_none (by rw [vecC_len]; omega), List.getElem?_eq_none (by rw [vecC_len]; omega)]
    rw [vecC_len]; simp; omega
theorem vecC_lt {a : Nat → Nat} {b : Nat} (h : b < 25) : b < (vecC a).length := by rw [vecC_len]; exact h
theorem vecC_0 : ([.int .i64 0, .int .i64 0, .int .i64 0, .int .i64 0, .int .i64 0, .int .i64 0, .int .i64 0, .int .i64 0, .int .i64 0, .int .i64 0, .int .i64 0, .int .i64 0, .int .i64 0, .int .i64 0, .int .i64 0, .int .i64 0, .int .i64 0, .int .i64 0, .int .i64 0, .int .i64 0, .int .i64 0, .int .i64 0, .int .i64 0, .int .i64 0, .int .i64 0] : List V) = vecC (fun _ => 0) := rfl
theorem vecC_ext {a b : Nat → Nat} (h : ∀ i, i < 25 → a i = b i) : vecC a = vecC b := by
  unfold vecC
  refine List.map_congr_left fun i hi => ?_
  rw [h i (List.mem_range.1 hi)]
/- A table of 25 by 25. -/
def matC (n : Nat → Nat → Nat) : List V := (List.range 625).map fun q => vi (n (q / 25) (q % 25))
theorem matC_len (n : Nat → Nat → Nat) : (matC n).length = 625 := by simp [matC]
theorem matC_get {n : Nat → Nat → Nat} {a b : Nat} (ha : a < 25) (hb : b < 25) : (matC n)[a * 25 + b]? = some (vi (n a b)) := by
  have h : a * 25 + b < 625 := by omega
  have e1 : (a * 25 + b) / 25 = a := by omega
  have e2 : (a * 25 + b) % 25 = b := by omega
  simp [matC, h, e1, e2]
theorem st_min2 {P : Program} [Glob P] {cls : Cls} {id : Nat} {s : St} {K : V → St → Prop} (x y : Opd) : stepOp P cls id s K (.minmax false [x, y]) = onS (minmaxV false [ev s x, ev s y]) fun v => K v s := rfl
theorem min2_ii (a b : Int) : minmaxV false [.int .i64 a, .int .i64 b] = some (.int .i64 (if b < a then b else a)) := by
  simp [minmaxV]
theorem min2_nat (x : Nat) : (if (x : Int) < 2 then (x : Int) else 2) = ((min 2 x : Nat) : Int) := by
  split
  · rw [Nat.min_eq_right (by omega)]
  · rw [Nat.min_eq_left (by omega)]; rfl

/- How many ways: sums up to two. -/
def sumN (f : Nat → Nat) : Nat → Nat
  | 0 => 0
  | n + 1 => sumN f n + f n
abbrev Tbl := Nat → Nat → Nat → Nat
def stepN (T : Tbl) (w : List Int) (s : Int) (v : Nat → Nat) : Nat → Nat := fun b =>
  if s < 1000 then (if 0 < b ∧ w[b - 1]? = some s then v (b - 1) else 0) else min 2 (sumN (fun a => v a * T (s - 1000).toNat a b) (b + 1))
def waysV (T : Tbl) (w : List Int) (i : Nat) (right : List Int) : Nat → Nat := right.foldl (fun v s => stepN T w s v) (fun b => if b = i then 1 else 0)
def waysN (T : Tbl) (w : List Int) (right : List Int) (i j : Nat) : Nat := waysV T w i right j
theorem stepN_le {T : Tbl} {w : List Int} {s : Int} {v : Nat → Nat} (h : ∀ b, v b ≤ 2) (b : Nat) : stepN T w s v b ≤ 2 := by
  unfold stepN; split
  · split
    · exact h _
    · omega
  · omega
theorem sumN_zero {f : Nat → Nat} {n : Nat} (h : ∀ a, a < n → f a = 0) : sumN f n = 0 := by
  induction n with
  | zero => rfl
  | succ n ih => unfold sumN; rw [ih fun a ha => h a (by omega), h n (by omega)]
theorem stepN_low {T : Tbl} {w : List Int} {s : Int} {v : Nat → Nat} {i : Nat} (h : ∀ b, b < i → v b = 0) (b : Nat) (hb : b < i) : stepN T w s v b = 0 := by
  unfold stepN; split
  · split
    · exact h _ (by omega)
    · rfl
  · rw [sumN_zero fun a ha => by rw [h a (by omega), Nat.zero_mul]]; rfl

/-- The counter's cells. -/
@[reducible] def cntV (g : Grammar) (w : List Int) (nn : Nat) (T : Tbl) : V := .agg [.sl 6 false (g.toks.map Tok.V), .sl 2 false (g.nons.map Non.V), .sl 6 false (g.prods.map GPr.V), .str g.pro, .str g.tail, .sl 1 false (w.map (V.int .i64)), .sl 625 false ((List.range nn).map fun k => .agg (matC (T k)))]
end Go.Proofs


set_option maxHeartbeats 4000000
namespace Go.Proofs
open Go.E

/-- A nonterminal's trees from one place on, put to what there is. -/
def addN (T : Tbl) (k : Nat) (A B : Nat → Nat) (a c : Nat) : Nat → Nat := fun b => if a ≤ b ∧ b < c then min 2 (B b + A a * T k a b) else B b
theorem addN_0 (T : Tbl) (k : Nat) (A B : Nat → Nat) (a : Nat) : addN T k A B a a = B := by
  funext b; unfold addN; rw [if_neg (by omega)]
theorem addN_succ (T : Tbl) (k : Nat) (A B : Nat → Nat) (a c : Nat) (h : a ≤ c) : upd (addN T k A B a c) c (min 2 (B c + A a * T k a c)) = addN T k A B a (c + 1) := by
  funext b; unfold upd addN
  by_cases e : b = c
  · subst e; rw [if_pos rfl, if_pos (by omega)]
  · rw [if_neg e]
    by_cases h2 : a ≤ b ∧ b < c
    · rw [if_pos h2, if_pos (by omega)]
    · rw [if_neg h2, if_neg (by omega)]

theorem ld_mat {s : St} {n : Nat → Nat → Nat} {a b : Nat} {K : V → Prop} (ha : a < 25) (hb : b < 25) (hk : K (vi (n a b))) : onS (loadV s false 1 (.iptr 625 (.agg (matC n)) (a * 25 + b))) K := by
  have e : loadV s false 1 (.iptr 625 (.agg (matC n)) (a * 25 + b)) = some (vi (n a b)) := by
    simp only [loadV, partE]
    rw [if_neg (by simp [V.isAgg])]
    simp only [partC, V.cells, Bool.false_eq_true, if_false, if_true, matC_get ha hb]
  rw [e]; exact hk

theorem ways1 {s0 : St} {g : Grammar} {w : List Int} {nn k a j ia ib : Nat} {T : Tbl} {A B : Nat → Nat} {sy : Int} {Q : Exit → St → Prop} (f0 : s0.f 0 = .iptr 7 (cntV g w nn T) 0) (f3 : s0.f 3 = vi j) (f9 : s0.f 9 = .ptr ia 0 0) (f11 : s0.f 11 = vi sy) (f12 : s0.f 12 = .ptr ib 0 0) (f13 : s0.f 13 = vi a)
    (hia : s0.H ia = some (.own 25 [.agg (vecC A)] false)) (hib : s0.H ib = some (.own 25 [.agg (vecC B)] false)) (hne : ia ≠ ib) (haj : a ≤ j) (hj : j ≤ 24) (hsy : sy = 1000 + (k : Int)) (hk : k < nn) (hnn : nn ≤ 1000000) (hA : ∀ b, A b ≤ 2) (hB : ∀ b, B b ≤ 2) (hT : ∀ k a b, T k a b ≤ 2)
    (hQ : ∀ s', s'.H ib = some (.own 25 [.agg (vecC (addN T k A B a (j + 1)))] false) → (∀ id, id ≠ ib → s'.H id = s0.H id) → (∀ t, t < 55 → t ≠ 14 → s'.f t = s0.f t) → s0.next ≤ s'.next → Q .normal s') : ewp Try.prog e47n34 Q s0 := by
  repeat' with_reducible first
    | refine ewp_reg_seq ?_ | refine ewp_block ?_
    | simp -implicitDefEqProofs only [wA, Nat.reduceEqDiff, ↓reduceIte, reduceCtorEq, Nat.reduceAdd, Int.cast_ofNat_Int, Int.reduceLT, Int.reduceLE, Int.reduceEq, Int.reduceToNat, decide_true, decide_false, Bool.false_eq_true, f0, f3, f9, f11, f12, f13]
  refine ewp_loopN ?nx3 (fun (b : Nat) s => s.f 0 = ?v3_0 ∧ s.f 2 = ?v3_2 ∧ s.f 3 = ?v3_3 ∧ s.f 9 = ?v3_9 ∧ s.f 11 = ?v3_11 ∧ s.f 12 = ?v3_12 ∧ s.f 13 = ?v3_13 ∧ s.f 17 = ?v3_17 ∧ s.f 18 = ?v3_18 ∧ s.f 19 = ?v3_19 ∧ s.f 14 = vi b ∧ (a ≤ b) ∧ (b ≤ j + 1) ∧ ((s.H ib = some (MObj.own 25 [.agg (vecC (addN T k A B a b))] false))) ∧ ((∀ id, id ≠ ib → s.H id = s0.H id)) ∧ ((∀ t, t < 55 → t ≠ 14 → s.f t = s0.f t))) (fun b => j + 1 - b) (a) (by simp -implicitDefEqProofs only [wN, Nat.reduceAdd, Nat.zero_add]; exact Nat.le_refl _) (by refine ⟨?_, ?_, ?_, ?_, ?_, ?_, ?_, ?_, ?_, ?_, ?_, (by first | omega | (simp; done) | assumption), (by first | omega | (simp; done) | assumption), (by rw [addN_0]; simp only [wM]; exact hib), (by intro id hid; simp only [wM]), (by intro t h1 h2; simp only [wL]; repeat (first | rw [if_pos trivial] | rw [if_pos rfl] | rw [if_neg (by omega)]))⟩ <;> first | (simp -implicitDefEqProofs only [wL, wM, wN, wX, Nat.reduceEqDiff, ↓reduceIte, reduceCtorEq, Nat.reduceAdd, Option.some.injEq] <;> first | rfl | exact ⟨_, rfl⟩ | exact ⟨_, rfl, by first | assumption | exact Gr.nil | exact Gr.tok rfl (by omega) | exact Gr.tok (by simp -implicitDefEqProofs only [wM, Nat.reduceEqDiff, ↓reduceIte, reduceCtorEq] <;> rfl) (by omega) | exact Gr.clip⟩) | rfl | exact ⟨_, rfl⟩) ?_
  intro b s hnx ⟨g0, g2, g3, g9, g11, g12, g13, g17, g18, g19, g14, k3_0, k3_1, k3_2, k3_3, k3_4⟩
  have ob := k3_2
  have oa : s.H ia = some (.own 25 [.agg (vecC A)] false) := by rw [k3_3 ia hne]; exact hia
  have g0' := (k3_4 0 (by omega) (by omega)).trans f0
  have g3' := (k3_4 3 (by omega) (by omega)).trans f3
  have g9' := (k3_4 9 (by omega) (by omega)).trans f9
  have g11' := (k3_4 11 (by omega) (by omega)).trans f11
  have g12' := (k3_4 12 (by omega) (by omega)).trans f12
  have g13' := (k3_4 13 (by omega) (by omega)).trans f13
  by_cases hb : b ≤ j
  · have hAn : addN T k A B a b b = B b := by unfold addN; rw [if_neg (by omega)]
    have hsb : IntKind.i64.wrap (sy - 1000) = (k : Int) := by rw [hsy, wrap64 (by omega) (by omega)]; omega
    have hAa := hA a; have hBb := hB b; have hTk := hT k a b
    have hmul : (A a : Int) * (T k a b : Int) = ((A a * T k a b : Nat) : Int) := by simp
    have hml : A a * T k a b ≤ 4 := Nat.le_trans (Nat.mul_le_mul hAa hTk) (by decide)
    have hz1 : IntKind.i64.wrap ((A a * T k a b : Nat) : Int) = ((A a * T k a b : Nat) : Int) := wrap64 (by omega) (by omega)
    have hz2 : IntKind.i64.wrap ((B b : Int) + ((A a * T k a b : Nat) : Int)) = ((B b + A a * T k a b : Nat) : Int) := by rw [wrap64 (by omega) (by omega)]; omega
    have hzb : IntKind.i64.wrap ((b + 1 : Nat) : Int) = ((b + 1 : Nat) : Int) := wrap64 (by omega) (by omega)
    have hmn := min2_nat (B b + A a * T k a b)
    have hkk : (List.range nn)[(k : Int).toNat]? = some k := by simp [hk]
    repeat' with_reducible first
      | refine ewp_reg_seq ?_ | refine ewp_seq ?_ | refine ewp_reg ?_ | refine ewp_skip ?_ | refine ewp_block ?_ | refine xt_n ?_ | refine xb_n ?_ | refine ewp_condQ ?_
      | simp -implicitDefEqProofs only [wA, Nat.reduceEqDiff, ↓reduceIte, reduceCtorEq, Nat.reduceAdd, Int.cast_ofNat_Int, Int.reduceLT, Int.reduceLE, Int.reduceEq, Int.reduceToNat, decide_true, decide_false, Bool.false_eq_true, g0, g2, g3, g9, g11, g12, g13, g17, g18, g19, g14, f0, f3, f9, f11, f12, f13, ob, oa, hsb, hzb, hAn, hmul, hz1, hz2, st_min2, min2_ii, hmn, vecC_set]
      | (refine condQ_i (fun h => ?_) (fun h => ?_) <;> have h_ := h <;> (try simp only [wD, reduceCtorEq] at h_) <;> (try (exfalso; first | omega | exact bf h_ (by assumption) | exact bt h_ (by assumption) | (refine absurd ?_ h_; focus assumption) | (refine absurd h_ ?_; focus assumption))) <;> (try simp only [h]))
      | (apply iaA_ptrQ (by omega))
      | (refine ldQ_cell (vecC_get (by omega)) ?_)
      | (refine stQ_cell rfl rfl rfl (vecC_lt (by omega)) ?_)
      | (refine onS_i (iaA_iptr (by omega)) ?_)
      | (refine ld_mat (by omega) (by omega) ?_)
      | (apply ia_slQ; (focus omega); (focus (first | assumption | exact List.getElem?_eq_getElem (by omega) | rfl)))
      | (apply ld_ipQ; (focus with_unfolding_all rfl))
    refine ⟨by omega, b + 1, by omega, trivial, trivial, trivial, trivial, trivial, trivial, trivial, trivial, trivial, trivial, rfl, by omega, by omega, ?_, fun id hid => ?_, fun t h1 h2 => ?_⟩
    · rw [addN_succ _ _ _ _ _ _ (by omega)]
    · (try simp only [wM])
      rw [if_neg hid]; exact k3_3 id hid
    · (try simp only [wL])
      repeat (first | rw [if_pos trivial] | rw [if_pos rfl] | rw [if_neg (by omega)])
      exact k3_4 t h1 h2
  · have e : b = j + 1 := by omega
    subst e
    repeat' with_reducible first
      | refine ewp_reg_seq ?_ | refine ewp_seq ?_ | refine ewp_exit ?_ | refine xt_e ?_ | refine xb_e ?_ | refine ewp_condQ ?_
      | simp -implicitDefEqProofs only [wA, Nat.reduceEqDiff, ↓reduceIte, reduceCtorEq, Nat.reduceAdd, Int.cast_ofNat_Int, Int.reduceLT, Int.reduceLE, Int.reduceEq, Int.reduceToNat, decide_true, decide_false, Bool.false_eq_true, g0, g2, g3, g9, g11, g12, g13, g17, g18, g19, g14, f0, f3, f9, f11, f12, f13]
      | (refine condQ_i (fun h => ?_) (fun h => ?_) <;> have h_ := h <;> (try simp only [wD, reduceCtorEq] at h_) <;> (try (exfalso; first | omega | exact bf h_ (by assumption) | exact bt h_ (by assumption) | (refine absurd ?_ h_; focus assumption) | (refine absurd h_ ?_; focus assumption))) <;> (try simp only [h]))
    refine hQ _ (by simp only [wM]; exact ob) (fun id hid => by simp only [wM]; exact k3_3 id hid) (fun t h1 h2 => ?_) (by simp only [wN]; omega)
    simp only [wL]
    repeat (first | rw [if_pos trivial] | rw [if_pos rfl] | rw [if_neg (by omega)])
    exact k3_4 t h1 h2
end Go.Proofs


set_option maxHeartbeats 4000000
namespace Go.Proofs
open Go.E

/-- What there is of a step, when the places ahead of one have been gone over. -/
def partN (T : Tbl) (w : List Int) (s : Int) (v : Nat → Nat) (a j : Nat) : Nat → Nat := fun b =>
  if b ≤ j then (if s < 1000 then (if 0 < b ∧ b ≤ a ∧ w[b - 1]? = some s then v (b - 1) else 0) else min 2 (sumN (fun a' => v a' * T (s - 1000).toNat a' b) (min a (b + 1)))) else 0
/-- Cut off behind a place. -/
def cutJ (v : Nat → Nat) (j : Nat) : Nat → Nat := fun b => if b ≤ j then v b else 0
theorem partN_le {T : Tbl} {w : List Int} {s : Int} {v : Nat → Nat} {a j : Nat} (h : ∀ b, v b ≤ 2) (b : Nat) : partN T w s v a j b ≤ 2 := by
  unfold partN; split
  · split
    · split
      · exact h _
      · omega
    · omega
  · omega
theorem partN_low {T : Tbl} {w : List Int} {s : Int} {v : Nat → Nat} {i j : Nat} (h : ∀ b, b < i → v b = 0) : partN T w s v i j = fun _ => 0 := by
  funext b
  unfold partN
  split
  · split
    · split
      · exact h _ (by omega)
      · rfl
    · rw [sumN_zero fun a ha => by rw [h a (by omega), Nat.zero_mul]]; rfl
  · rfl
theorem partN_end {T : Tbl} {w : List Int} {s : Int} {v : Nat → Nat} {j : Nat} : partN T w s v (j + 1) j = cutJ (stepN T w s v) j := by
  funext b
  unfold partN cutJ stepN
  split
  · split
    · have e : (0 < b ∧ b ≤ j + 1 ∧ w[b - 1]? = some s) ↔ (0 < b ∧ w[b - 1]? = some s) := ⟨fun h => ⟨h.1, h.2.2⟩, fun h => ⟨h.1, by omega, h.2⟩⟩
      simp only [e]
    · rw [show min (j + 1) (b + 1) = b + 1 by omega]
  · rfl
theorem partN_skip {T : Tbl} {w : List Int} {s : Int} {v : Nat → Nat} {a j : Nat} (h : v a = 0) : partN T w s v (a + 1) j = partN T w s v a j := by
  funext b
  unfold partN
  split
  · split
    · by_cases e : b = a + 1
      · subst e
        have hn : ¬ (0 < a + 1 ∧ a + 1 ≤ a ∧ w[a + 1 - 1]? = some s) := fun q => by omega
        rw [if_neg hn]
        split
        · rw [Nat.add_sub_cancel]; exact h
        · rfl
      · have e2 : (0 < b ∧ b ≤ a + 1 ∧ w[b - 1]? = some s) ↔ (0 < b ∧ b ≤ a ∧ w[b - 1]? = some s) := ⟨fun h => ⟨h.1, by omega, h.2.2⟩, fun h => ⟨h.1, by omega, h.2.2⟩⟩
        simp only [e2]
    · by_cases hb : a < b + 1
      · rw [show min (a + 1) (b + 1) = a + 1 by omega, show min a (b + 1) = a by omega, sumN, h, Nat.zero_mul, Nat.add_zero]
      · rw [show min (a + 1) (b + 1) = b + 1 by omega, show min a (b + 1) = b + 1 by omega]
  · rfl
theorem partN_tokT {T : Tbl} {w : List Int} {s : Int} {v : Nat → Nat} {a j : Nat} (hs : s < 1000) (h : w[a]? = some s) (haj : a < j) : partN T w s v (a + 1) j = upd (partN T w s v a j) (a + 1) (v a) := by
  funext b
  unfold partN upd
  by_cases e : b = a + 1
  · subst e
    rw [if_pos rfl, if_pos (by omega), if_pos hs, if_pos ⟨by omega, by omega, by simpa using h⟩, Nat.add_sub_cancel]
  · rw [if_neg e]
    have e2 : (0 < b ∧ b ≤ a + 1 ∧ w[b - 1]? = some s) ↔ (0 < b ∧ b ≤ a ∧ w[b - 1]? = some s) := ⟨fun h => ⟨h.1, by omega, h.2.2⟩, fun h => ⟨h.1, by omega, h.2.2⟩⟩
    simp only [e2, if_pos hs]
theorem partN_tokF {T : Tbl} {w : List Int} {s : Int} {v : Nat → Nat} {a j : Nat} (hs : s < 1000) (h : a < j → w[a]? ≠ some s) : partN T w s v (a + 1) j = partN T w s v a j := by
  funext b
  unfold partN
  split
  · (try rw [if_pos hs]); (try rw [if_pos hs])
    by_cases e : b = a + 1
    · subst e
      have hn : ¬ (0 < a + 1 ∧ a + 1 ≤ a ∧ w[a + 1 - 1]? = some s) := fun q => by omega
      rw [if_neg (fun q => h (by omega) (by simpa using q.2.2)), if_neg hn]
    · have e2 : (0 < b ∧ b ≤ a + 1 ∧ w[b - 1]? = some s) ↔ (0 < b ∧ b ≤ a ∧ w[b - 1]? = some s) := ⟨fun h => ⟨h.1, by omega, h.2.2⟩, fun h => ⟨h.1, by omega, h.2.2⟩⟩
      simp only [e2]
  · rfl
theorem partN_non {T : Tbl} {w : List Int} {s : Int} {v : Nat → Nat} {a j : Nat} (hs : ¬ s < 1000) : addN T (s - 1000).toNat (cutJ v j) (partN T w s v a j) a (j + 1) = if a ≤ j then partN T w s v (a + 1) j else partN T w s v a j := by
  funext b
  unfold addN
  by_cases haj : a ≤ j
  · rw [if_pos haj]
    by_cases hb : a ≤ b ∧ b < j + 1
    · rw [if_pos hb]
      unfold partN cutJ
      rw [if_pos (by omega), if_neg hs, if_pos haj, if_pos (by omega), if_neg hs, show min a (b + 1) = a by omega, show min (a + 1) (b + 1) = a + 1 by omega, sumN]
      omega
    · rw [if_neg hb]
      unfold partN
      split
      · (try rw [if_neg hs]); (try rw [if_neg hs])
        rw [show min a (b + 1) = b + 1 by omega, show min (a + 1) (b + 1) = b + 1 by omega]
      · rfl
  · rw [if_neg haj, if_neg (by omega)]

theorem ways2 {s0 : St} {g : Grammar} {w : List Int} {nn i j ia ib : Nat} {T : Tbl} {v : Nat → Nat} {sy : Int} {Q : Exit → St → Prop} (f0 : s0.f 0 = .iptr 7 (cntV g w nn T) 0) (f2 : s0.f 2 = vi i) (f3 : s0.f 3 = vi j) (f9 : s0.f 9 = .ptr ia 0 0) (f11 : s0.f 11 = vi sy) (f12 : s0.f 12 = .ptr ib 0 0)
    (hia : s0.H ia = some (.own 25 [.agg (vecC (cutJ v j))] false)) (hib : s0.H ib = some (.own 25 [.agg (vecC (fun _ => 0))] false)) (hne : ia ≠ ib) (hij : i ≤ j) (hj : j ≤ 24) (hjw : j ≤ w.length) (hw : w.length ≤ 24) (hsy : sy < 1000 ∨ ∃ k : Nat, sy = 1000 + (k : Int) ∧ k < nn) (hnn : nn ≤ 1000000) (hv : ∀ b, v b ≤ 2) (hlow : ∀ b, b < i → v b = 0) (hT : ∀ k a b, T k a b ≤ 2)
    (hQ : ∀ s', s'.H ib = some (.own 25 [.agg (vecC (cutJ (stepN T w sy v) j))] false) → (∀ id, id ≠ ib → s'.H id = s0.H id) → (∀ t, t < 23 → t ≠ 13 → t ≠ 14 → s'.f t = s0.f t) → s0.next ≤ s'.next → Q .normal s') : ewp Try.prog e47n43 Q s0 := by
  repeat' with_reducible first
    | refine ewp_reg_seq ?_ | refine ewp_block ?_
    | simp -implicitDefEqProofs only [wA, Nat.reduceEqDiff, ↓reduceIte, reduceCtorEq, Nat.reduceAdd, Int.cast_ofNat_Int, Int.reduceLT, Int.reduceLE, Int.reduceEq, Int.reduceToNat, decide_true, decide_false, Bool.false_eq_true, f0, f2, f3, f9, f11, f12]
  refine ewp_loopN ?nx2 (fun (a : Nat) s => s.f 0 = ?v2_0 ∧ s.f 2 = ?v2_2 ∧ s.f 3 = ?v2_3 ∧ s.f 9 = ?v2_9 ∧ s.f 11 = ?v2_11 ∧ s.f 12 = ?v2_12 ∧ s.f 17 = ?v2_17 ∧ s.f 18 = ?v2_18 ∧ s.f 19 = ?v2_19 ∧ s.f 13 = vi a ∧ (i ≤ a) ∧ (a ≤ j + 1) ∧ ((s.H ib = some (MObj.own 25 [.agg (vecC (partN T w sy v a j))] false))) ∧ ((∀ id, id ≠ ib → s.H id = s0.H id)) ∧ ((∀ t, t < 23 → t ≠ 13 → t ≠ 14 → s.f t = s0.f t))) (fun a => j + 1 - a) (i) (by simp -implicitDefEqProofs only [wN, Nat.reduceAdd, Nat.zero_add]; exact Nat.le_refl _) (by refine ⟨?_, ?_, ?_, ?_, ?_, ?_, ?_, ?_, ?_, ?_, (by first | omega | (simp; done) | assumption), (by first | omega | (simp; done) | assumption), (by rw [partN_low hlow]; simp only [wM]; exact hib), (by intro id hid; simp only [wM]), (by intro t h1 h2 h3; simp only [wL]; repeat (first | rw [if_pos trivial] | rw [if_pos rfl] | rw [if_neg (by omega)]))⟩ <;> first | (simp -implicitDefEqProofs only [wL, wM, wN, wX, Nat.reduceEqDiff, ↓reduceIte, reduceCtorEq, Nat.reduceAdd, Option.some.injEq] <;> first | rfl | exact ⟨_, rfl⟩ | exact ⟨_, rfl, by first | assumption | exact Gr.nil | exact Gr.tok rfl (by omega) | exact Gr.tok (by simp -implicitDefEqProofs only [wM, Nat.reduceEqDiff, ↓reduceIte, reduceCtorEq] <;> rfl) (by omega) | exact Gr.clip⟩) | rfl | exact ⟨_, rfl⟩) ?_
  intro a s hnx ⟨g0, g2, g3, g9, g11, g12, g17, g18, g19, g13, k2_0, k2_1, k2_2, k2_3, k2_4⟩
  have ob := k2_2
  have oa : s.H ia = some (.own 25 [.agg (vecC (cutJ v j))] false) := by rw [k2_3 ia hne]; exact hia
  by_cases ha : a ≤ j
  · have hca : cutJ v j a = v a := by unfold cutJ; rw [if_pos ha]
    by_cases hz : v a = 0
    · have hz2 : (v a : Int) = 0 := by omega
      have hzb : IntKind.i64.wrap ((a + 1 : Nat) : Int) = ((a + 1 : Nat) : Int) := wrap64 (by omega) (by omega)
      repeat' with_reducible first
        | refine ewp_reg_seq ?_ | refine ewp_seq ?_ | refine ewp_reg ?_ | refine ewp_skip ?_ | refine ewp_block ?_ | refine ewp_exit ?_ | refine xt_n ?_ | refine xt_e ?_ | refine xb_e ?_ | refine ewp_condQ ?_ | refine condQ_T ?_
        | simp -implicitDefEqProofs only [wA, Nat.reduceEqDiff, ↓reduceIte, reduceCtorEq, Nat.reduceAdd, Int.cast_ofNat_Int, Int.reduceLT, Int.reduceLE, Int.reduceEq, Int.reduceToNat, decide_true, decide_false, Bool.false_eq_true, g0, g2, g3, g9, g11, g12, g17, g18, g19, g13, f0, f2, f3, f9, f11, f12, ob, oa, hca, hz2, hzb]
        | (refine condQ_i (fun h => ?_) (fun h => ?_) <;> have h_ := h <;> (try simp only [wD, reduceCtorEq] at h_) <;> (try (exfalso; first | omega | exact bf h_ (by assumption) | exact bt h_ (by assumption) | (refine absurd ?_ h_; focus assumption) | (refine absurd h_ ?_; focus assumption))) <;> (try simp only [h]))
        | (apply iaA_ptrQ (by omega))
        | (refine ldQ_cell (vecC_get (by omega)) ?_)
      refine ⟨by (try simp only [wN]); omega, a + 1, by omega, trivial, trivial, trivial, trivial, trivial, trivial, trivial, trivial, trivial, rfl, by omega, by omega, ?_, fun id hid => ?_, fun t h1 h2 h3 => ?_⟩
      · rw [partN_skip hz]; first | done | rfl | exact ob | (simp only [wM]; exact ob)
      · first | exact k2_3 id hid | (simp only [wM]; exact k2_3 id hid)
      · (try simp only [wL])
        repeat (first | rw [if_pos trivial] | rw [if_pos rfl] | rw [if_neg (by omega)])
        exact k2_4 t h1 h2 h3
    · have hz2 : ¬ (v a : Int) = 0 := by omega
      have hzb : IntKind.i64.wrap ((a + 1 : Nat) : Int) = ((a + 1 : Nat) : Int) := wrap64 (by omega) (by omega)
      by_cases hs : sy < 1000
      · by_cases hc : a < j ∧ w[a]? = some sy
        · have hwa : w[(a : Int).toNat]? = some sy := by rw [Int.toNat_natCast]; exact hc.2
          have hst := partN_tokT (T := T) (w := w) (s := sy) (v := v) (a := a) (j := j) hs hc.2 hc.1
          repeat' with_reducible first
            | refine ewp_reg_seq ?_ | refine ewp_seq ?_ | refine ewp_reg ?_ | refine ewp_skip ?_ | refine ewp_block ?_ | refine ewp_exit ?_ | refine xt_n ?_ | refine xt_e ?_ | refine xb_e ?_ | refine ewp_condQ ?_ | refine condQ_T ?_ | refine L_gdQ ?_ | refine gdQ_TT ?_
            | simp -implicitDefEqProofs only [wA, Nat.reduceEqDiff, ↓reduceIte, reduceCtorEq, Nat.reduceAdd, Int.cast_ofNat_Int, Int.reduceLT, Int.reduceLE, Int.reduceEq, Int.reduceToNat, decide_true, decide_false, Bool.false_eq_true, g0, g2, g3, g9, g11, g12, g17, g18, g19, g13, f0, f2, f3, f9, f11, f12, ob, oa, hca, hzb, vecC_set]
            | (refine condQ_i (fun h => ?_) (fun h => ?_) <;> have h_ := h <;> (try simp only [wD, reduceCtorEq] at h_) <;> (try (exfalso; first | omega | exact bf h_ (by assumption) | exact bt h_ (by assumption) | (refine absurd ?_ h_; focus assumption) | (refine absurd h_ ?_; focus assumption))) <;> (try simp only [h]))
            | ((first | refine gdQ_iT (fun h => ?_) (fun h => ?_) | refine gdQ_iF (fun h => ?_) (fun h => ?_)) <;> have h_ := h <;> (try simp only [wD, reduceCtorEq] at h_) <;> (try (exfalso; first | omega | exact bf h_ (by assumption) | exact bt h_ (by assumption) | (refine absurd ?_ h_; focus assumption) | (refine absurd h_ ?_; focus assumption))) <;> (try simp only [h]))
            | (apply iaA_ptrQ (by omega))
            | (refine ldQ_cell (vecC_get (by omega)) ?_)
            | (refine stQ_cell rfl rfl rfl (vecC_lt (by omega)) ?_)
            | (apply ia_slQ; (focus omega); (focus (first | assumption | exact List.getElem?_eq_getElem (by omega) | rfl)))
            | (apply ld_ipQ; (focus with_unfolding_all rfl))
          refine ⟨by (try simp only [wN]); omega, a + 1, by omega, trivial, trivial, trivial, trivial, trivial, trivial, trivial, trivial, trivial, rfl, by omega, by omega, ?_, fun id hid => ?_, fun t h1 h2 h3 => ?_⟩
          · rw [hst]
          · first | exact k2_3 id hid | (rw [if_neg hid]; exact k2_3 id hid) | (simp only [wM]; exact k2_3 id hid)
          · (try simp only [wL])
            repeat (first | rw [if_pos trivial] | rw [if_pos rfl] | rw [if_neg (by omega)])
            exact k2_4 t h1 h2 h3
        · have hst := partN_tokF (T := T) (w := w) (s := sy) (v := v) (a := a) (j := j) hs (fun h1 h2 => hc ⟨h1, h2⟩)
          by_cases haj : a < j
          · obtain ⟨wa, hwa⟩ : ∃ wa, w[a]? = some wa := ⟨w[a], List.getElem?_eq_getElem (by omega)⟩
            have hwa2 : w[(a : Int).toNat]? = some wa := by rw [Int.toNat_natCast]; exact hwa
            have hne2 : ¬ wa = sy := fun e => hc ⟨haj, by rw [hwa, e]⟩
            repeat' with_reducible first
              | refine ewp_reg_seq ?_ | refine ewp_seq ?_ | refine ewp_reg ?_ | refine ewp_skip ?_ | refine ewp_block ?_ | refine ewp_exit ?_ | refine xt_n ?_ | refine xt_e ?_ | refine xb_e ?_ | refine ewp_condQ ?_ | refine L_gdQ ?_ | refine gdQ_TT ?_
              | simp -implicitDefEqProofs only [wA, Nat.reduceEqDiff, ↓reduceIte, reduceCtorEq, Nat.reduceAdd, Int.cast_ofNat_Int, Int.reduceLT, Int.reduceLE, Int.reduceEq, Int.reduceToNat, decide_true, decide_false, Bool.false_eq_true, g0, g2, g3, g9, g11, g12, g17, g18, g19, g13, f0, f2, f3, f9, f11, f12, ob, oa, hca, hzb]
              | (refine condQ_i (fun h => ?_) (fun h => ?_) <;> have h_ := h <;> (try simp only [wD, reduceCtorEq] at h_) <;> (try (exfalso; first | omega | exact bf h_ (by assumption) | exact bt h_ (by assumption) | (refine absurd ?_ h_; focus assumption) | (refine absurd h_ ?_; focus assumption))) <;> (try simp only [h]))
              | ((first | refine gdQ_iT (fun h => ?_) (fun h => ?_) | refine gdQ_iF (fun h => ?_) (fun h => ?_)) <;> have h_ := h <;> (try simp only [wD, reduceCtorEq] at h_) <;> (try (exfalso; first | omega | exact bf h_ (by assumption) | exact bt h_ (by assumption) | (refine absurd ?_ h_; focus assumption) | (refine absurd h_ ?_; focus assumption))) <;> (try simp only [h]))
              | (apply iaA_ptrQ (by omega))
              | (refine ldQ_cell (vecC_get (by omega)) ?_)
              | (apply ia_slQ; (focus omega); (focus (first | assumption | exact List.getElem?_eq_getElem (by omega) | rfl)))
              | (apply ld_ipQ; (focus with_unfolding_all rfl))
            refine ⟨by (try simp only [wN]); omega, a + 1, by omega, trivial, trivial, trivial, trivial, trivial, trivial, trivial, trivial, trivial, rfl, by omega, by omega, ?_, fun id hid => ?_, fun t h1 h2 h3 => ?_⟩
            · rw [hst]
            · first | exact k2_3 id hid | (rw [if_neg hid]; exact k2_3 id hid) | (simp only [wM]; exact k2_3 id hid)
            · (try simp only [wL])
              repeat (first | rw [if_pos trivial] | rw [if_pos rfl] | rw [if_neg (by omega)])
              exact k2_4 t h1 h2 h3
          · repeat' with_reducible first
              | refine ewp_reg_seq ?_ | refine ewp_seq ?_ | refine ewp_reg ?_ | refine ewp_skip ?_ | refine ewp_block ?_ | refine ewp_exit ?_ | refine xt_n ?_ | refine xt_e ?_ | refine xb_e ?_ | refine ewp_condQ ?_ | refine condQ_F ?_ | refine L_gdQ ?_ | refine gdQ_FT ?_
              | simp -implicitDefEqProofs only [wA, Nat.reduceEqDiff, ↓reduceIte, reduceCtorEq, Nat.reduceAdd, Int.cast_ofNat_Int, Int.reduceLT, Int.reduceLE, Int.reduceEq, Int.reduceToNat, decide_true, decide_false, Bool.false_eq_true, g0, g2, g3, g9, g11, g12, g17, g18, g19, g13, f0, f2, f3, f9, f11, f12, ob, oa, hca, hzb]
              | (refine condQ_i (fun h => ?_) (fun h => ?_) <;> have h_ := h <;> (try simp only [wD, reduceCtorEq] at h_) <;> (try (exfalso; first | omega | exact bf h_ (by assumption) | exact bt h_ (by assumption) | (refine absurd ?_ h_; focus assumption) | (refine absurd h_ ?_; focus assumption))) <;> (try simp only [h]))
              | ((first | refine gdQ_iT (fun h => ?_) (fun h => ?_) | refine gdQ_iF (fun h => ?_) (fun h => ?_)) <;> have h_ := h <;> (try simp only [wD, reduceCtorEq] at h_) <;> (try (exfalso; first | omega | exact bf h_ (by assumption) | exact bt h_ (by assumption) | (refine absurd ?_ h_; focus assumption) | (refine absurd h_ ?_; focus assumption))) <;> (try simp only [h]))
              | (apply iaA_ptrQ (by omega))
              | (refine ldQ_cell (vecC_get (by omega)) ?_)
            refine ⟨by (try simp only [wN]); omega, a + 1, by omega, trivial, trivial, trivial, trivial, trivial, trivial, trivial, trivial, trivial, rfl, by omega, by omega, ?_, fun id hid => ?_, fun t h1 h2 h3 => ?_⟩
            · rw [hst]
            · first | exact k2_3 id hid | (rw [if_neg hid]; exact k2_3 id hid) | (simp only [wM]; exact k2_3 id hid)
            · (try simp only [wL])
              repeat (first | rw [if_pos trivial] | rw [if_pos rfl] | rw [if_neg (by omega)])
              exact k2_4 t h1 h2 h3
      · obtain ⟨k, hk1, hk2⟩ : ∃ k : Nat, sy = 1000 + (k : Int) ∧ k < nn := by
          rcases hsy with h | h
          · exact absurd h hs
          · exact h
        have hst := partN_non (T := T) (w := w) (s := sy) (v := v) (a := a) (j := j) hs
        rw [if_pos ha] at hst
        have hkn : (sy - 1000).toNat = k := by omega
        have W : ∀ (s1 : St) (Q : Exit → St → Prop), s1.f 0 = .iptr 7 (cntV g w nn T) 0 → s1.f 3 = vi j → s1.f 9 = .ptr ia 0 0 → s1.f 11 = vi sy → s1.f 12 = .ptr ib 0 0 → s1.f 13 = vi a → s1.H ia = some (.own 25 [.agg (vecC (cutJ v j))] false) → s1.H ib = some (.own 25 [.agg (vecC (partN T w sy v a j))] false) →
            (∀ s', s'.H ib = some (.own 25 [.agg (vecC (partN T w sy v (a + 1) j))] false) → (∀ id, id ≠ ib → s'.H id = s1.H id) → (∀ t, t < 55 → t ≠ 14 → s'.f t = s1.f t) → s1.next ≤ s'.next → Q .normal s') → ewp Try.prog e47n34 Q s1 := by
          intro s1 Q q0 q3 q9 q11 q12 q13 qa qb qQ
          refine ways1 q0 q3 q9 q11 q12 q13 qa qb hne ha hj hk1 hk2 hnn (fun b => ?_) (partN_le hv) hT (fun s' r1 r2 r3 r4 => qQ s' ?_ r2 r3 r4)
          · unfold cutJ; split
            · exact hv b
            · omega
          · rw [r1, ← hkn, hst]
        show ewp _ (.seq e47n11 (.seq (.block 3 (.seq e47n14 (.seq e47n22 e47n34))) (.reg e47r38))) _ _
        generalize e47n34 = E34 at W
        repeat' with_reducible first
          | refine ewp_reg_seq ?_ | refine ewp_seq ?_ | refine ewp_skip ?_ | refine ewp_block ?_ | refine xt_n ?_ | refine ewp_condQ ?_
          | simp -implicitDefEqProofs only [wA, Nat.reduceEqDiff, ↓reduceIte, reduceCtorEq, Nat.reduceAdd, Int.cast_ofNat_Int, Int.reduceLT, Int.reduceLE, Int.reduceEq, Int.reduceToNat, decide_true, decide_false, Bool.false_eq_true, g0, g2, g3, g9, g11, g12, g17, g18, g19, g13, f0, f2, f3, f9, f11, f12, ob, oa, hca]
          | (refine condQ_i (fun h => ?_) (fun h => ?_) <;> have h_ := h <;> (try simp only [wD, reduceCtorEq] at h_) <;> (try (exfalso; first | omega | exact bf h_ (by assumption) | exact bt h_ (by assumption) | (refine absurd ?_ h_; focus assumption) | (refine absurd h_ ?_; focus assumption))) <;> (try simp only [h]))
          | (apply iaA_ptrQ (by omega))
          | (refine ldQ_cell (vecC_get (by omega)) ?_)
        refine W _ _ (by simp -implicitDefEqProofs only [wL, Nat.reduceEqDiff, ↓reduceIte, reduceCtorEq, f0, g0]) (by simp -implicitDefEqProofs only [wL, Nat.reduceEqDiff, ↓reduceIte, reduceCtorEq, f3, g3]) (by simp -implicitDefEqProofs only [wL, Nat.reduceEqDiff, ↓reduceIte, reduceCtorEq, f9, g9]) (by simp -implicitDefEqProofs only [wL, Nat.reduceEqDiff, ↓reduceIte, reduceCtorEq, f11, g11]) (by simp -implicitDefEqProofs only [wL, Nat.reduceEqDiff, ↓reduceIte, reduceCtorEq, f12, g12]) (by simp -implicitDefEqProofs only [wL, Nat.reduceEqDiff, ↓reduceIte, reduceCtorEq, g13]) (by simp only [wM]; exact oa) (by simp only [wM]; exact ob) (fun s2 r1 r2 r3 r4 => ?_)
        have hzb : IntKind.i64.wrap ((a + 1 : Nat) : Int) = ((a + 1 : Nat) : Int) := wrap64 (by omega) (by omega)
        have r3' : ∀ t, t < 23 → t ≠ 14 → s2.f t = s.f t := fun t h1 h2 => by
          rw [r3 t (by omega) h2]
          simp only [wL]
          repeat (first | rw [if_pos trivial] | rw [if_pos rfl] | rw [if_neg (by omega)])
        (try simp only [wN] at r4); (try simp only [wM] at r2)
        have h13 := (r3' 13 (by omega) (by omega)).trans g13
        repeat' with_reducible first
          | refine ewp_reg ?_ | refine xt_n ?_ | refine xb_n ?_
          | simp -implicitDefEqProofs only [wA, Nat.reduceEqDiff, ↓reduceIte, reduceCtorEq, Nat.reduceAdd, Int.cast_ofNat_Int, Int.reduceLT, Int.reduceLE, Int.reduceEq, Int.reduceToNat, decide_true, decide_false, Bool.false_eq_true, g0, g2, g3, g9, g11, g12, g17, g18, g19, g13, h13, hzb]
        refine ⟨by (try simp only [wN]); omega, a + 1, by omega, (r3' 0 (by omega) (by omega)).trans (g0.trans f0), (r3' 2 (by omega) (by omega)).trans (g2.trans f2), (r3' 3 (by omega) (by omega)).trans (g3.trans f3), (r3' 9 (by omega) (by omega)).trans (g9.trans f9), (r3' 11 (by omega) (by omega)).trans (g11.trans f11), (r3' 12 (by omega) (by omega)).trans (g12.trans f12), (r3' 17 (by omega) (by omega)).trans g17, (r3' 18 (by omega) (by omega)).trans g18, (r3' 19 (by omega) (by omega)).trans g19, rfl, by omega, by omega, ?_, fun id hid => ?_, fun t h1 h2 h3 => ?_⟩
        · first | exact r1 | (simp only [wM]; exact r1)
        · first | exact (r2 id hid).trans (k2_3 id hid) | (simp only [wM]; exact (r2 id hid).trans (k2_3 id hid))
        · (try simp only [wL])
          repeat (first | rw [if_pos trivial] | rw [if_pos rfl] | rw [if_neg (by omega)])
          exact (r3' t h1 h3).trans (k2_4 t h1 h2 h3)
  · have e : a = j + 1 := by omega
    subst e
    rw [partN_end] at ob
    repeat' with_reducible first
      | refine ewp_reg_seq ?_ | refine ewp_seq ?_ | refine ewp_exit ?_ | refine xt_e ?_ | refine xb_e ?_ | refine ewp_condQ ?_
      | simp -implicitDefEqProofs only [wA, Nat.reduceEqDiff, ↓reduceIte, reduceCtorEq, Nat.reduceAdd, Int.cast_ofNat_Int, Int.reduceLT, Int.reduceLE, Int.reduceEq, Int.reduceToNat, decide_true, decide_false, Bool.false_eq_true, g0, g2, g3, g9, g11, g12, g17, g18, g19, g13, f0, f2, f3, f9, f11, f12]
      | (refine condQ_i (fun h => ?_) (fun h => ?_) <;> have h_ := h <;> (try simp only [wD, reduceCtorEq] at h_) <;> (try (exfalso; first | omega | exact bf h_ (by assumption) | exact bt h_ (by assumption) | (refine absurd ?_ h_; focus assumption) | (refine absurd h_ ?_; focus assumption))) <;> (try simp only [h]))
    refine hQ _ (by simp only [wM]; exact ob) (fun id hid => by simp only [wM]; exact k2_3 id hid) (fun t h1 h2 h3 => ?_) (by simp only [wN]; omega)
    simp only [wL]
    repeat (first | rw [if_pos trivial] | rw [if_pos rfl] | rw [if_neg (by omega)])
    exact k2_4 t h1 h2 h3
end Go.Proofs


set_option maxHeartbeats 4000000
namespace Go.Proofs
open Go.E

theorem waysV_snoc (T : Tbl) (w : List Int) (i : Nat) (l : List Int) (s : Int) : waysV T w i (l ++ [s]) = stepN T w s (waysV T w i l) := by unfold waysV; rw [List.foldl_append]; rfl
theorem waysV_le (T : Tbl) (w : List Int) (i : Nat) (l : List Int) : (∀ b, waysV T w i l b ≤ 2) ∧ ∀ b, b < i → waysV T w i l b = 0 := by
  have h : ∀ (l : List Int) (v : Nat → Nat), (∀ b, v b ≤ 2) → (∀ b, b < i → v b = 0) → (∀ b, l.foldl (fun v s => stepN T w s v) v b ≤ 2) ∧ ∀ b, b < i → l.foldl (fun v s => stepN T w s v) v b = 0 := by
    intro l
    induction l with
    | nil => intro v h1 h2; exact ⟨h1, h2⟩
    | cons s r ih => intro v h1 h2; exact ih _ (stepN_le h1) (stepN_low h2)
  exact h l _ (fun b => by split <;> omega) (fun b hb => by rw [if_neg (by omega)])
theorem vecC_set1 (a : Nat → Nat) (b : Nat) : (vecC a).set b (.int .i64 1) = vecC (upd a b 1) := vecC_set a b 1
theorem vecC_init {i j : Nat} (h : i ≤ j) : vecC (upd (fun _ => 0) i 1) = vecC (cutJ (fun b => if b = i then 1 else 0) j) := by
  refine vecC_ext fun b _ => ?_
  unfold upd cutJ
  by_cases e : b = i
  · subst e; simp [h]
  · simp [e]

theorem many_counter_ways {g : Grammar} {w right : List Int} {nn i j : Nat} {T : Tbl} (hij : i ≤ j) (hj : j ≤ 24) (hjw : j ≤ w.length) (hw : w.length ≤ 24) (hr : ∀ s ∈ right, s < 1000 ∨ ∃ k : Nat, s = 1000 + (k : Int) ∧ k < nn) (hnn : nn ≤ 1000000) (hl : right.length ≤ 1000000) (hT : ∀ k a b, T k a b ≤ 2) : Pure Try.prog 47 [.iptr 7 (cntV g w nn T) 0, .sl 1 false (right.map (V.int .i64)), vi i, vi j] (vi (waysN T w right i j)) := by
  refine pure_intro Try.func47 e47_nm e47_ok (by show 4 ≤ 89; decide) ?_
  show ewp _ e47n61 _ _
  repeat' with_reducible first
    | refine ewp_reg_seq ?_ | refine ewp_seq ?_ | refine ewp_block ?_
    | simp -implicitDefEqProofs only [wA, Nat.reduceEqDiff, ↓reduceIte, reduceCtorEq, Nat.reduceAdd, Int.cast_ofNat_Int, Int.reduceLT, Int.reduceLE, Int.reduceEq, Int.reduceToNat, decide_true, decide_false, Bool.false_eq_true, vecC_0, vecC_set1]
    | (apply iaA_ptrQ (by omega))
    | (refine stQ_cell rfl rfl rfl (vecC_lt (by omega)) ?_)
  rw [vecC_init hij]
  refine ewp_loopN ?nx1 (fun (r : Nat) s => s.f 0 = ?v1_0 ∧ s.f 2 = ?v1_2 ∧ s.f 3 = ?v1_3 ∧ s.f 9 = ?v1_9 ∧ s.f 17 = ?v1_17 ∧ s.f 18 = ?v1_18 ∧ s.f 19 = vi r ∧ (r ≤ right.length) ∧ ((s.H 1 = some (MObj.own 25 [.agg (vecC (cutJ (waysV T w i (right.take r)) j))] false)))) (fun r => right.length - r) (0) (by simp -implicitDefEqProofs only [wN, Nat.reduceAdd, Nat.zero_add]; exact Nat.le_refl _) (by refine ⟨?_, ?_, ?_, ?_, ?_, ?_, ?_, (by first | omega | (simp; done) | assumption), (by simp only [wM, ↓reduceIte]; rfl)⟩ <;> first | (simp -implicitDefEqProofs only [wL, wM, wN, wX, Nat.reduceEqDiff, ↓reduceIte, reduceCtorEq, Nat.reduceAdd, Option.some.injEq] <;> first | rfl | exact ⟨_, rfl⟩ | exact ⟨_, rfl, by first | assumption | exact Gr.nil | exact Gr.tok rfl (by omega) | exact Gr.tok (by simp -implicitDefEqProofs only [wM, Nat.reduceEqDiff, ↓reduceIte, reduceCtorEq] <;> rfl) (by omega) | exact Gr.clip⟩) | rfl | exact ⟨_, rfl⟩) ?_
  intro r s hnx ⟨g0, g2, g3, g9, g17, g18, g19, k1_0, k1_1⟩
  have oa := k1_1
  obtain ⟨hv, hlow⟩ := waysV_le T w i (right.take r)
  by_cases hr2 : r < right.length
  · have htk : right.take (r + 1) = right.take r ++ [right[r]] := by rw [List.take_add_one, List.getElem?_eq_getElem hr2]; rfl
    have hst : waysV T w i (right.take (r + 1)) = stepN T w right[r] (waysV T w i (right.take r)) := by rw [htk, waysV_snoc]
    have hsr := hr _ (List.getElem_mem hr2)
    have W : ∀ (s1 : St) (Q : Exit → St → Prop) (ib : Nat), s1.f 0 = .iptr 7 (cntV g w nn T) 0 → s1.f 2 = vi i → s1.f 3 = vi j → s1.f 9 = .ptr 1 0 0 → s1.f 11 = vi right[r] → s1.f 12 = .ptr ib 0 0 → s1.H 1 = some (.own 25 [.agg (vecC (cutJ (waysV T w i (right.take r)) j))] false) → s1.H ib = some (.own 25 [.agg (vecC (fun _ => 0))] false) → 1 ≠ ib →
        (∀ s', s'.H ib = some (.own 25 [.agg (vecC (cutJ (waysV T w i (right.take (r + 1))) j))] false) → (∀ id, id ≠ ib → s'.H id = s1.H id) → (∀ t, t < 23 → t ≠ 13 → t ≠ 14 → s'.f t = s1.f t) → s1.next ≤ s'.next → Q .normal s') → ewp Try.prog e47n43 Q s1 := by
      intro s1 Q ib q0 q2 q3 q9 q11 q12 qa qb qne qQ
      rw [hst] at qQ
      exact ways2 q0 q2 q3 q9 q11 q12 qa qb qne hij hj hjw hw hsr hnn hv hlow hT qQ
    show ewp _ (.seq (.reg e47r4) (.seq e47n5 (.seq (.block 1 (.seq (.reg e47r6) (.seq (.reg e47r7) (.seq e47n43 (.reg e47r44))))) (.reg e47r49)))) _ _
    generalize e47n43 = E43 at W
    repeat' with_reducible first
      | refine ewp_reg_seq ?_ | refine ewp_seq ?_ | refine ewp_skip ?_ | refine ewp_block ?_ | refine xt_n ?_ | refine ewp_condQ ?_
      | simp -implicitDefEqProofs only [wA, Nat.reduceEqDiff, ↓reduceIte, reduceCtorEq, Nat.reduceAdd, Int.cast_ofNat_Int, Int.reduceLT, Int.reduceLE, Int.reduceEq, Int.reduceToNat, decide_true, decide_false, Bool.false_eq_true, g0, g2, g3, g9, g17, g18, g19, vecC_0]
      | (refine condQ_i (fun h => ?_) (fun h => ?_) <;> have h_ := h <;> (try simp only [wD, reduceCtorEq] at h_) <;> (try (exfalso; first | omega | exact bf h_ (by assumption) | exact bt h_ (by assumption) | (refine absurd ?_ h_; focus assumption) | (refine absurd h_ ?_; focus assumption))) <;> (try simp only [h]))
      | (apply ia_slQ; (focus omega); (focus (first | assumption | exact List.getElem?_eq_getElem (by omega) | rfl)))
    refine W _ _ (s.next + 1 + 3) (by simp -implicitDefEqProofs only [wL, Nat.reduceEqDiff, ↓reduceIte, reduceCtorEq, g0]) (by simp -implicitDefEqProofs only [wL, Nat.reduceEqDiff, ↓reduceIte, reduceCtorEq, g2]) (by simp -implicitDefEqProofs only [wL, Nat.reduceEqDiff, ↓reduceIte, reduceCtorEq, g3]) (by simp -implicitDefEqProofs only [wL, Nat.reduceEqDiff, ↓reduceIte, reduceCtorEq, g9]) (by simp -implicitDefEqProofs only [wL, Nat.reduceEqDiff, ↓reduceIte, reduceCtorEq]) (by simp -implicitDefEqProofs only [wL, Nat.reduceEqDiff, ↓reduceIte, reduceCtorEq]) (by simp only [wM]; repeat (first | rw [if_pos trivial] | rw [if_pos rfl] | rw [if_neg (by omega)]); exact oa) (by simp only [wM]; repeat (first | rw [if_pos trivial] | rw [if_pos rfl] | rw [if_neg (by omega)])) (by omega) (fun s2 r1 r2 r3 r4 => ?_)
    have r3' : ∀ t, t < 20 → t ≠ 13 → t ≠ 14 → t ≠ 11 → t ≠ 12 → s2.f t = s.f t := fun t h1 h2 h3 h4 h5 => by
      rw [r3 t (by omega) h2 h3]
      simp only [wL]
      repeat (first | rw [if_pos trivial] | rw [if_pos rfl] | rw [if_neg (by omega)])
    have h9 := (r3' 9 (by omega) (by omega) (by omega) (by omega) (by omega)).trans g9
    have h19 := (r3' 19 (by omega) (by omega) (by omega) (by omega) (by omega)).trans g19
    have h12 : s2.f 12 = .ptr (s.next + 1 + 3) 0 0 := (r3 12 (by omega) (by omega) (by omega)).trans (by simp -implicitDefEqProofs only [wL, Nat.reduceEqDiff, ↓reduceIte, reduceCtorEq])
    have oa2 : s2.H 1 = some (.own 25 [.agg (vecC (cutJ (waysV T w i (right.take r)) j))] false) := (r2 1 (by omega)).trans (by simp only [wM]; repeat (first | rw [if_pos trivial] | rw [if_pos rfl] | rw [if_neg (by omega)]); exact oa)
    (try simp only [wN] at r4)
    have hzr : IntKind.i64.wrap ((r + 1 : Nat) : Int) = ((r + 1 : Nat) : Int) := wrap64 (by omega) (by omega)
    repeat' with_reducible first
      | refine ewp_reg ?_ | refine xt_n ?_ | refine xb_n ?_
      | simp -implicitDefEqProofs only [wA, Nat.reduceEqDiff, ↓reduceIte, reduceCtorEq, Nat.reduceAdd, Int.cast_ofNat_Int, Int.reduceLT, Int.reduceLE, Int.reduceEq, Int.reduceToNat, decide_true, decide_false, Bool.false_eq_true, g0, g2, g3, g9, g17, g18, g19, h9, h12, h19, r1, oa2, hzr]
      | (refine ldQ_whole ?_)
      | (refine stQ_whole rfl (vecC_len _) ?_)
    exact ⟨by omega, r + 1, by omega, (r3' 0 (by omega) (by omega) (by omega) (by omega) (by omega)).trans g0, (r3' 2 (by omega) (by omega) (by omega) (by omega) (by omega)).trans g2, (r3' 3 (by omega) (by omega) (by omega) (by omega) (by omega)).trans g3, trivial, (r3' 17 (by omega) (by omega) (by omega) (by omega) (by omega)).trans g17, (r3' 18 (by omega) (by omega) (by omega) (by omega) (by omega)).trans g18, rfl, by omega, rfl⟩
  · rw [List.take_of_length_le (by omega)] at oa
    have hcj : cutJ (waysV T w i right) j j = waysN T w right i j := by unfold cutJ waysN; rw [if_pos (Nat.le_refl j)]
    repeat' with_reducible first
      | refine ewp_reg_seq ?_ | refine ewp_seq ?_ | refine ewp_ret ?_ | refine ewp_exit ?_ | refine xt_n ?_ | refine xt_e ?_ | refine xb_e ?_ | refine ewp_condQ ?_
      | simp -implicitDefEqProofs only [wA, Nat.reduceEqDiff, ↓reduceIte, reduceCtorEq, Nat.reduceAdd, Int.cast_ofNat_Int, Int.reduceLT, Int.reduceLE, Int.reduceEq, Int.reduceToNat, decide_true, decide_false, Bool.false_eq_true, g0, g2, g3, g9, g17, g18, g19, oa]
      | (refine condQ_i (fun h => ?_) (fun h => ?_) <;> have h_ := h <;> (try simp only [wD, reduceCtorEq] at h_) <;> (try (exfalso; first | omega | exact bf h_ (by assumption) | exact bt h_ (by assumption) | (refine absurd ?_ h_; focus assumption) | (refine absurd h_ ?_; focus assumption))) <;> (try simp only [h]))
      | (apply iaA_ptrQ (by omega))
      | (refine ldQ_cell (vecC_get (by omega)) ?_)
    refine post1 rfl (Or.inr rfl) ?_
    simp -implicitDefEqProofs only [wL, Nat.reduceEqDiff, ↓reduceIte, reduceCtorEq, g0, g2, g3, g9, g17, g18, g19]
    first | refine er_bool ?_ | refine er_int ?_ | refine er_str ?_ | refine er_sl_eq ?_ | refine er_asl_eq ?_
    try (with_reducible rfl)
    rw [hcj]
end Go.Proofs
