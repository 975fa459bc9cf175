/- Part of a proof that a law of the given program answers true. -/
import Derived.Test.YtpnfbnlhjdnnpaaWPC
set_option linter.unusedSimpArgs false
set_option linter.unusedVariables false
set_option maxHeartbeats 4000000
namespace Go.Proofs
open Go.E
def upd (a : Nat → Nat) (b x : Nat) : Nat → Nat := fun c => if c = b then x else a c
def vecC (a : Nat → Nat) : List V := (List.range 25).map fun b => vi (a b)
theorem vecC_len (a : Nat → Nat) : (vecC a).length = 25 := by simp [vecC]
theorem vecC_get {a : Nat → Nat} {b : Nat} (h : b < 25) : (vecC a)[b]? = some (vi (a b)) := by simp [vecC, h]
theorem vecC_set (a : Nat → Nat) (b x : Nat) : (vecC a).set b (vi x) = vecC (upd a b x) := by
 refine List.ext_getElem? fun i => ?_
 rw [List.getElem?_set]
 by_cases hi : i < 25
 · rw [vecC_get hi, vecC_len, vecC_get hi]
   by_cases e : b = i
   · subst e; simp [hi, upd]
   · simp [e, upd, Ne.symm e]
 · rw [List.getElem?_eq_none (by rw [vecC_len]; omega), List.getElem?_eq_none (by rw [vecC_len]; omega)]
   rw [vecC_len]; simp; omega
theorem vecC_lt {a : Nat → Nat} {b : Nat} (h : b < 25) : b < (vecC a).length := by rw [vecC_len]; exact h
theorem vecC_0 : ([.int .i64 0, .int .i64 0, .int .i64 0, .int .i64 0, .int .i64 0, .int .i64 0, .int .i64 0, .int .i64 0, .int .i64 0, .int .i64 0, .int .i64 0, .int .i64 0, .int .i64 0, .int .i64 0, .int .i64 0, .int .i64 0, .int .i64 0, .int .i64 0, .int .i64 0, .int .i64 0, .int .i64 0, .int .i64 0, .int .i64 0, .int .i64 0, .int .i64 0] : List V) = vecC (fun _ => 0) := rfl
theorem vecC_ext {a b : Nat → Nat} (h : ∀ i, i < 25 → a i = b i) : vecC a = vecC b := by
 unfold vecC
 refine List.map_congr_left fun i hi => ?_
 rw [h i (List.mem_range.1 hi)]
def matC (n : Nat → Nat → Nat) : List V := (List.range 625).map fun q => vi (n (q / 25) (q % 25))
theorem matC_len (n : Nat → Nat → Nat) : (matC n).length = 625 := by simp [matC]
theorem matC_get {n : Nat → Nat → Nat} {a b : Nat} (ha : a < 25) (hb : b < 25) : (matC n)[a * 25 + b]? = some (vi (n a b)) := by
 have h : a * 25 + b < 625 := by omega
 have e1 : (a * 25 + b) / 25 = a := by omega
 have e2 : (a * 25 + b) % 25 = b := by omega
 simp [matC, h, e1, e2]
theorem st_min2 {P : Program} [Glob P] {cls : Cls} {id : Nat} {s : St} {K : V → St → Prop} (x y : Opd) : stepOp P cls id s K (.minmax false [x, y]) = onS (minmaxV false [ev s x, ev s y]) fun v => K v s := rfl
theorem min2_ii (a b : Int) : minmaxV false [.int .i64 a, .int .i64 b] = some (.int .i64 (if b < a then b else a)) := by
 simp [minmaxV]
theorem min2_nat (x : Nat) : (if (x : Int) < 2 then (x : Int) else 2) = ((min 2 x : Nat) : Int) := by
 split
 · rw [Nat.min_eq_right (by omega)]
 · rw [Nat.min_eq_left (by omega)]; rfl
def sumN (f : Nat → Nat) : Nat → Nat
 | 0 => 0
 | n + 1 => sumN f n + f n
abbrev Tbl := Nat → Nat → Nat → Nat
def stepN (T : Tbl) (w : List Int) (s : Int) (v : Nat → Nat) : Nat → Nat := fun b =>
 if s < 1000 then (if 0 < b ∧ w[b - 1]? = some s then v (b - 1) else 0) else min 2 (sumN (fun a => v a * T (s - 1000).toNat a b) (b + 1))
def waysV (T : Tbl) (w : List Int) (i : Nat) (right : List Int) : Nat → Nat := right.foldl (fun v s => stepN T w s v) (fun b => if b = i then 1 else 0)
def waysN (T : Tbl) (w : List Int) (right : List Int) (i j : Nat) : Nat := waysV T w i right j
theorem stepN_le {T : Tbl} {w : List Int} {s : Int} {v : Nat → Nat} (h : ∀ b, v b ≤ 2) (b : Nat) : stepN T w s v b ≤ 2 := by
 unfold stepN; split
 · split
   · exact h _
   · omega
 · omega
theorem sumN_zero {f : Nat → Nat} {n : Nat} (h : ∀ a, a < n → f a = 0) : sumN f n = 0 := by
 induction n with
 | zero => rfl
 | succ n ih => unfold sumN; rw [ih fun a ha => h a (by omega), h n (by omega)]
theorem stepN_low {T : Tbl} {w : List Int} {s : Int} {v : Nat → Nat} {i : Nat} (h : ∀ b, b < i → v b = 0) (b : Nat) (hb : b < i) : stepN T w s v b = 0 := by
 unfold stepN; split
 · split
   · exact h _ (by omega)
   · rfl
 · rw [sumN_zero fun a ha => by rw [h a (by omega), Nat.zero_mul]]; rfl
@[reducible] def cntV (g : Grammar) (w : List Int) (nn : Nat) (T : Tbl) : V := .agg [.sl 6 false (g.toks.map Tok.V), .sl 2 false (g.nons.map Non.V), .sl 6 false (g.prods.map GPr.V), .str g.pro, .str g.tail, .sl 1 false (w.map (V.int .i64)), .sl 625 false ((List.range nn).map fun k => .agg (matC (T k)))]

def addN (T : Tbl) (k : Nat) (A B : Nat → Nat) (a c : Nat) : Nat → Nat := fun b => if a ≤ b ∧ b < c then min 2 (B b + A a * T k a b) else B b
theorem addN_0 (T : Tbl) (k : Nat) (A B : Nat → Nat) (a : Nat) : addN T k A B a a = B := by
 funext b; unfold addN; rw [if_neg (by omega)]
theorem addN_succ (T : Tbl) (k : Nat) (A B : Nat → Nat) (a c : Nat) (h : a ≤ c) : upd (addN T k A B a c) c (min 2 (B c + A a * T k a c)) = addN T k A B a (c + 1) := by
 funext b; unfold upd addN
 by_cases e : b = c
 · subst e; rw [if_pos rfl, if_pos (by omega)]
 · rw [if_neg e]
   by_cases h2 : a ≤ b ∧ b < c
   · rw [if_pos h2, if_pos (by omega)]
   · rw [if_neg h2, if_neg (by omega)]
theorem ld_mat {s : St} {n : Nat → Nat → Nat} {a b : Nat} {K : V → Prop} (ha : a < 25) (hb : b < 25) (hk : K (vi (n a b))) : onS (loadV s false 1 (.iptr 625 (.agg (matC n)) (a * 25 + b))) K := by
 have e : loadV s false 1 (.iptr 625 (.agg (matC n)) (a * 25 + b)) = some (vi (n a b)) := by
  simp only [loadV, partE]
  rw [if_neg (by simp [V.isAgg])]
  simp only [partC, V.cells, Bool.false_eq_true, if_false, if_true, matC_get ha hb]
 rw [e]; exact hk
theorem ways1 {s0 : St} {g : Grammar} {w : List Int} {nn k a j ia ib : Nat} {T : Tbl} {A B : Nat → Nat} {sy : Int} {Q : Exit → St → Prop} (f0 : s0.f 0 = .iptr 7 (cntV g w nn T) 0) (f3 : s0.f 3 = vi j) (f9 : s0.f 9 = .ptr ia 0 0) (f11 : s0.f 11 = vi sy) (f12 : s0.f 12 = .ptr ib 0 0) (f13 : s0.f 13 = vi a)
 (hia : s0.H ia = some (.own 25 [.agg (vecC A)] false)) (hib : s0.H ib = some (.own 25 [.agg (vecC B)] false)) (hne : ia ≠ ib) (haj : a ≤ j) (hj : j ≤ 24) (hsy : sy = 1000 + (k : Int)) (hk : k < nn) (hnn : nn ≤ 1000000) (hA : ∀ b, A b ≤ 2) (hB : ∀ b, B b ≤ 2) (hT : ∀ k a b, T k a b ≤ 2)
 (hQ : ∀ s', s'.H ib = some (.own 25 [.agg (vecC (addN T k A B a (j + 1)))] false) → (∀ id, id ≠ ib → s'.H id = s0.H id) → (∀ t, t < 55 → t ≠ 14 → s'.f t = s0.f t) → s0.next ≤ s'.next → Q .normal s') : ewp Try.prog e47n34 Q s0 := by
 repeat' with_reducible first
  | refine s_ ?_
  | simp -implicitDefEqProofs only [wZZ, seval, f0, f3, f9, f11, f12, f13]
 refine ewp_loopN ?nx3 (fun (b : Nat) s => s.f 0 = ?v3_0 ∧ s.f 2 = ?v3_2 ∧ s.f 3 = ?v3_3 ∧ s.f 9 = ?v3_9 ∧ s.f 11 = ?v3_11 ∧ s.f 12 = ?v3_12 ∧ s.f 13 = ?v3_13 ∧ s.f 17 = ?v3_17 ∧ s.f 18 = ?v3_18 ∧ s.f 19 = ?v3_19 ∧ s.f 14 = vi b ∧ (a ≤ b) ∧ (b ≤ j + 1) ∧ ((s.H ib = some (MObj.own 25 [.agg (vecC (addN T k A B a b))] false))) ∧ ((∀ id, id ≠ ib → s.H id = s0.H id)) ∧ ((∀ t, t < 55 → t ≠ 14 → s.f t = s0.f t))) (fun b => j + 1 - b) (a) wj_ (by refine ⟨?_, ?_, ?_, ?_, ?_, ?_, ?_, ?_, ?_, ?_, ?_, (by first | omega | (simp; done) | assumption), (by first | omega | (simp; done) | assumption), (by rw [addN_0]; simp only [wM]; exact hib), (by intro id hid; simp only [wM]), (by intro t h1 h2; simp only [wL]; repeat (first | rw [if_pos trivial] | rw [if_pos rfl] | rw [if_neg (by omega)]))⟩ <;> first | (simp -implicitDefEqProofs only [wL, wM, wN, wX, seval, Option.some.injEq] <;> exact wt_) | rfl | exact ⟨_, rfl⟩) ?_
 intro b s hnx ⟨g0, g2, g3, g9, g11, g12, g13, g17, g18, g19, g14, k3_0, k3_1, k3_2, k3_3, k3_4⟩
 have ob := k3_2
 have oa : s.H ia = some (.own 25 [.agg (vecC A)] false) := by rw [k3_3 ia hne]; exact hia
 have g0' := (k3_4 0 (by omega) (by omega)).trans f0
 have g3' := (k3_4 3 (by omega) (by omega)).trans f3
 have g9' := (k3_4 9 (by omega) (by omega)).trans f9
 have g11' := (k3_4 11 (by omega) (by omega)).trans f11
 have g12' := (k3_4 12 (by omega) (by omega)).trans f12
 have g13' := (k3_4 13 (by omega) (by omega)).trans f13
 by_cases hb : b ≤ j
 · have hAn : addN T k A B a b b = B b := by unfold addN; rw [if_neg (by omega)]
   have hsb : IntKind.i64.wrap (sy - 1000) = (k : Int) := by rw [hsy, wrap64 (by omega) (by omega)]; omega
   have hAa := hA a; have hBb := hB b; have hTk := hT k a b
   have hmul : (A a : Int) * (T k a b : Int) = ((A a * T k a b : Nat) : Int) := by simp
   have hml : A a * T k a b ≤ 4 := Nat.le_trans (Nat.mul_le_mul hAa hTk) (by decide)
   have hz1 : IntKind.i64.wrap ((A a * T k a b : Nat) : Int) = ((A a * T k a b : Nat) : Int) := wrap64 (by omega) (by omega)
   have hz2 : IntKind.i64.wrap ((B b : Int) + ((A a * T k a b : Nat) : Int)) = ((B b + A a * T k a b : Nat) : Int) := by rw [wrap64 (by omega) (by omega)]; omega
   have hzb : IntKind.i64.wrap ((b + 1 : Nat) : Int) = ((b + 1 : Nat) : Int) := wrap64 (by omega) (by omega)
   have hmn := min2_nat (B b + A a * T k a b)
   have hkk : (List.range nn)[(k : Int).toNat]? = some k := by simp [hk]
   repeat' with_reducible first
    | refine s_ ?_
    | simp -implicitDefEqProofs only [wZZ, seval, g0, g2, g3, g9, g11, g12, g13, g17, g18, g19, g14, f0, f3, f9, f11, f12, f13, ob, oa, hsb, hzb, hAn, hmul, hz1, hz2, st_min2, min2_ii, hmn, vecC_set]
    | (refine condQ_j (fun h h_ => ?_) (fun h h_ => ?_) <;> (try simp only [wD, reduceCtorEq] at h_) <;> (try exact wb_) <;> (try simp only [h]))
    | (apply iaA_ptrQ (by omega))
    | (refine ldQ_cell (vecC_get (by omega)) ?_)
    | (refine stQ_cell rfl rfl rfl (vecC_lt (by omega)) ?_)
    | (refine onS_i (iaA_iptr (by omega)) ?_)
    | (refine ld_mat (by omega) (by omega) ?_)
    | (apply ia_slQ; (focus omega); (exact wd_))
    | (apply ld_ipQ; (exact wu_))
   refine ⟨by omega, b + 1, by omega, trivial, trivial, trivial, trivial, trivial, trivial, trivial, trivial, trivial, trivial, rfl, by omega, by omega, ?_, fun id hid => ?_, fun t h1 h2 => ?_⟩
   · rw [addN_succ _ _ _ _ _ _ (by omega)]
   · (try simp only [wM])
     rw [if_neg hid]; exact k3_3 id hid
   · (try simp only [wL])
     repeat (first | rw [if_pos trivial] | rw [if_pos rfl] | rw [if_neg (by omega)])
     exact k3_4 t h1 h2
 · have e : b = j + 1 := by omega
   subst e
   repeat' with_reducible first
    | refine s_ ?_
    | simp -implicitDefEqProofs only [wZZ, seval, g0, g2, g3, g9, g11, g12, g13, g17, g18, g19, g14, f0, f3, f9, f11, f12, f13]
    | (refine condQ_j (fun h h_ => ?_) (fun h h_ => ?_) <;> (try simp only [wD, reduceCtorEq] at h_) <;> (try exact wb_) <;> (try simp only [h]))
   refine hQ _ (by simp only [wM]; exact ob) (fun id hid => by simp only [wM]; exact k3_3 id hid) (fun t h1 h2 => ?_) wh_
   simp only [wL]
   repeat (first | rw [if_pos trivial] | rw [if_pos rfl] | rw [if_neg (by omega)])
   exact k3_4 t h1 h2
end Go.Proofs
