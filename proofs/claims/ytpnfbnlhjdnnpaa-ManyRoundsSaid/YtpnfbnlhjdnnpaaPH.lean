/-
  Part of a proof that a law of the given program answers true: contracts of its functions, and the law. Holds for inputs of at most 1048576 values and letters in all.
-/
import Derived.Test.YtpnfbnlhjdnnpaaPG
set_option linter.unusedSimpArgs false
set_option linter.unusedVariables false
set_option maxHeartbeats 4000000
namespace Go.Proofs
open Go.E

theorem sumN_le {f g : Nat → Nat} {n : Nat} (h : ∀ a, a < n → f a ≤ g a) : sumN f n ≤ sumN g n := by
  induction n with
  | zero => exact Nat.le_refl _
  | succ n ih => have := h n (by omega); have := ih fun a ha => h a (by omega); unfold sumN; omega
/-- What there is between two places. -/
def LeIn (nn i j : Nat) (T U : Tbl) : Prop := ∀ k a b, k < nn → i ≤ a → a ≤ b → b ≤ j → T k a b ≤ U k a b
theorem waysN_loc {T U : Tbl} {w : List Int} {nn i j : Nat} (hT : LeIn nn i j T U) (l : List Int) (hl : ∀ s ∈ l, s < 1000 ∨ ∃ k : Nat, s = 1000 + (k : Int) ∧ k < nn) : waysN T w l i j ≤ waysN U w l i j := by
  have h : ∀ (l : List Int) (v v' : Nat → Nat), (∀ s ∈ l, s < 1000 ∨ ∃ k : Nat, s = 1000 + (k : Int) ∧ k < nn) → (∀ b, b ≤ j → v b ≤ v' b) → (∀ b, b < i → v b = 0) → ∀ b, b ≤ j → l.foldl (fun v s => stepN T w s v) v b ≤ l.foldl (fun v s => stepN U w s v) v' b := by
    intro l
    induction l with
    | nil => intro v v' _ h _; exact h
    | cons s r ih =>
      intro v v' hs h h0
      refine ih _ _ (fun x hx => hs x (List.mem_cons_of_mem _ hx)) (fun b hb => ?_) (stepN_low h0)
      show stepN T w s v b ≤ stepN U w s v' b
      unfold stepN
      split
      · split
        · exact h _ (by omega)
        · omega
      · rename_i h1000
        rcases hs s (by simp) with e | ⟨k, e, hk⟩
        · exact absurd e h1000
        · have ek : (s - 1000).toNat = k := by omega
          have := sumN_le (n := b + 1) (f := fun a => v a * T (s - 1000).toNat a b) (g := fun a => v' a * U (s - 1000).toNat a b) fun a ha => by
            rw [ek]
            by_cases hia : i ≤ a
            · exact Nat.mul_le_mul (h a (by omega)) (hT k a b hk hia (by omega) hb)
            · rw [h0 a (by omega), Nat.zero_mul]; exact Nat.zero_le _
          omega
  exact h l _ _ hl (fun b _ => Nat.le_refl _) (fun b hb => by rw [if_neg (by omega)]) j (Nat.le_refl _)
def SymOk (nn : Nat) (l : List GPr) : Prop := ∀ p ∈ l, ∀ s ∈ p.right, s < 1000 ∨ ∃ k : Nat, s = 1000 + (k : Int) ∧ k < nn
theorem sumP_loc {T U : Tbl} {w : List Int} {nn i j : Nat} (hT : LeIn nn i j T U) (l : List GPr) (hl : SymOk nn l) (k : Nat) : sumP T l w i j k ≤ sumP U l w i j k := by
  have h : ∀ (l : List GPr) (S S' : Nat → Nat), SymOk nn l → (∀ k, S k ≤ S' k) → ∀ k, l.foldl (sumS T w i j) S k ≤ l.foldl (sumS U w i j) S' k := by
    intro l
    induction l with
    | nil => intro S S' _ h; exact h
    | cons p r ih =>
      refine fun S S' hs h => ih _ _ (fun q hq => hs q (List.mem_cons_of_mem _ hq)) fun k => ?_
      unfold sumS upd
      have := waysN_loc (w := w) hT p.right (hs p (by simp))
      have := h p.left.toNat
      split
      · omega
      · exact h k
  exact h l _ _ hl (fun _ => Nat.le_refl _) k
theorem sumP_eq {T U : Tbl} {w : List Int} {nn i j : Nat} (hT : ∀ k a b, i ≤ a → a ≤ b → b ≤ j → T k a b = U k a b) {l : List GPr} (hl : SymOk nn l) (k : Nat) : sumP T l w i j k = sumP U l w i j k :=
  Nat.le_antisymm (sumP_loc (fun k a b _ h1 h2 h3 => Nat.le_of_eq (hT k a b h1 h2 h3)) l hl k) (sumP_loc (fun k a b _ h1 h2 h3 => Nat.le_of_eq (hT k a b h1 h2 h3).symm) l hl k)
/-- A table that no sum goes above. -/
def PreT (g : Grammar) (nn : Nat) (w : List Int) (U : Tbl) : Prop := ∀ k i j, k < nn → i ≤ j → j ≤ w.length → sumP U g.prods w i j k ≤ U k i j
/-- The least table. -/
structure IsCount (g : Grammar) (nn : Nat) (w : List Int) (T : Tbl) : Prop where
  le2 : ∀ k a b, T k a b ≤ 2
  fix : ∀ k i j, k < nn → i ≤ j → j ≤ w.length → sumP T g.prods w i j k = T k i j
  min : ∀ U, PreT g nn w U → ∀ k i j, k < nn → i ≤ j → j ≤ w.length → T k i j ≤ U k i j
theorem IsCount.uniq {g : Grammar} {nn : Nat} {w : List Int} {T U : Tbl} (h : IsCount g nn w T) (h' : IsCount g nn w U) (k i j : Nat) (hk : k < nn) (hi : i ≤ j) (hj : j ≤ w.length) : T k i j = U k i j :=
  Nat.le_antisymm (h.min U (fun k i j a b c => Nat.le_of_eq (h'.fix k i j a b c)) k i j hk hi hj) (h'.min T (fun k i j a b c => Nat.le_of_eq (h.fix k i j a b c)) k i j hk hi hj)
/-- What is counted so far: all that is shorter, and of this length what begins ahead. -/
structure CInv (g : Grammar) (nn : Nat) (w : List Int) (n st : Nat) (T : Tbl) : Prop where
  le2 : ∀ k a b, T k a b ≤ 2
  fix : ∀ k i j, k < nn → i ≤ j → j ≤ w.length → (j < i + n ∨ j = i + n ∧ i < st) → sumP T g.prods w i j k = T k i j
  zero : ∀ k i j, ¬ (i ≤ j ∧ (j < i + n ∨ j = i + n ∧ i < st)) → T k i j = 0
  min : ∀ U, PreT g nn w U → LeIn nn 0 w.length T U
theorem rnds_out {nn : Nat} {l : List GPr} {w : List Int} {i j : Nat} {T : Tbl} (n : Nat) (k a b : Nat) (h : ¬ (a = i ∧ b = j)) : rnds nn l w i j T n k a b = T k a b := by
  induction n with
  | zero => rfl
  | succ n ih => unfold rnds roundN; rw [if_neg (fun e => h e.2)]; exact ih
theorem rnds_out2 {nn : Nat} {l : List GPr} {w : List Int} {i j : Nat} {T : Tbl} (n : Nat) (k a b : Nat) (h : ¬ k < nn) : rnds nn l w i j T n k a b = T k a b := by
  induction n with
  | zero => rfl
  | succ n ih => unfold rnds roundN; rw [if_neg (fun e => h e.1)]; exact ih
theorem rnds_min {g : Grammar} {nn : Nat} {w : List Int} {i j : Nat} {T U : Tbl} (hs : SymOk nn g.prods) (hU : PreT g nn w U) (hij : i ≤ j) (hj : j ≤ w.length) (h : LeIn nn 0 w.length T U) (n : Nat) : LeIn nn 0 w.length (rnds nn g.prods w i j T n) U := by
  induction n with
  | zero => exact h
  | succ n ih =>
    intro k a b hk h1 h2 h3
    unfold rnds roundN
    split
    · rename_i hc
      obtain ⟨_, rfl, rfl⟩ := hc
      refine Nat.le_trans (sumP_loc (fun k a' b' q1 q2 q3 q4 => ih k a' b' q1 (by omega) q3 (by omega)) _ hs k) (hU k a b hk hij hj)
    · exact ih k a b hk h1 h2 h3
theorem CInv.pre {g : Grammar} {nn : Nat} {w : List Int} {n st : Nat} {T : Tbl} (h : CInv g nn w n st T) (k : Nat) : T k st (st + n) ≤ sumP T g.prods w st (st + n) k := by
  rw [h.zero k st (st + n) (by omega)]; exact Nat.zero_le _
theorem CInv.step {g : Grammar} {nn : Nat} {w : List Int} {n st N : Nat} {T : Tbl} (hs : SymOk nn g.prods) (h : CInv g nn w n st T) (hw : st + n ≤ w.length) (hst : ∀ k, k < nn → sumP (rnds nn g.prods w st (st + n) T N) g.prods w st (st + n) k = rnds nn g.prods w st (st + n) T N k st (st + n)) : CInv g nn w n (st + 1) (rnds nn g.prods w st (st + n) T N) := by
  refine ⟨rnds_le h.le2 N, fun k i j hk h1 h2 h3 => ?_, fun k i j h1 => ?_, fun U hU => rnds_min hs hU (by omega) hw (h.min U hU) N⟩
  · by_cases e : i = st ∧ j = st + n
    · obtain ⟨rfl, rfl⟩ := e; exact hst k hk
    · rw [rnds_out N k i j (by omega), ← h.fix k i j hk h1 h2 (by omega)]
      exact sumP_eq (fun k a b q1 q2 q3 => rnds_out N k a b (by omega)) hs k
  · by_cases hk : k < nn
    · rw [rnds_out N k i j (by omega)]; exact h.zero k i j (by omega)
    · rw [rnds_out2 N k i j hk]; exact h.zero k i j (by omega)
theorem CInv.next {g : Grammar} {nn : Nat} {w : List Int} {n st : Nat} {T : Tbl} (h : CInv g nn w n st T) (hw : ¬ st + n ≤ w.length) (hz : n ≤ w.length) : CInv g nn w (n + 1) 0 T := by
  refine ⟨h.le2, fun k i j hk h1 h2 h3 => h.fix k i j hk h1 h2 (by omega), fun k i j h1 => ?_, h.min⟩
  exact h.zero k i j (by omega)
theorem CInv.init (g : Grammar) (nn : Nat) (w : List Int) : CInv g nn w 0 0 (fun _ _ _ => 0) :=
  ⟨fun _ _ _ => Nat.zero_le _, fun k i j _ h1 _ h3 => by omega, fun _ _ _ _ => rfl, fun U _ k a b _ _ _ _ => Nat.zero_le _⟩
theorem CInv.done {g : Grammar} {nn : Nat} {w : List Int} {n : Nat} {T : Tbl} (h : CInv g nn w n 0 T) (hn : w.length < n) : IsCount g nn w T :=
  ⟨h.le2, fun k i j hk h1 h2 => h.fix k i j hk h1 h2 (by omega), fun U hU k i j hk h1 h2 => h.min U hU k i j hk (by omega) h1 h2⟩
theorem tabV_0 (nn : Nat) : List.replicate nn (V.agg (List.replicate 625 (V.int .i64 0))) = tabV nn (fun _ _ _ => 0) := by
  refine List.ext_getElem? fun i => ?_
  have e : V.agg (List.replicate 625 (V.int .i64 0)) = V.agg (matC (fun _ _ => 0)) := by
    refine congrArg V.agg (List.ext_getElem? fun q => ?_)
    by_cases h : q < 625
    · rw [List.getElem?_replicate, if_pos h]; unfold matC; rw [List.getElem?_map, List.getElem?_range h]; rfl
    · rw [List.getElem?_eq_none (by rw [List.length_replicate]; omega), List.getElem?_eq_none (by rw [matC_len]; omega)]
  by_cases h : i < nn
  · rw [tabV_get h, List.getElem?_replicate, if_pos h, e]
  · rw [List.getElem?_eq_none (by rw [List.length_replicate]; omega), List.getElem?_eq_none (by rw [tabV_len]; omega)]
/-- What is told of a symbol and tokens. -/
def cntN (g : Grammar) (s : Int) (w : List Int) (T : Tbl) : Int :=
  if w.length > 24 then -1 else if 0 ≤ s ∧ s < g.toks.length then (if w = [s] then 1 else 0) else if s < 1000 ∨ s - 1000 ≥ g.nons.length then 0 else T (s - 1000).toNat 0 w.length
end Go.Proofs


set_option maxHeartbeats 4000000
set_option maxRecDepth 20000
namespace Go.Proofs
open Go.E

theorem zero625 : V.agg [(.int .i64 0), (.int .i64 0), (.int .i64 0), (.int .i64 0), (.int .i64 0), (.int .i64 0), (.int .i64 0), (.int .i64 0), (.int .i64 0), (.int .i64 0), (.int .i64 0), (.int .i64 0), (.int .i64 0), (.int .i64 0), (.int .i64 0), (.int .i64 0), (.int .i64 0), (.int .i64 0), (.int .i64 0), (.int .i64 0), (.int .i64 0), (.int .i64 0), (.int .i64 0), (.int .i64 0), (.int .i64 0), (.int .i64 0), (.int .i64 0), (.int .i64 0), (.int .i64 0), (.int .i64 0), (.int .i64 0), (.int .i64 0), (.int .i64 0), (.int .i64 0), (.int .i64 0), (.int .i64 0), (.int .i64 0), (.int .i64 0), (.int .i64 0), (.int .i64 0), (.int .i64 0), (.int .i64 0), (.int .i64 0), (.int .i64 0), (.int .i64 0), (.int .i64 0), (.int .i64 0), (.int .i64 0), (.int .i64 0), (.int .i64 0), (.int .i64 0), (.int .i64 0), (.int .i64 0), (.int .i64 0), (.int .i64 0), (.int .i64 0), (.int .i64 0), (.int .i64 0), (.int .i64 0), (.int .i64 0), (.int .i64 0), (.int .i64 0), (.int .i64 0), (.int .i64 0), (.int .i64 0), (.int .i64 0), (.int .i64 0), (.int .i64 0), (.int .i64 0), (.int .i64 0), (.int .i64 0), (.int .i64 0), (.int .i64 0), (.int .i64 0), (.int .i64 0), (.int .i64 0), (.int .i64 0), (.int .i64 0), (.int .i64 0), (.int .i64 0), (.int .i64 0), (.int .i64 0), (.int .i64 0), (.int .i64 0), (.int .i64 0), (.int .i64 0), (.int .i64 0), (.int .i64 0), (.int .i64 0), (.int .i64 0), (.int .i64 0), (.int .i64 0), (.int .i64 0), (.int .i64 0), (.int .i64 0), (.int .i64 0), (.int .i64 0), (.int .i64 0), (.int .i64 0), (.int .i64 0), (.int .i64 0), (.int .i64 0), (.int .i64 0), (.int .i64 0), (.int .i64 0), (.int .i64 0), (.int .i64 0), (.int .i64 0), (.int .i64 0), (.int .i64 0), (.int .i64 0), (.int .i64 0), (.int .i64 0), (.int .i64 0), (.int .i64 0), (.int .i64 0), (.int .i64 0), (.int .i64 0), (.int .i64 0), (.int .i64 0), (.int .i64 0), (.int .i64 0), (.int .i64 0), (.int .i64 0), (.int .i64 0), (.int .i64 0), (.int .i64 0), (.int .i64 0), (.int .i64 0), (.int .i64 0), (.int .i64 0), (.int .i64 0), (.int .i64 0), (.int .i64 0), (.int .i64 0), (.int .i64 0), (.int .i64 0), (.int .i64 0), (.int .i64 0), (.int .i64 0), (.int .i64 0), (.int .i64 0), (.int .i64 0), (.int .i64 0), (.int .i64 0), (.int .i64 0), (.int .i64 0), (.int .i64 0), (.int .i64 0), (.int .i64 0), (.int .i64 0), (.int .i64 0), (.int .i64 0), (.int .i64 0), (.int .i64 0), (.int .i64 0), (.int .i64 0), (.int .i64 0), (.int .i64 0), (.int .i64 0), (.int .i64 0), (.int .i64 0), (.int .i64 0), (.int .i64 0), (.int .i64 0), (.int .i64 0), (.int .i64 0), (.int .i64 0), (.int .i64 0), (.int .i64 0), (.int .i64 0), (.int .i64 0), (.int .i64 0), (.int .i64 0), (.int .i64 0), (.int .i64 0), (.int .i64 0), (.int .i64 0), (.int .i64 0), (.int .i64 0), (.int .i64 0), (.int .i64 0), (.int .i64 0), (.int .i64 0), (.int .i64 0), (.int .i64 0), (.int .i64 0), (.int .i64 0), (.int .i64 0), (.int .i64 0), (.int .i64 0), (.int .i64 0), (.int .i64 0), (.int .i64 0), (.int .i64 0), (.int .i64 0), (.int .i64 0), (.int .i64 0), (.int .i64 0), (.int .i64 0), (.int .i64 0), (.int .i64 0), (.int .i64 0), (.int .i64 0), (.int .i64 0), (.int .i64 0), (.int .i64 0), (.int .i64 0), (.int .i64 0), (.int .i64 0), (.int .i64 0), (.int .i64 0), (.int .i64 0), (.int .i64 0), (.int .i64 0), (.int .i64 0), (.int .i64 0), (.int .i64 0), (.int .i64 0), (.int .i64 0), (.int .i64 0), (.int .i64 0), (.int .i64 0), (.int .i64 0), (.int .i64 0), (.int .i64 0), (.int .i64 0), (.int .i64 0), (.int .i64 0), (.int .i64 0), (.int .i64 0), (.int .i64 0), (.int .i64 0), (.int .i64 0), (.int .i64 0), (.int .i64 0), (.int .i64 0), (.int .i64 0), (.int .i64 0), (.int .i64 0), (.int .i64 0), (.int .i64 0), (.int .i64 0), (.int .i64 0), (.int .i64 0), (.int .i64 0), (.int .i64 0), (.int .i64 0), (.int .i64 0), (.int .i64 0), (.int .i64 0), (.int .i64 0), (.int .i64 0), (.int .i64 0), (.int .i64 0), (.int .i64 0), (.int .i64 0), (.int .i64 0), (.int .i64 0), (.int .i64 0), (.int .i64 0), (.int .i64 0), (.int .i64 0), (.int .i64 0), (.int .i64 0), (.int .i64 0), (.int .i64 0), (.int .i64 0), (.int .i64 0), (.int .i64 0), (.int .i64 0), (.int .i64 0), (.int .i64 0), (.int .i64 0), (.int .i64 0), (.int .i64 0), (.int .i64 0), (.int .i64 0), (.int .i64 0), (.int .i64 0), (.int .i64 0), (.int .i64 0), (.int .i64 0), (.int .i64 0), (.int .i64 0), (.int .i64 0), (.int .i64 0), (.int .i64 0), (.int .i64 0), (.int .i64 0), (.int .i64 0), (.int .i64 0), (.int .i64 0), (.int .i64 0), (.int .i64 0), (.int .i64 0), (.int .i64 0), (.int .i64 0), (.int .i64 0), (.int .i64 0), (.int .i64 0), (.int .i64 0), (.int .i64 0), (.int .i64 0), (.int .i64 0), (.int .i64 0), (.int .i64 0), (.int .i64 0), (.int .i64 0), (.int .i64 0), (.int .i64 0), (.int .i64 0), (.int .i64 0), (.int .i64 0), (.int .i64 0), (.int .i64 0), (.int .i64 0), (.int .i64 0), (.int .i64 0), (.int .i64 0), (.int .i64 0), (.int .i64 0), (.int .i64 0), (.int .i64 0), (.int .i64 0), (.int .i64 0), (.int .i64 0), (.int .i64 0), (.int .i64 0), (.int .i64 0), (.int .i64 0), (.int .i64 0), (.int .i64 0), (.int .i64 0), (.int .i64 0), (.int .i64 0), (.int .i64 0), (.int .i64 0), (.int .i64 0), (.int .i64 0), (.int .i64 0), (.int .i64 0), (.int .i64 0), (.int .i64 0), (.int .i64 0), (.int .i64 0), (.int .i64 0), (.int .i64 0), (.int .i64 0), (.int .i64 0), (.int .i64 0), (.int .i64 0), (.int .i64 0), (.int .i64 0), (.int .i64 0), (.int .i64 0), (.int .i64 0), (.int .i64 0), (.int .i64 0), (.int .i64 0), (.int .i64 0), (.int .i64 0), (.int .i64 0), (.int .i64 0), (.int .i64 0), (.int .i64 0), (.int .i64 0), (.int .i64 0), (.int .i64 0), (.int .i64 0), (.int .i64 0), (.int .i64 0), (.int .i64 0), (.int .i64 0), (.int .i64 0), (.int .i64 0), (.int .i64 0), (.int .i64 0), (.int .i64 0), (.int .i64 0), (.int .i64 0), (.int .i64 0), (.int .i64 0), (.int .i64 0), (.int .i64 0), (.int .i64 0), (.int .i64 0), (.int .i64 0), (.int .i64 0), (.int .i64 0), (.int .i64 0), (.int .i64 0), (.int .i64 0), (.int .i64 0), (.int .i64 0), (.int .i64 0), (.int .i64 0), (.int .i64 0), (.int .i64 0), (.int .i64 0), (.int .i64 0), (.int .i64 0), (.int .i64 0), (.int .i64 0), (.int .i64 0), (.int .i64 0), (.int .i64 0), (.int .i64 0), (.int .i64 0), (.int .i64 0), (.int .i64 0), (.int .i64 0), (.int .i64 0), (.int .i64 0), (.int .i64 0), (.int .i64 0), (.int .i64 0), (.int .i64 0), (.int .i64 0), (.int .i64 0), (.int .i64 0), (.int .i64 0), (.int .i64 0), (.int .i64 0), (.int .i64 0), (.int .i64 0), (.int .i64 0), (.int .i64 0), (.int .i64 0), (.int .i64 0), (.int .i64 0), (.int .i64 0), (.int .i64 0), (.int .i64 0), (.int .i64 0), (.int .i64 0), (.int .i64 0), (.int .i64 0), (.int .i64 0), (.int .i64 0), (.int .i64 0), (.int .i64 0), (.int .i64 0), (.int .i64 0), (.int .i64 0), (.int .i64 0), (.int .i64 0), (.int .i64 0), (.int .i64 0), (.int .i64 0), (.int .i64 0), (.int .i64 0), (.int .i64 0), (.int .i64 0), (.int .i64 0), (.int .i64 0), (.int .i64 0), (.int .i64 0), (.int .i64 0), (.int .i64 0), (.int .i64 0), (.int .i64 0), (.int .i64 0), (.int .i64 0), (.int .i64 0), (.int .i64 0), (.int .i64 0), (.int .i64 0), (.int .i64 0), (.int .i64 0), (.int .i64 0), (.int .i64 0), (.int .i64 0), (.int .i64 0), (.int .i64 0), (.int .i64 0), (.int .i64 0), (.int .i64 0), (.int .i64 0), (.int .i64 0), (.int .i64 0), (.int .i64 0), (.int .i64 0), (.int .i64 0), (.int .i64 0), (.int .i64 0), (.int .i64 0), (.int .i64 0), (.int .i64 0), (.int .i64 0), (.int .i64 0), (.int .i64 0), (.int .i64 0), (.int .i64 0), (.int .i64 0), (.int .i64 0), (.int .i64 0), (.int .i64 0), (.int .i64 0), (.int .i64 0), (.int .i64 0), (.int .i64 0), (.int .i64 0), (.int .i64 0), (.int .i64 0), (.int .i64 0), (.int .i64 0), (.int .i64 0), (.int .i64 0), (.int .i64 0), (.int .i64 0), (.int .i64 0), (.int .i64 0), (.int .i64 0), (.int .i64 0), (.int .i64 0), (.int .i64 0), (.int .i64 0), (.int .i64 0), (.int .i64 0), (.int .i64 0), (.int .i64 0), (.int .i64 0), (.int .i64 0), (.int .i64 0), (.int .i64 0), (.int .i64 0), (.int .i64 0), (.int .i64 0), (.int .i64 0), (.int .i64 0), (.int .i64 0), (.int .i64 0), (.int .i64 0), (.int .i64 0), (.int .i64 0), (.int .i64 0), (.int .i64 0), (.int .i64 0), (.int .i64 0), (.int .i64 0), (.int .i64 0), (.int .i64 0), (.int .i64 0), (.int .i64 0), (.int .i64 0), (.int .i64 0), (.int .i64 0), (.int .i64 0), (.int .i64 0), (.int .i64 0), (.int .i64 0), (.int .i64 0), (.int .i64 0), (.int .i64 0), (.int .i64 0), (.int .i64 0), (.int .i64 0), (.int .i64 0), (.int .i64 0), (.int .i64 0), (.int .i64 0), (.int .i64 0), (.int .i64 0), (.int .i64 0), (.int .i64 0), (.int .i64 0), (.int .i64 0), (.int .i64 0), (.int .i64 0), (.int .i64 0), (.int .i64 0), (.int .i64 0), (.int .i64 0), (.int .i64 0), (.int .i64 0), (.int .i64 0), (.int .i64 0), (.int .i64 0), (.int .i64 0), (.int .i64 0), (.int .i64 0), (.int .i64 0), (.int .i64 0), (.int .i64 0), (.int .i64 0), (.int .i64 0), (.int .i64 0), (.int .i64 0), (.int .i64 0), (.int .i64 0), (.int .i64 0), (.int .i64 0), (.int .i64 0), (.int .i64 0), (.int .i64 0), (.int .i64 0), (.int .i64 0), (.int .i64 0), (.int .i64 0), (.int .i64 0), (.int .i64 0), (.int .i64 0), (.int .i64 0), (.int .i64 0), (.int .i64 0), (.int .i64 0), (.int .i64 0), (.int .i64 0), (.int .i64 0), (.int .i64 0), (.int .i64 0), (.int .i64 0), (.int .i64 0), (.int .i64 0), (.int .i64 0), (.int .i64 0), (.int .i64 0), (.int .i64 0), (.int .i64 0), (.int .i64 0), (.int .i64 0), (.int .i64 0), (.int .i64 0), (.int .i64 0)] = V.agg (List.replicate 625 (V.int .i64 0)) := rfl
theorem mkTab {cls : Cls} {id : Nat} {s : St} {K : V → St → Prop} {zero : V} {k k' : IntKind} {m : Int} {nn : Nat} (hz : zero = V.agg (List.replicate 625 (V.int .i64 0))) (hmn : m = nn) (hb : nn ≤ 1000000)
    (hk : K (.msl id 625 0 nn) (s.setO id (some (.own 625 (tabV nn (fun _ _ _ => 0)) false)))) : mkQ cls id s K true 625 5000 zero (.int k m) (.int k' m) := by
  subst hmn
  refine mkQ_T (by omega) (by simp; omega) (by unfold maxLen; simp; omega) ?_
  rw [hz, Int.toNat_natCast, tabV_0]
  exact hk
theorem iaA_ptr0 {len size id k o : Nat} {kd : IntKind} (h : 0 < len) : iaddrAV len size (.ptr id k o) (.int kd 0) = some (.ptr id k o) := by simp [iaddrAV, idxOf, h]
/-- What Count answers. -/
def cntP (g : Grammar) (nn : Nat) (s : Int) (w : List Int) (x : Int) : Prop :=
  if w.length > 24 then x = -1 else if 0 ≤ s ∧ s < g.toks.length then x = (if w = [s] then 1 else 0) else if s < 1000 ∨ s - 1000 ≥ nn then x = 0 else ∃ T, IsCount g nn w T ∧ x = T (s - 1000).toNat 0 w.length
theorem cntPre {g : Grammar} {nn : Nat} {s : Int} {w : List Int} (hg : Cnt g nn) (hs : s < 9223372036854775808) (hwl : w.length ≤ 1000000) (htl : g.toks.length ≤ 1000000) {Q : Exit → St → Prop} {next : Nat} {H : Nat → Option MObj}
    (hE : ∀ s' x, s'.f 6 = vi x → (w.length > 24 ∨ (0 ≤ s ∧ s < g.toks.length) ∨ s < 1000 ∨ s - 1000 ≥ nn) → cntP g nn s w x → Q .ret s')
    (hQ : ∀ s' m ni, ¬ w.length > 24 → ¬ (0 ≤ s ∧ s < g.toks.length) → ¬ (s < 1000 ∨ s - 1000 ≥ nn) → s'.f 1 = vi s → s'.f 2 = .sl 1 false (w.map (V.int .i64)) → s'.f 7 = .ptr m 0 0 → s'.H m = some (.own 7 [cntC g w ni nn] false) → s'.H ni = some (.own 625 (tabV nn (fun _ _ _ => 0)) false) → m < s'.next → ni < s'.next → m ≠ ni → ewp Try.prog e13n49 Q s') : ewp Try.prog e13n52 Q (entry [g.V, vi s, .sl 1 false (w.map (V.int .i64))] H next) := by
  show ewp _ (.seq (.reg e13r0) (.seq e13n22 (.seq (.reg e13r23) e13n49))) _ _
  generalize e13n49 = F at hQ
  have hnl := hg.nl
  have hnb := hg.nb
  have hzs : 1000 ≤ s → IntKind.i64.wrap (s - 1000) = s - 1000 := fun h => wrap64 (by omega) (by omega)
  by_cases h24 : w.length > 24
  · repeat' with_reducible first
      | refine ewp_reg_seq ?_ | refine ewp_seq ?_ | refine ewp_ret ?_ | refine ewp_block ?_ | refine xt_r ?_ | refine xb_r ?_ | refine ewp_condQ ?_
      | simp -implicitDefEqProofs only [wA, Nat.reduceEqDiff, ↓reduceIte, reduceCtorEq, Nat.reduceAdd, Int.cast_ofNat_Int, Int.reduceLT, Int.reduceLE, Int.reduceEq, Int.reduceToNat, decide_true, decide_false, Bool.false_eq_true]
      | (refine condQ_i (fun h => ?_) (fun h => ?_) <;> have h_ := h <;> (try simp only [wD, reduceCtorEq] at h_) <;> (try (exfalso; first | omega | exact bf h_ (by assumption) | exact bt h_ (by assumption) | (refine absurd ?_ h_; focus assumption) | (refine absurd h_ ?_; focus assumption))) <;> (try simp only [h]))
      | (apply boxQ_i; (focus with_unfolding_all rfl); (focus with_unfolding_all rfl))
    exact hE _ (-1) (by simp -implicitDefEqProofs only [wL, Nat.reduceEqDiff, ↓reduceIte, reduceCtorEq]) (Or.inl h24) (by unfold cntP; rw [if_pos h24])
  by_cases ht : 0 ≤ s ∧ s < g.toks.length
  · repeat' with_reducible first
      | refine ewp_reg_seq ?_ | refine ewp_seq ?_ | refine ewp_skip ?_ | refine ewp_ret ?_ | refine ewp_block ?_ | refine xt_n ?_ | refine xt_r ?_ | refine xb_r ?_ | refine ewp_condQ ?_ | refine condQ_F ?_ | refine L_gdQ ?_ | refine gdQ_TT ?_ | refine gdQ_FT ?_
      | simp -implicitDefEqProofs only [wA, Nat.reduceEqDiff, ↓reduceIte, reduceCtorEq, Nat.reduceAdd, Int.cast_ofNat_Int, Int.reduceLT, Int.reduceLE, Int.reduceEq, Int.reduceToNat, decide_true, decide_false, Bool.false_eq_true]
      | (refine condQ_i (fun h => ?_) (fun h => ?_) <;> have h_ := h <;> (try simp only [wD, reduceCtorEq] at h_) <;> (try (exfalso; first | omega | exact bf h_ (by assumption) | exact bt h_ (by assumption) | (refine absurd ?_ h_; focus assumption) | (refine absurd h_ ?_; focus assumption))) <;> (try simp only [h]))
      | ((first | refine gdQ_iT (fun h => ?_) (fun h => ?_) | refine gdQ_iF (fun h => ?_) (fun h => ?_)) <;> have h_ := h <;> (try simp only [wD, reduceCtorEq] at h_) <;> (try (exfalso; first | omega | exact bf h_ (by assumption) | exact bt h_ (by assumption) | (refine absurd ?_ h_; focus assumption) | (refine absurd h_ ?_; focus assumption))) <;> (try simp only [h]))
      | (apply ia_slQ; (focus omega); (focus (first | assumption | exact List.getElem?_eq_getElem (by omega) | rfl)))
      | (apply ldQ_cell; (focus with_unfolding_all rfl))
      | (apply boxQ_i; (focus with_unfolding_all rfl); (focus with_unfolding_all rfl))
    · refine hE _ 1 (by simp -implicitDefEqProofs only [wL, Nat.reduceEqDiff, ↓reduceIte, reduceCtorEq]) (Or.inr (Or.inl ht)) (by unfold cntP; rw [if_neg h24, if_pos ht, if_pos]; exact List.ext_getElem (by simp; omega) (fun i h1 h2 => by have e : i = 0 := (by simp at h2; omega); subst e; simpa using h_))
    · refine hE _ 0 (by simp -implicitDefEqProofs only [wL, Nat.reduceEqDiff, ↓reduceIte, reduceCtorEq]) (Or.inr (Or.inl ht)) (by unfold cntP; rw [if_neg h24, if_pos ht, if_neg]; intro e; apply h_; simp [e])
    · refine hE _ 0 (by simp -implicitDefEqProofs only [wL, Nat.reduceEqDiff, ↓reduceIte, reduceCtorEq]) (Or.inr (Or.inl ht)) (by unfold cntP; rw [if_neg h24, if_pos ht, if_neg]; intro e; apply h_; simp [e])
  · have he : (s < 1000 ∨ s - 1000 ≥ nn) → cntP g nn s w 0 := fun h => by unfold cntP; rw [if_neg h24, if_neg ht, if_pos h]
    repeat' with_reducible first
      | refine ewp_reg_seq ?_ | refine ewp_seq ?_ | refine ewp_skip ?_ | refine ewp_ret ?_ | refine ewp_block ?_ | refine xt_n ?_ | refine xt_r ?_ | refine xb_n ?_ | refine xb_r ?_ | refine ewp_condQ ?_ | refine condQ_T ?_ | refine condQ_F ?_ | refine L_gdQ ?_ | refine gdQ_TT ?_ | refine gdQ_FF ?_ | refine gdQ_TF ?_ | refine gdQ_FT ?_
      | simp -implicitDefEqProofs only [wA, Nat.reduceEqDiff, ↓reduceIte, reduceCtorEq, Nat.reduceAdd, Int.cast_ofNat_Int, Int.reduceLT, Int.reduceLE, Int.reduceEq, Int.reduceToNat, decide_true, decide_false, Bool.false_eq_true]
      | (refine condQ_i (fun h => ?_) (fun h => ?_) <;> have h_ := h <;> (try simp only [wD, reduceCtorEq] at h_) <;> (try (exfalso; first | omega | exact bf h_ (by assumption) | exact bt h_ (by assumption) | (refine absurd ?_ h_; focus assumption) | (refine absurd h_ ?_; focus assumption))) <;> (try simp only [h]))
      | ((first | refine gdQ_iT (fun h => ?_) (fun h => ?_) | refine gdQ_iF (fun h => ?_) (fun h => ?_)) <;> have h_ := h <;> (try simp only [wD, reduceCtorEq] at h_) <;> (try (exfalso; first | omega | exact bf h_ (by assumption) | exact bt h_ (by assumption) | (refine absurd ?_ h_; focus assumption) | (refine absurd h_ ?_; focus assumption))) <;> (try simp only [h]))
      | (refine mkTab (nn := nn) zero625 (by omega) hnb ?_)
      | (apply bld_nil)
      | (apply bld_part; (focus with_unfolding_all rfl); (focus with_unfolding_all rfl); (focus with_unfolding_all rfl); (focus ((try simp -implicitDefEqProofs only [wE, Nat.reduceAdd]); rfl)))
      | (apply ldQ_whole)
      | (apply ldQ_cell; (focus with_unfolding_all rfl))
      | (apply boxQ_i; (focus with_unfolding_all rfl); (focus with_unfolding_all rfl))
      | simp -implicitDefEqProofs (disch := omega) only [w64, if_neg]
    · rw [hzs (by omega)] at h_
      exact hE _ 0 (by simp -implicitDefEqProofs only [wL, Nat.reduceEqDiff, ↓reduceIte, reduceCtorEq]) (by omega) (he (by omega))
    · rw [hzs (by omega)] at h_
      exact hQ _ (next + 2 + 4 + 10 + 11 + 7) (next + 2 + 4 + 10 + 11 + 5) h24 ht (by omega) (by simp -implicitDefEqProofs only [wL, Nat.reduceEqDiff, ↓reduceIte, reduceCtorEq]) (by simp -implicitDefEqProofs only [wL, Nat.reduceEqDiff, ↓reduceIte, reduceCtorEq]) (by simp -implicitDefEqProofs only [wL, Nat.reduceEqDiff, ↓reduceIte, reduceCtorEq]) (by (simp only [wM]; (repeat first | rw [if_pos trivial] | rw [if_pos rfl] | rw [if_neg (by omega)]))) (by (simp only [wM]; (repeat first | rw [if_pos trivial] | rw [if_pos rfl] | rw [if_neg (by omega)]))) (by simp only [wN]; omega) (by simp only [wN]; omega) (by omega)
    · exact hE _ 0 (by simp -implicitDefEqProofs only [wL, Nat.reduceEqDiff, ↓reduceIte, reduceCtorEq]) (by omega) (he (by omega))
    · exact hE _ 0 (by simp -implicitDefEqProofs only [wL, Nat.reduceEqDiff, ↓reduceIte, reduceCtorEq]) (by omega) (he (by omega))

theorem cntBody {g : Grammar} {nn m ni : Nat} {sy : Int} {w : List Int} (hg : Cnt g nn) (hs : sy < 9223372036854775808) (hso : SymOk nn g.prods) {Q : Exit → St → Prop} {s0 : St} (h24 : ¬ w.length > 24) (h1 : ¬ (sy < 1000 ∨ sy - 1000 ≥ nn)) (f1 : s0.f 1 = vi sy) (f2 : s0.f 2 = .sl 1 false (w.map (V.int .i64))) (f7 : s0.f 7 = .ptr m 0 0) (hm : s0.H m = some (.own 7 [cntC g w ni nn] false)) (hn : s0.H ni = some (.own 625 (tabV nn (fun _ _ _ => 0)) false)) (lm : m < s0.next) (ln : ni < s0.next) (e3 : m ≠ ni)
    (hQ : ∀ s' T, IsCount g nn w T → s'.f 6 = vi (T (sy - 1000).toNat 0 w.length) → Q .ret s') : ewp Try.prog e13n49 Q s0 := by
  have hnb := hg.nb
  have hzs : IntKind.i64.wrap (sy - 1000) = sy - 1000 := wrap64 (by omega) (by omega)
  obtain ⟨kq, e0⟩ : ∃ kq : Nat, sy - 1000 = kq := ⟨(sy - 1000).toNat, by omega⟩
  have hk : kq < nn := by omega
  rw [e0] at hzs
  have hkt : (kq : Int).toNat = kq := rfl
  repeat' with_reducible first
    | refine ewp_reg_seq ?_ | refine ewp_seq ?_ | refine ewp_block ?_
    | simp -implicitDefEqProofs only [wA, Nat.reduceEqDiff, ↓reduceIte, reduceCtorEq, Nat.reduceAdd, Int.cast_ofNat_Int, Int.reduceLT, Int.reduceLE, Int.reduceEq, Int.reduceToNat, decide_true, decide_false, Bool.false_eq_true, f1, f2, f7]
  refine ewp_loopN ?nx1 (fun (p : Nat × Tbl) s => s.f 1 = ?v1_1 ∧ s.f 2 = ?v1_2 ∧ s.f 7 = ?v1_7 ∧ s.f 8 = vi p.1 ∧ (p.1 ≤ w.length + 1) ∧ (CInv g nn w p.1 0 p.2) ∧ ((s.H m = some (.own 7 [cntC g w ni nn] false))) ∧ ((s.H ni = some (.own 625 (tabV nn p.2) false)))) (fun p => w.length + 1 - p.1) ((0, fun _ _ _ => 0)) (by simp -implicitDefEqProofs only [wN, Nat.reduceAdd, Nat.zero_add]; exact Nat.le_refl _) (by refine ⟨?_, ?_, ?_, ?_, (by first | omega | (simp; done) | assumption), (by exact CInv.init g nn w), (by simp only [wM]; exact hm), (by simp only [wM]; exact hn)⟩ <;> first | (simp -implicitDefEqProofs only [wL, wM, wN, wX, Nat.reduceEqDiff, ↓reduceIte, reduceCtorEq, Nat.reduceAdd, Option.some.injEq] <;> first | rfl | exact ⟨_, rfl⟩ | exact ⟨_, rfl, by first | assumption | exact Gr.nil | exact Gr.tok rfl (by omega) | exact Gr.tok (by simp -implicitDefEqProofs only [wM, Nat.reduceEqDiff, ↓reduceIte, reduceCtorEq] <;> rfl) (by omega) | exact Gr.clip⟩) | rfl | exact ⟨_, rfl⟩) ?_
  intro p s hnx ⟨g1, g2, g7, g8, k1_0, k1_1, k1_2, k1_3⟩
  obtain ⟨n, T⟩ := p
  dsimp only at *
  have hzn : IntKind.i64.wrap ((n + 1 : Nat) : Int) = ((n + 1 : Nat) : Int) := wrap64 (by omega) (by omega)
  by_cases hnw : n ≤ w.length
  · repeat' with_reducible first
      | refine ewp_reg_seq ?_ | refine ewp_seq ?_ | refine ewp_skip ?_ | refine ewp_block ?_ | refine xt_n ?_ | refine ewp_condQ ?_
      | simp -implicitDefEqProofs only [wA, Nat.reduceEqDiff, ↓reduceIte, reduceCtorEq, Nat.reduceAdd, Int.cast_ofNat_Int, Int.reduceLT, Int.reduceLE, Int.reduceEq, Int.reduceToNat, decide_true, decide_false, Bool.false_eq_true, g1, g2, g7, g8, f1, f2, f7]
      | (refine condQ_i (fun h => ?_) (fun h => ?_) <;> have h_ := h <;> (try simp only [wD, reduceCtorEq] at h_) <;> (try (exfalso; first | omega | exact bf h_ (by assumption) | exact bt h_ (by assumption) | (refine absurd ?_ h_; focus assumption) | (refine absurd h_ ?_; focus assumption))) <;> (try simp only [h]))
    refine ewp_loopN ?nx2 (fun (p : Nat × Tbl) s => s.f 1 = ?v2_1 ∧ s.f 2 = ?v2_2 ∧ s.f 7 = ?v2_7 ∧ s.f 8 = ?v2_8 ∧ s.f 9 = vi p.1 ∧ (p.1 + n ≤ w.length + 1) ∧ (CInv g nn w n p.1 p.2) ∧ ((s.H m = some (.own 7 [cntC g w ni nn] false))) ∧ ((s.H ni = some (.own 625 (tabV nn p.2) false)))) (fun p => w.length + 1 - p.1) ((0, T)) (by simp -implicitDefEqProofs only [wN, Nat.reduceAdd, Nat.zero_add]; exact Nat.le_refl _) (by refine ⟨?_, ?_, ?_, ?_, ?_, (by first | omega | (simp; done) | assumption), (by first | omega | (simp; done) | assumption), (by simp only [wM]; assumption), (by simp only [wM]; assumption)⟩ <;> first | (simp -implicitDefEqProofs only [wL, wM, wN, wX, Nat.reduceEqDiff, ↓reduceIte, reduceCtorEq, Nat.reduceAdd, Option.some.injEq, g1, g2, g7, g8] <;> first | rfl | exact ⟨_, rfl⟩ | exact ⟨_, rfl, by first | assumption | exact Gr.nil | exact Gr.tok rfl (by omega) | exact Gr.tok (by simp -implicitDefEqProofs only [wM, Nat.reduceEqDiff, ↓reduceIte, reduceCtorEq] <;> rfl) (by omega) | exact Gr.clip⟩) | rfl | exact ⟨_, rfl⟩) ?_
    intro p s hnx ⟨g1, g2, g7, g8, g9, k2_0, k2_1, k2_2, k2_3⟩
    obtain ⟨a, U⟩ := p
    dsimp only at *
    have hza : IntKind.i64.wrap ((a + 1 : Nat) : Int) = ((a + 1 : Nat) : Int) := wrap64 (by omega) (by omega)
    have hz : IntKind.i64.wrap ((a : Int) + (n : Int)) = ((a + n : Nat) : Int) := by rw [wrap64 (by omega) (by omega)]; omega
    by_cases ha : a + n ≤ w.length
    · repeat' with_reducible first
        | refine ewp_reg_seq ?_ | refine ewp_seq ?_ | refine ewp_reg ?_ | refine ewp_skip ?_ | refine ewp_block ?_ | refine xt_n ?_ | refine xb_n ?_ | refine ewp_condQ ?_
        | simp -implicitDefEqProofs only [wA, Nat.reduceEqDiff, ↓reduceIte, reduceCtorEq, Nat.reduceAdd, Int.cast_ofNat_Int, Int.reduceLT, Int.reduceLE, Int.reduceEq, Int.reduceToNat, decide_true, decide_false, Bool.false_eq_true, g1, g2, g7, g8, g9, f1, f2, f7, hz, hza]
        | (refine condQ_i (fun h => ?_) (fun h => ?_) <;> have h_ := h <;> (try simp only [wD, reduceCtorEq] at h_) <;> (try (exfalso; first | omega | exact bf h_ (by assumption) | exact bt h_ (by assumption) | (refine absurd ?_ h_; focus assumption) | (refine absurd h_ ?_; focus assumption))) <;> (try simp only [h]))
        | (refine callQWc rfl rfl rfl ((spanE (i := a) (j := a + n) (T := U) hg (by (simp only [wM]; (repeat first | rw [if_pos trivial] | rw [if_pos rfl] | rw [if_neg (by omega)])); exact k2_2) (by (simp only [wM]; (repeat first | rw [if_pos trivial] | rw [if_pos rfl] | rw [if_neg (by omega)])); exact k2_3) (by simp only [wN]; omega) (by simp only [wN]; omega) e3 (by omega) (by omega) ha (by omega) k2_1.le2 (fun k _ => k2_1.pre k)).mono ?_); rintro v1 H1 n1 ⟨q1, ⟨N, q2, q3⟩, q4⟩; (try simp only [wN] at q1); (try simp only [wN, wM] at q4))
      have hst := CInv.step hso k2_1 ha q3
      have q5 := q4 m (by omega) e3
      rw [k2_2] at q5
      refine ⟨(by first | assumption | omega | (simp -implicitDefEqProofs only [wN]; omega)), (a + 1, rnds nn g.prods w a (a + n) U N), (by omega), ?_⟩
      refine ⟨?_, ?_, ?_, ?_, ?_, ?_, ?_, ?_, ?_⟩
      iterate 5 (focus (first | (simp -implicitDefEqProofs only [wL, wM, wN, wX, Nat.reduceEqDiff, ↓reduceIte, reduceCtorEq, Nat.reduceAdd, Option.some.injEq, g1, g2, g7, g8, g9] <;> first | rfl | exact ⟨_, rfl⟩ | exact ⟨_, rfl, by first | assumption | exact Gr.nil | exact Gr.tok rfl (by omega) | exact Gr.tok (by simp -implicitDefEqProofs only [wM, Nat.reduceEqDiff, ↓reduceIte, reduceCtorEq] <;> rfl) (by omega) | exact Gr.clip⟩) | rfl | exact ⟨_, rfl⟩))
      all_goals try omega
      all_goals first | exact hst | exact q5 | exact q2
    · repeat' with_reducible first
        | refine ewp_reg_seq ?_ | refine ewp_seq ?_ | refine ewp_reg ?_ | refine ewp_exit ?_ | refine xt_n ?_ | refine xt_e ?_ | refine xb_n ?_ | refine xb_e ?_ | refine ewp_condQ ?_
        | simp -implicitDefEqProofs only [wA, Nat.reduceEqDiff, ↓reduceIte, reduceCtorEq, Nat.reduceAdd, Int.cast_ofNat_Int, Int.reduceLT, Int.reduceLE, Int.reduceEq, Int.reduceToNat, decide_true, decide_false, Bool.false_eq_true, g1, g2, g7, g8, g9, f1, f2, f7, hz, hza, hzn]
        | (refine condQ_i (fun h => ?_) (fun h => ?_) <;> have h_ := h <;> (try simp only [wD, reduceCtorEq] at h_) <;> (try (exfalso; first | omega | exact bf h_ (by assumption) | exact bt h_ (by assumption) | (refine absurd ?_ h_; focus assumption) | (refine absurd h_ ?_; focus assumption))) <;> (try simp only [h]))
      have hst := k2_1.next (by omega) hnw
      refine ⟨(by first | assumption | omega | (simp -implicitDefEqProofs only [wN]; omega)), (n + 1, U), (by omega), ?_⟩
      refine ⟨?_, ?_, ?_, ?_, ?_, ?_, ?_, ?_⟩
      iterate 4 (focus (first | (simp -implicitDefEqProofs only [wL, wM, wN, wX, Nat.reduceEqDiff, ↓reduceIte, reduceCtorEq, Nat.reduceAdd, Option.some.injEq, g1, g2, g7, g8, g9] <;> first | rfl | exact ⟨_, rfl⟩ | exact ⟨_, rfl, by first | assumption | exact Gr.nil | exact Gr.tok rfl (by omega) | exact Gr.tok (by simp -implicitDefEqProofs only [wM, Nat.reduceEqDiff, ↓reduceIte, reduceCtorEq] <;> rfl) (by omega) | exact Gr.clip⟩) | rfl | exact ⟨_, rfl⟩))
      all_goals try omega
      all_goals first | exact hst | exact k2_2 | exact k2_3
  · have hd := k1_1.done (by omega)
    skip
    repeat' with_reducible first
      | refine ewp_reg_seq ?_ | refine ewp_seq ?_ | refine ewp_ret ?_ | refine ewp_exit ?_ | refine xt_n ?_ | refine xt_e ?_ | refine xb_e ?_ | refine ewp_condQ ?_
      | simp -implicitDefEqProofs only [wA, Nat.reduceEqDiff, ↓reduceIte, reduceCtorEq, Nat.reduceAdd, Int.cast_ofNat_Int, Int.reduceLT, Int.reduceLE, Int.reduceEq, Int.reduceToNat, decide_true, decide_false, Bool.false_eq_true, g1, g2, g7, g8, f1, f2, f7, k1_2, k1_3, hzs, e0]
      | (refine condQ_i (fun h => ?_) (fun h => ?_) <;> have h_ := h <;> (try simp only [wD, reduceCtorEq] at h_) <;> (try (exfalso; first | omega | exact bf h_ (by assumption) | exact bt h_ (by assumption) | (refine absurd ?_ h_; focus assumption) | (refine absurd h_ ?_; focus assumption))) <;> (try simp only [h]))
      | (refine onS_i (iaA_ptr0 (by omega)) ?_)
      | (refine onS_i (iaA_ptr (by omega)) ?_)
      | (refine ldMo (a := 0) (b := w.length) hk (by omega) (by omega) (by omega) ?_)
      | (apply ia_mslQ; (focus omega); (focus (first | assumption | omega | (simp only [wZ]; omega) | trivial)))
      | (apply ldQ_cell; (focus with_unfolding_all rfl))
    exact hQ _ T hd (by simp -implicitDefEqProofs only [wL, Nat.reduceEqDiff, ↓reduceIte, reduceCtorEq]; rw [e0]; rfl)

theorem many_Count {g : Grammar} {nn : Nat} {sy : Int} {w : List Int} (hg : Cnt g nn) (hs : sy < 9223372036854775808) (hwl : w.length ≤ 1000000) (htl : g.toks.length ≤ 1000000) : ∃ x : Int, cntP g nn sy w x ∧ Pure Try.prog 13 [g.V, vi sy, .sl 1 false (w.map (V.int .i64))] (vi x) := by
  have hh := pure_ex (G := fun v => ∃ x : Int, v = vi x ∧ cntP g nn sy w x) (args := [g.V, vi sy, .sl 1 false (w.map (V.int .i64))]) Try.func13 e13_nm e13_ok (by show 3 ≤ 85; decide) ?_
  · obtain ⟨v, ⟨x, rfl, h⟩, h2⟩ := hh
    exact ⟨x, h, h2⟩
  refine cntPre hg hs hwl htl (fun s' x h6 _ hc => ⟨vi x, ⟨x, rfl, hc⟩, Or.inr rfl, vi x, ?_, .int _ _⟩) fun s' m ni h24 ht h1 f1 f2 f7 hm hn lm ln e3 => cntBody hg hs hg.pr h24 h1 f1 f2 f7 hm hn lm ln e3 fun s2 T hT h6 => ⟨vi (T (sy - 1000).toNat 0 w.length), ⟨_, rfl, ?_⟩, Or.inr rfl, vi (T (sy - 1000).toNat 0 w.length), ?_, .int _ _⟩
  · show resV s' [.inl 6] = _
    simp [resV, resL, one, h6]
  · unfold cntP
    rw [if_neg h24, if_neg ht, if_neg h1]
    exact ⟨T, hT, rfl⟩
  · show resV s2 [.inl 6] = _
    simp [resV, resL, one, h6]
end Go.Proofs


namespace Go.Proofs
open Go.E

/- Sums of the productions, by their sides alone. -/
abbrev sumL (T : Tbl) (w : List Int) (i j : Nat) (S : Nat → Nat) (p : Int × List Int) : Nat → Nat := upd S p.1.toNat (min 2 (S p.1.toNat + waysN T w p.2 i j))
theorem sumP_lr (T : Tbl) (l : List GPr) (w : List Int) (i j : Nat) : sumP T l w i j = (l.map fun p => (p.left, p.right)).foldl (sumL T w i j) (fun _ => 0) := by
  unfold sumP
  rw [List.foldl_map]
def sides (g : Grammar) : List (Int × List Int) := g.prods.map fun p => (p.left, p.right)
theorem IsCount.eq {g : Grammar} {nn : Nat} {w : List Int} {T : Tbl} (h : IsCount g nn w T) {k i j : Nat} (hk : k < nn) (hi : i ≤ j) (hj : j ≤ w.length) : T k i j = (sides g).foldl (sumL T w i j) (fun _ => 0) k := by
  rw [← h.fix k i j hk hi hj, sumP_lr]; rfl
theorem sumN_one {f : Nat → Nat} {n a : Nat} (ha : a < n) (h : ∀ b, b < n → b ≠ a → f b = 0) : sumN f n = f a := by
  induction n with
  | zero => omega
  | succ n ih =>
    unfold sumN
    by_cases e : a = n
    · subst e; rw [sumN_zero fun b hb => h b (by omega) (by omega)]; omega
    · rw [ih (by omega) fun b hb hn => h b (by omega) hn, h n (by omega) (fun e2 => e e2.symm)]; omega
theorem sumN_ge {f : Nat → Nat} {n a : Nat} (ha : a < n) : f a ≤ sumN f n := by
  induction n with
  | zero => omega
  | succ n ih =>
    unfold sumN
    by_cases e : a = n
    · subst e; omega
    · have := ih (by omega); omega
theorem sumN_ge2 {f : Nat → Nat} {n a b : Nat} (hab : a < b) (hb : b < n) : f a + f b ≤ sumN f n := by
  induction n with
  | zero => omega
  | succ n ih =>
    unfold sumN
    by_cases e : b = n
    · subst e; have := sumN_ge (f := f) hab; omega
    · have := ih (by omega); omega
/-- At one place alone. -/
def ind (i c : Nat) : Nat → Nat := fun b => if b = i then c else 0
theorem ind_self (i c : Nat) : ind i c i = c := by simp [ind]
theorem ind_ne {i c b : Nat} (h : b ≠ i) : ind i c b = 0 := by simp [ind, h]
theorem waysN_def (T : Tbl) (w : List Int) (l : List Int) (i j : Nat) : waysN T w l i j = l.foldl (fun v s => stepN T w s v) (ind i 1) j := rfl
theorem step_tok (T : Tbl) (w : List Int) {t : Int} (v : Nat → Nat) (ht : t < 1000) (b : Nat) : stepN T w t v b = if 0 < b ∧ w[b - 1]? = some t then v (b - 1) else 0 := by
  unfold stepN; rw [if_pos ht]
theorem step_non (T : Tbl) (w : List Int) (v : Nat → Nat) (b : Nat) : stepN T w 1001 v b = min 2 (sumN (fun a => v a * T 1 a b) (b + 1)) := by
  unfold stepN; rw [if_neg (by omega)]; rfl
theorem tok_ind {T : Tbl} {w : List Int} {t : Int} {i c : Nat} (ht : t < 1000) (hw : w[i]? = some t) : stepN T w t (ind i c) = ind (i + 1) c := by
  funext b
  rw [step_tok T w _ ht]
  by_cases e : b = i + 1
  · subst e; rw [ind_self, if_pos ⟨by omega, by simpa using hw⟩, Nat.add_sub_cancel, ind_self]
  · rw [ind_ne e]; split
    · exact ind_ne (by omega)
    · rfl
theorem tok_ind0 {T : Tbl} {w : List Int} {t : Int} {i c : Nat} (ht : t < 1000) (b : Nat) (hb : b ≠ i + 1) : stepN T w t (ind i c) b = 0 := by
  rw [step_tok T w _ ht]; split
  · exact ind_ne (by omega)
  · rfl
theorem non_ind {T : Tbl} {w : List Int} {i c b : Nat} (hb : i ≤ b) : stepN T w 1001 (ind i c) b = min 2 (c * T 1 i b) := by
  rw [step_non, sumN_one (a := i) (by omega) (fun a ha hn => by rw [ind_ne hn, Nat.zero_mul]), ind_self]

/- Things and signs between, in turn. -/
def AltW (w : List Int) (n : Nat) (x p : Int) : Prop := w.length = 2 * n - 1 ∧ ∀ k, k < 2 * n - 1 → w[k]? = some (if k % 2 = 0 then x else p)
theorem AltW.x {w : List Int} {n : Nat} {x p : Int} (h : AltW w n x p) {k : Nat} (hk : k < n) : w[2 * k]? = some x := by
  rw [h.2 (2 * k) (by omega), if_pos (by omega)]
theorem AltW.p {w : List Int} {n : Nat} {x p : Int} (h : AltW w n x p) {k : Nat} (hk : k + 1 < n) : w[2 * k + 1]? = some p := by
  rw [h.2 (2 * k + 1) (by omega), if_neg (by omega)]
abbrev gE : List (Int × List Int) := [(0, [1001]), (1, [1001, 3, 1001]), (1, [4])]
abbrev gL : List (Int × List Int) := [(0, [1001]), (1, [1001, 3, 4]), (1, [4])]
abbrev gR : List (Int × List Int) := [(0, [1001]), (1, [3, 4, 1001]), (1, [3])]
abbrev g1 : List (Int × List Int) := [(0, [1001]), (1, [3, 1001, 4]), (1, [])]
abbrev g2 : List (Int × List Int) := [(0, [1001]), (1, [3, 1001, 4]), (1, []), (1, [1001])]
abbrev g3 : List (Int × List Int) := [(0, [1001]), (1, [3, 1001, 4]), (1, [1001, 1001]), (1, [])]
theorem eq2 (T : Tbl) (w : List Int) (i j : Nat) (a b : List Int) : List.foldl (sumL T w i j) (fun _ => 0) [(0, [1001]), (1, a), (1, b)] 1 = min 2 (min 2 (waysN T w a i j) + waysN T w b i j) := by
  simp [List.foldl, sumL, upd]
theorem eq3 (T : Tbl) (w : List Int) (i j : Nat) (a b c : List Int) : List.foldl (sumL T w i j) (fun _ => 0) [(0, [1001]), (1, a), (1, b), (1, c)] 1 = min 2 (min 2 (min 2 (waysN T w a i j) + waysN T w b i j) + waysN T w c i j) := by
  simp [List.foldl, sumL, upd]
theorem ways_t {T : Tbl} {w : List Int} {t : Int} {i j : Nat} (ht : t < 1000) : waysN T w [t] i j = if j = i + 1 ∧ w[i]? = some t then 1 else 0 := by
  rw [waysN_def]
  show stepN T w t (ind i 1) j = _
  by_cases hj : j = i + 1
  · subst hj
    rw [step_tok T w _ ht, Nat.add_sub_cancel, ind_self]
    by_cases h : w[i]? = some t
    · rw [if_pos ⟨by omega, h⟩, if_pos ⟨rfl, h⟩]
    · rw [if_neg (fun e => h e.2), if_neg (fun e => h e.2)]
  · rw [tok_ind0 ht j hj, if_neg (fun e => hj e.1)]
theorem left_one {g : Grammar} {w : List Int} {T : Tbl} {n : Nat} (hs : sides g = gL) (hT : IsCount g 2 w T) (hw : AltW w n 4 3) : ∀ m, m < n → T 1 0 (2 * m + 1) = 1 := by
  intro m
  induction m with
  | zero =>
    intro hm
    rw [hT.eq (by omega) (by omega) (by have := hw.1; omega), hs, eq2, ways_t (by omega), if_pos ⟨rfl, hw.x hm⟩]
    have e : waysN T w [1001, 3, 4] 0 1 = 0 := by
      show stepN T w 4 (stepN T w 3 (stepN T w 1001 (ind 0 1))) 1 = 0
      rw [step_tok T w _ (by omega)]
      split
      · rw [step_tok T w _ (by omega), if_neg (by omega)]
      · rfl
    rw [e]; rfl
  | succ m ih =>
    intro hm
    have := ih (by omega)
    rw [hT.eq (by omega) (by omega) (by have := hw.1; omega), hs, eq2, ways_t (by omega), if_neg (by omega)]
    have e : waysN T w [1001, 3, 4] 0 (2 * (m + 1) + 1) = 1 := by
      show stepN T w 4 (stepN T w 3 (stepN T w 1001 (ind 0 1))) (2 * (m + 1) + 1) = 1
      have q1 := hw.x (k := m + 1) hm
      have q2 := hw.p (k := m) hm
      rw [step_tok T w _ (by omega), if_pos ⟨by omega, by simpa using q1⟩, Nat.add_sub_cancel, step_tok T w _ (by omega), if_pos ⟨by omega, by rw [show 2 * (m + 1) - 1 = 2 * m + 1 by omega]; exact q2⟩, non_ind (by omega), show 2 * (m + 1) - 1 = 2 * m + 1 by omega, this]
      rfl
    rw [e]; rfl
theorem right_one {g : Grammar} {w : List Int} {T : Tbl} {n : Nat} (hs : sides g = gR) (hT : IsCount g 2 w T) (hw : AltW w n 3 4) : ∀ m k, k + m + 1 = n → T 1 (2 * k) (2 * n - 1) = 1 := by
  intro m
  induction m with
  | zero =>
    intro k hk
    subst hk
    have q := hw.x (k := k) (by omega)
    rw [hT.eq (by omega) (by omega) (by have := hw.1; omega), hs, eq2, ways_t (by omega), if_pos ⟨by omega, q⟩]
    have e : waysN T w [3, 4, 1001] (2 * k) (2 * (k + 0 + 1) - 1) = 0 := by
      show stepN T w 1001 (stepN T w 4 (stepN T w 3 (ind (2 * k) 1))) (2 * (k + 0 + 1) - 1) = 0
      rw [tok_ind (by omega) q, step_non, sumN_zero fun a ha => by rw [tok_ind0 (by omega) a (by omega), Nat.zero_mul]]; rfl
    rw [e]; rfl
  | succ m ih =>
    intro k hk
    have q := hw.x (k := k) (by omega)
    have q2 := hw.p (k := k) (by omega)
    have := ih (k + 1) (by omega)
    rw [hT.eq (by omega) (by omega) (by have := hw.1; omega), hs, eq2, ways_t (by omega), if_neg (by omega)]
    have e : waysN T w [3, 4, 1001] (2 * k) (2 * n - 1) = 1 := by
      show stepN T w 1001 (stepN T w 4 (stepN T w 3 (ind (2 * k) 1))) (2 * n - 1) = 1
      rw [tok_ind (by omega) q, tok_ind (by omega) q2, non_ind (by omega), show 2 * k + 1 + 1 = 2 * (k + 1) by omega, this]; rfl
    rw [e]; rfl
theorem both_many {g : Grammar} {w : List Int} {T : Tbl} {n : Nat} (hs : sides g = gE) (hT : IsCount g 2 w T) (hw : AltW w n 4 3) : ∀ m p, p + m < n → T 1 (2 * p) (2 * p + 2 * m + 1) = if m < 2 then 1 else 2 := by
  intro m
  induction m using Nat.strongRecOn with
  | ind m ih =>
    intro p hp
    have hl := hw.1
    rw [hT.eq (by omega) (by omega) (by omega), hs, eq2, ways_t (by omega)]
    have hv : ∀ a, a < 2 * p + 2 * m + 2 → stepN T w 3 (stepN T w 1001 (ind (2 * p) 1)) a = if 2 * p < a ∧ a % 2 = 0 then (if (a - 2 * p) / 2 - 1 < 2 ∧ (a - 2 * p) / 2 - 1 < m then 1 else min 2 (T 1 (2 * p) (a - 1))) else 0 := by
      intro a ha
      rw [step_tok T w _ (by omega)]
      by_cases h0 : 0 < a
      · rw [hw.2 (a - 1) (by omega)]
        by_cases h2 : a % 2 = 0
        · rw [if_pos ⟨h0, by rw [if_neg (by omega)]⟩]
          by_cases h3 : 2 * p < a
          · rw [if_pos ⟨h3, h2⟩, non_ind (by omega), Nat.one_mul]
            split
            · rename_i hc
              have := ih ((a - 2 * p) / 2 - 1) hc.2 p (by omega)
              rw [show 2 * p + 2 * ((a - 2 * p) / 2 - 1) + 1 = a - 1 by omega] at this
              rw [this, if_pos hc.1]; rfl
            · rfl
          · rw [if_neg (fun e => h3 e.1), step_non, sumN_zero fun b hb => by rw [ind_ne (by omega), Nat.zero_mul]]; rfl
        · rw [if_neg (by rw [if_pos (by omega)]; rintro ⟨_, e⟩; cases e), if_neg (fun e => h2 e.2)]
      · rw [if_neg (fun e => h0 e.1), if_neg (by omega)]
    have hwy : waysN T w [1001, 3, 1001] (2 * p) (2 * p + 2 * m + 1) = min 2 (sumN (fun a => stepN T w 3 (stepN T w 1001 (ind (2 * p) 1)) a * T 1 a (2 * p + 2 * m + 1)) (2 * p + 2 * m + 1 + 1)) := by
      show stepN T w 1001 (stepN T w 3 (stepN T w 1001 (ind (2 * p) 1))) (2 * p + 2 * m + 1) = _
      rw [step_non]
    rw [hwy]
    by_cases h0 : m = 0
    · subst h0
      rw [if_pos ⟨by omega, hw.x (by omega)⟩, sumN_zero fun a ha => ?_]
      · rfl
      · rw [hv a (by omega), if_neg (by omega), Nat.zero_mul]
    · rw [if_neg (by omega)]
      by_cases h1 : m = 1
      · subst h1
        have hx : T 1 (2 * (p + 1)) (2 * (p + 1) + 1) = 1 := ih 0 (by omega) (p + 1) (by omega)
        rw [sumN_one (a := 2 * p + 2) (by omega) fun b hb hn => ?_]
        · rw [hv (2 * p + 2) (by omega), if_pos ⟨by omega, by omega⟩, if_pos ⟨by omega, by omega⟩, show 2 * p + 2 = 2 * (p + 1) by omega, hx]
          rfl
        · rw [hv b (by omega), if_neg (by omega), Nat.zero_mul]
      · have hx := ih (m - 1) (by omega) (p + 1) (by omega)
        have hy := ih (m - 2) (by omega) (p + 2) (by omega)
        rw [show 2 * (p + 1) + 2 * (m - 1) + 1 = 2 * p + 2 * m + 1 by omega] at hx
        rw [show 2 * (p + 2) + 2 * (m - 2) + 1 = 2 * p + 2 * m + 1 by omega] at hy
        have hg := sumN_ge2 (f := fun a => stepN T w 3 (stepN T w 1001 (ind (2 * p) 1)) a * T 1 a (2 * p + 2 * m + 1)) (n := 2 * p + 2 * m + 1 + 1) (a := 2 * (p + 1)) (b := 2 * (p + 2)) (by omega) (by omega)
        rw [hv (2 * (p + 1)) (by omega), if_pos ⟨by omega, by omega⟩, if_pos ⟨by omega, by omega⟩, hv (2 * (p + 2)) (by omega), if_pos ⟨by omega, by omega⟩, if_pos ⟨by omega, by omega⟩, hx, hy] at hg
        have e1 : 1 ≤ (if m - 1 < 2 then 1 else 2) := by split <;> omega
        have e2 : 1 ≤ (if m - 2 < 2 then 1 else 2) := by split <;> omega
        rw [if_neg (by omega)]
        omega
end Go.Proofs

namespace Go.Proofs
open Go.E

/- Weights: what does not weigh what the nonterminal weighs has no tree. -/
def wsum (f : Int → Int) (l : List Int) : Int := (l.map f).sum
theorem wsum_take {f : Int → Int} {w : List Int} {b : Nat} {t : Int} (h : w[b]? = some t) : wsum f (w.take (b + 1)) = wsum f (w.take b) + f t := by
  unfold wsum
  rw [List.take_add_one, h]
  simp
/-- A table of what weighs as it is to. -/
def tabW (f : Int → Int) (c : Int) (w : List Int) : Tbl := fun k i j => if k = 0 then 2 else if wsum f (w.take j) - wsum f (w.take i) = c then 2 else 0
def symW (f : Int → Int) (c s : Int) : Int := if s < 1000 then f s else c
theorem ways_w {f : Int → Int} {c : Int} {w : List Int} {i : Nat} : ∀ (l : List Int) (v : Nat → Nat) (acc : Int), (∀ s ∈ l, s < 1000 ∨ s = 1001) → (∀ b, v b ≠ 0 → wsum f (w.take b) - wsum f (w.take i) = acc) →
    ∀ b, l.foldl (fun v s => stepN (tabW f c w) w s v) v b ≠ 0 → wsum f (w.take b) - wsum f (w.take i) = acc + (l.map (symW f c)).sum := by
  intro l
  induction l with
  | nil => intro v acc _ h b hb; rw [h b hb]; simp
  | cons s r ih =>
    intro v acc hl h b hb
    have := ih (stepN (tabW f c w) w s v) (acc + symW f c s) (fun x hx => hl x (List.mem_cons_of_mem _ hx)) (fun b hb => ?_) b hb
    · rw [this, List.map_cons, List.sum_cons]; omega
    · rcases hl s (by simp) with hs | rfl
      · rw [step_tok _ _ _ hs] at hb
        by_cases hc : 0 < b ∧ w[b - 1]? = some s
        · rw [if_pos hc] at hb
          have h1 := h _ hb
          have h2 := wsum_take (f := f) hc.2
          rw [show b - 1 + 1 = b by omega] at h2
          unfold symW; rw [if_pos hs]; omega
        · rw [if_neg hc] at hb; exact absurd rfl hb
      · rw [step_non] at hb
        have : ∃ a, a < b + 1 ∧ v a * tabW f c w 1 a b ≠ 0 := by
          refine Classical.byContradiction fun hn => hb ?_
          rw [sumN_zero fun a ha => Classical.byContradiction fun hz => hn ⟨a, ha, hz⟩]; rfl
        obtain ⟨a, ha, hz⟩ := this
        have hv : v a ≠ 0 := fun e => hz (by rw [e, Nat.zero_mul])
        have ht : tabW f c w 1 a b ≠ 0 := fun e => hz (by rw [e, Nat.mul_zero])
        have h1 := h a hv
        unfold tabW at ht
        rw [if_neg (by omega)] at ht
        by_cases hc : wsum f (w.take b) - wsum f (w.take a) = c
        · unfold symW; rw [if_neg (by omega)]; omega
        · rw [if_neg hc] at ht; exact absurd rfl ht
theorem weigh {g : Grammar} {w : List Int} {T : Tbl} {f : Int → Int} {c : Int} (hT : IsCount g 2 w T) (hs : ∀ p ∈ sides g, (∀ s ∈ p.2, s < 1000 ∨ s = 1001) ∧ (p.1 = 0 ∨ p.1 = 1 ∧ (p.2.map (symW f c)).sum = c)) (hw : wsum f w ≠ c) : T 1 0 w.length = 0 := by
  have hp : PreT g 2 w (tabW f c w) := by
    intro k i j hk hi hj
    by_cases h0 : k = 0
    · subst h0; exact sumP_le _ _ _ _ _ _
    · have h1 : k = 1 := by omega
      subst h1
      by_cases hc : wsum f (w.take j) - wsum f (w.take i) = c
      · have e : tabW f c w 1 i j = 2 := by unfold tabW; rw [if_neg (by omega), if_pos hc]
        rw [e]; exact sumP_le _ _ _ _ _ _
      · have e : sumP (tabW f c w) g.prods w i j 1 = 0 := by
          rw [sumP_lr]
          show (sides g).foldl (sumL (tabW f c w) w i j) (fun _ => 0) 1 = 0
          generalize sides g = l at hs
          have gen : ∀ (l : List (Int × List Int)) (S : Nat → Nat), (∀ p ∈ l, (∀ s ∈ p.2, s < 1000 ∨ s = 1001) ∧ (p.1 = 0 ∨ p.1 = 1 ∧ (p.2.map (symW f c)).sum = c)) → S 1 = 0 → l.foldl (sumL (tabW f c w) w i j) S 1 = 0 := by
            intro l
            induction l with
            | nil => intro S _ h; exact h
            | cons p r ih =>
              intro S hl h
              refine ih _ (fun q hq => hl q (List.mem_cons_of_mem _ hq)) ?_
              obtain ⟨h1, h2⟩ := hl p (by simp)
              rcases h2 with h2 | ⟨h2, h3⟩
              · unfold sumL upd; rw [if_neg (by rw [h2]; decide)]; exact h
              · have hw0 : waysN (tabW f c w) w p.2 i j = 0 := by
                  refine Classical.byContradiction fun hne => hc ?_
                  have := ways_w (f := f) (c := c) (w := w) (i := i) p.2 (ind i 1) 0 h1 (fun b hb => ?_) j hne
                  · rw [this, h3]; omega
                  · by_cases e : b = i
                    · subst e; omega
                    · exact absurd (ind_ne e) hb
                unfold sumL upd; rw [if_pos (by rw [h2]; rfl), hw0, h2]
                show min 2 (S (1 : Int).toNat + 0) = 0
                rw [show (1 : Int).toNat = 1 from rfl, h]; rfl
          exact gen l _ hs rfl
        rw [e]; exact Nat.zero_le _
  have := hT.min _ hp 1 0 w.length (by omega) (by omega) (by omega)
  have e : tabW f c w 1 0 w.length = 0 := by
    unfold tabW
    rw [if_neg (by omega), if_neg]
    rw [List.take_length]
    show ¬ (wsum f w - wsum f [] = c)
    unfold wsum at *
    simpa using hw
  omega

/- Brackets in brackets. -/
def RndW (w : List Int) (n : Nat) : Prop := w.length = 2 * n ∧ (∀ k, k < n → w[k]? = some 3) ∧ ∀ k, n ≤ k → k < 2 * n → w[k]? = some 4
theorem br_mid {w : List Int} {n : Nat} {T : Tbl} (hw : RndW w n) : waysN T w [3, 1001, 4] n n = 0 := by
  show stepN T w 4 _ n = 0
  rw [step_tok T w _ (by omega), if_neg]
  rintro ⟨h1, h2⟩
  rw [hw.2.1 (n - 1) (by omega)] at h2
  cases h2
theorem br_out {w : List Int} {n k : Nat} {T : Tbl} (hw : RndW w n) (hk : k < n) : waysN T w [3, 1001, 4] (n - (k + 1)) (n + (k + 1)) = min 2 (T 1 (n - k) (n + k)) := by
  show stepN T w 4 (stepN T w 1001 (stepN T w 3 (ind (n - (k + 1)) 1))) (n + (k + 1)) = _
  rw [step_tok T w _ (by omega), if_pos ⟨by omega, by rw [show n + (k + 1) - 1 = n + k by omega]; exact hw.2.2 _ (by omega) (by omega)⟩, tok_ind (by omega) (hw.2.1 _ (by omega)), non_ind (by omega), show n - (k + 1) + 1 = n - k by omega, show n + (k + 1) - 1 = n + k by omega, Nat.one_mul]
theorem ways_nil (T : Tbl) (w : List Int) (i j : Nat) : waysN T w [] i j = if j = i then 1 else 0 := rfl
theorem ways_e {T : Tbl} {w : List Int} {i j : Nat} (h : i ≤ j) : waysN T w [1001] i j = min 2 (T 1 i j) := by
  show stepN T w 1001 (ind i 1) j = _
  rw [non_ind h, Nat.one_mul]
theorem ways_ee {T : Tbl} {w : List Int} {i j : Nat} (h : i ≤ j) (hT : ∀ k a b, T k a b ≤ 2) : min 2 (T 1 i i * T 1 i j) ≤ waysN T w [1001, 1001] i j := by
  show _ ≤ stepN T w 1001 (stepN T w 1001 (ind i 1)) j
  rw [step_non]
  have := sumN_ge (f := fun a => stepN T w 1001 (ind i 1) a * T 1 a j) (n := j + 1) (a := i) (by omega)
  rw [non_ind (Nat.le_refl _), Nat.one_mul, Nat.min_eq_right (hT 1 i i)] at this
  omega
theorem round1 {g : Grammar} {w : List Int} {T : Tbl} {n : Nat} (hs : sides g = g1) (hT : IsCount g 2 w T) (hw : RndW w n) : ∀ k, k ≤ n → T 1 (n - k) (n + k) = 1 := by
  intro k
  induction k with
  | zero =>
    intro _
    have hl := hw.1
    rw [Nat.sub_zero, Nat.add_zero, hT.eq (by omega) (by omega) (by omega), hs, eq2, br_mid hw, ways_nil, if_pos rfl]; rfl
  | succ k ih =>
    intro hk
    have := ih (by omega)
    have hl := hw.1
    rw [hT.eq (by omega) (by omega) (by omega), hs, eq2, br_out hw (by omega), ways_nil, if_neg (by omega), this]; rfl
theorem round2 {g : Grammar} {w : List Int} {T : Tbl} {n : Nat} (hs : sides g = g2) (hT : IsCount g 2 w T) (hw : RndW w n) : ∀ k, k ≤ n → T 1 (n - k) (n + k) = 2 := by
  intro k
  induction k with
  | zero =>
    intro _
    have hl := hw.1
    have h2 := hT.le2 1 n n
    have h := hT.eq (k := 1) (i := n) (j := n) (by omega) (by omega) (by omega)
    rw [hs, eq3, br_mid hw, ways_nil, if_pos rfl, ways_e (by omega)] at h
    rw [Nat.sub_zero, Nat.add_zero]
    omega
  | succ k ih =>
    intro hk
    have := ih (by omega)
    have hl := hw.1
    have h2 := hT.le2 1 (n - (k + 1)) (n + (k + 1))
    have h := hT.eq (k := 1) (i := n - (k + 1)) (j := n + (k + 1)) (by omega) (by omega) (by omega)
    rw [hs, eq3, br_out hw (by omega), ways_nil, if_neg (by omega), ways_e (by omega), this] at h
    omega
theorem round3 {g : Grammar} {w : List Int} {T : Tbl} {n : Nat} (hs : sides g = g3) (hT : IsCount g 2 w T) (hw : RndW w n) : ∀ k, k ≤ n → T 1 (n - k) (n + k) = 2 := by
  intro k
  induction k with
  | zero =>
    intro _
    have hl := hw.1
    have h2 := hT.le2 1 n n
    have h := hT.eq (k := 1) (i := n) (j := n) (by omega) (by omega) (by omega)
    have h3 := ways_ee (w := w) (i := n) (j := n) (Nat.le_refl _) hT.le2
    rw [hs, eq3, br_mid hw, ways_nil, if_pos rfl] at h
    rw [Nat.sub_zero, Nat.add_zero]
    have h4 : 1 ≤ T 1 n n := by omega
    have h5 : 1 ≤ T 1 n n * T 1 n n := Nat.mul_pos h4 h4
    omega
  | succ k ih =>
    intro hk
    have := ih (by omega)
    have hl := hw.1
    have h2 := hT.le2 1 (n - (k + 1)) (n + (k + 1))
    have h := hT.eq (k := 1) (i := n - (k + 1)) (j := n + (k + 1)) (by omega) (by omega) (by omega)
    rw [hs, eq3, br_out hw (by omega), ways_nil, if_neg (by omega), this] at h
    omega
end Go.Proofs
