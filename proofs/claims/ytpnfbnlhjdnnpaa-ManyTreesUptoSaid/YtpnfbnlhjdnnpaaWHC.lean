/- Part of a proof that a law of the given program answers true. -/
import Derived.Test.YtpnfbnlhjdnnpaaWHB
set_option linter.unusedSimpArgs false
set_option linter.unusedVariables false
set_option maxHeartbeats 4000000
namespace Go.Proofs
open Go.E
theorem waysV_snoc (T : Tbl) (w : List Int) (i : Nat) (l : List Int) (s : Int) : waysV T w i (l ++ [s]) = stepN T w s (waysV T w i l) := by unfold waysV; rw [List.foldl_append]; rfl
theorem waysV_le (T : Tbl) (w : List Int) (i : Nat) (l : List Int) : (∀ b, waysV T w i l b ≤ 2) ∧ ∀ b, b < i → waysV T w i l b = 0 := by
 have h : ∀ (l : List Int) (v : Nat → Nat), (∀ b, v b ≤ 2) → (∀ b, b < i → v b = 0) → (∀ b, l.foldl (fun v s => stepN T w s v) v b ≤ 2) ∧ ∀ b, b < i → l.foldl (fun v s => stepN T w s v) v b = 0 := by
  intro l
  induction l with
  | nil => intro v h1 h2; exact ⟨h1, h2⟩
  | cons s r ih => intro v h1 h2; exact ih _ (stepN_le h1) (stepN_low h2)
 exact h l _ (fun b => by split <;> omega) (fun b hb => by rw [if_neg (by omega)])
theorem vecC_set1 (a : Nat → Nat) (b : Nat) : (vecC a).set b (.int .i64 1) = vecC (upd a b 1) := vecC_set a b 1
theorem vecC_init {i j : Nat} (h : i ≤ j) : vecC (upd (fun _ => 0) i 1) = vecC (cutJ (fun b => if b = i then 1 else 0) j) := by
 refine vecC_ext fun b _ => ?_
 unfold upd cutJ
 by_cases e : b = i
 · subst e; simp [h]
 · simp [e]
theorem many_counter_ways {g : Grammar} {w right : List Int} {nn i j : Nat} {T : Tbl} (hij : i ≤ j) (hj : j ≤ 24) (hjw : j ≤ w.length) (hw : w.length ≤ 24) (hr : ∀ s ∈ right, s < 1000 ∨ ∃ k : Nat, s = 1000 + (k : Int) ∧ k < nn) (hnn : nn ≤ 1000000) (hl : right.length ≤ 1000000) (hT : ∀ k a b, T k a b ≤ 2) : Pure Try.prog 47 [.iptr 7 (cntV g w nn T) 0, .sl 1 false (right.map (V.int .i64)), vi i, vi j] (vi (waysN T w right i j)) := by
 refine pure_intro Try.func47 e47_nm e47_ok (by show 4 ≤ 89; decide) ?_
 show ewp _ e47n61 _ _
 repeat' with_reducible first
  | refine s_ ?_
  | simp -implicitDefEqProofs only [wZZ, seval, vecC_0, vecC_set1]
  | (apply iaA_ptrQ (by omega))
  | (refine stQ_cell rfl rfl rfl (vecC_lt (by omega)) ?_)
 rw [vecC_init hij]
 refine ewp_loopN ?nx1 (fun (r : Nat) s => s.f 0 = ?v1_0 ∧ s.f 2 = ?v1_2 ∧ s.f 3 = ?v1_3 ∧ s.f 9 = ?v1_9 ∧ s.f 17 = ?v1_17 ∧ s.f 18 = ?v1_18 ∧ s.f 19 = vi r ∧ (r ≤ right.length) ∧ ((s.H 1 = some (MObj.own 25 [.agg (vecC (cutJ (waysV T w i (right.take r)) j))] false)))) (fun r => right.length - r) (0) wj_ (by refine ⟨?_, ?_, ?_, ?_, ?_, ?_, ?_, (by first | omega | (simp; done) | assumption), (by simp only [wM, ↓reduceIte]; rfl)⟩ <;> first | (simp -implicitDefEqProofs only [wL, wM, wN, wX, seval, Option.some.injEq] <;> exact wt_) | rfl | exact ⟨_, rfl⟩) ?_
 intro r s hnx ⟨g0, g2, g3, g9, g17, g18, g19, k1_0, k1_1⟩
 have oa := k1_1
 obtain ⟨hv, hlow⟩ := waysV_le T w i (right.take r)
 by_cases hr2 : r < right.length
 · have htk : right.take (r + 1) = right.take r ++ [right[r]] := by rw [List.take_add_one, List.getElem?_eq_getElem hr2]; rfl
   have hst : waysV T w i (right.take (r + 1)) = stepN T w right[r] (waysV T w i (right.take r)) := by rw [htk, waysV_snoc]
   have hsr := hr _ (List.getElem_mem hr2)
   have W : ∀ (s1 : St) (Q : Exit → St → Prop) (ib : Nat), s1.f 0 = .iptr 7 (cntV g w nn T) 0 → s1.f 2 = vi i → s1.f 3 = vi j → s1.f 9 = .ptr 1 0 0 → s1.f 11 = vi right[r] → s1.f 12 = .ptr ib 0 0 → s1.H 1 = some (.own 25 [.agg (vecC (cutJ (waysV T w i (right.take r)) j))] false) → s1.H ib = some (.own 25 [.agg (vecC (fun _ => 0))] false) → 1 ≠ ib →
    (∀ s', s'.H ib = some (.own 25 [.agg (vecC (cutJ (waysV T w i (right.take (r + 1))) j))] false) → (∀ id, id ≠ ib → s'.H id = s1.H id) → (∀ t, t < 23 → t ≠ 13 → t ≠ 14 → s'.f t = s1.f t) → s1.next ≤ s'.next → Q .normal s') → ewp Try.prog e47n43 Q s1 := by
    intro s1 Q ib q0 q2 q3 q9 q11 q12 qa qb qne qQ
    rw [hst] at qQ
    exact ways2 q0 q2 q3 q9 q11 q12 qa qb qne hij hj hjw hw hsr hnn hv hlow hT qQ
   show ewp _ (.seq (.reg e47r4) (.seq e47n5 (.seq (.block 1 (.seq (.reg e47r6) (.seq (.reg e47r7) (.seq e47n43 (.reg e47r44))))) (.reg e47r49)))) _ _
   generalize e47n43 = E43 at W
   repeat' with_reducible first
    | refine s_ ?_
    | simp -implicitDefEqProofs only [wZZ, seval, g0, g2, g3, g9, g17, g18, g19, vecC_0]
    | (refine condQ_j (fun h h_ => ?_) (fun h h_ => ?_) <;> (try simp only [wD, reduceCtorEq] at h_) <;> (try exact wb_) <;> (try simp only [h]))
    | (apply ia_slQ; (focus omega); (exact wd_))
   refine W _ _ (s.next + 1 + 3) (by simp -implicitDefEqProofs only [wL, seval, g0]) (by simp -implicitDefEqProofs only [wL, seval, g2]) (by simp -implicitDefEqProofs only [wL, seval, g3]) (by simp -implicitDefEqProofs only [wL, seval, g9]) wl_ wl_ (by simp only [wM]; repeat (first | rw [if_pos trivial] | rw [if_pos rfl] | rw [if_neg (by omega)]); exact oa) wi_ (by omega) (fun s2 r1 r2 r3 r4 => ?_)
   have r3' : ∀ t, t < 20 → t ≠ 13 → t ≠ 14 → t ≠ 11 → t ≠ 12 → s2.f t = s.f t := fun t h1 h2 h3 h4 h5 => by
    rw [r3 t (by omega) h2 h3]
    simp only [wL]
    repeat (first | rw [if_pos trivial] | rw [if_pos rfl] | rw [if_neg (by omega)])
   have h9 := (r3' 9 (by omega) (by omega) (by omega) (by omega) (by omega)).trans g9
   have h19 := (r3' 19 (by omega) (by omega) (by omega) (by omega) (by omega)).trans g19
   have h12 : s2.f 12 = .ptr (s.next + 1 + 3) 0 0 := (r3 12 (by omega) (by omega) (by omega)).trans wl_
   have oa2 : s2.H 1 = some (.own 25 [.agg (vecC (cutJ (waysV T w i (right.take r)) j))] false) := (r2 1 (by omega)).trans (by simp only [wM]; repeat (first | rw [if_pos trivial] | rw [if_pos rfl] | rw [if_neg (by omega)]); exact oa)
   (try simp only [wN] at r4)
   have hzr : IntKind.i64.wrap ((r + 1 : Nat) : Int) = ((r + 1 : Nat) : Int) := wrap64 (by omega) (by omega)
   repeat' with_reducible first
    | refine s_ ?_
    | simp -implicitDefEqProofs only [wZZ, seval, g0, g2, g3, g9, g17, g18, g19, h9, h12, h19, r1, oa2, hzr]
    | (refine ldQ_whole ?_)
    | (refine stQ_whole rfl (vecC_len _) ?_)
   exact ⟨by omega, r + 1, by omega, (r3' 0 (by omega) (by omega) (by omega) (by omega) (by omega)).trans g0, (r3' 2 (by omega) (by omega) (by omega) (by omega) (by omega)).trans g2, (r3' 3 (by omega) (by omega) (by omega) (by omega) (by omega)).trans g3, trivial, (r3' 17 (by omega) (by omega) (by omega) (by omega) (by omega)).trans g17, (r3' 18 (by omega) (by omega) (by omega) (by omega) (by omega)).trans g18, rfl, by omega, rfl⟩
 · rw [List.take_of_length_le (by omega)] at oa
   have hcj : cutJ (waysV T w i right) j j = waysN T w right i j := by unfold cutJ waysN; rw [if_pos (Nat.le_refl j)]
   repeat' with_reducible first
    | refine s_ ?_
    | simp -implicitDefEqProofs only [wZZ, seval, g0, g2, g3, g9, g17, g18, g19, oa]
    | (refine condQ_j (fun h h_ => ?_) (fun h h_ => ?_) <;> (try simp only [wD, reduceCtorEq] at h_) <;> (try exact wb_) <;> (try simp only [h]))
    | (apply iaA_ptrQ (by omega))
    | (refine ldQ_cell (vecC_get (by omega)) ?_)
   refine post1 rfl (Or.inr rfl) ?_
   simp -implicitDefEqProofs only [wL, seval, g0, g2, g3, g9, g17, g18, g19]
   first | refine er_bool ?_ | refine er_int ?_ | refine er_str ?_ | refine er_sl_eq ?_ | refine er_asl_eq ?_
   try (with_reducible rfl)
   rw [hcj]

abbrev sumS (T : Tbl) (w : List Int) (i j : Nat) (S : Nat → Nat) (p : GPr) : Nat → Nat := upd S p.left.toNat (min 2 (S p.left.toNat + waysN T w p.right i j))
def sumP (T : Tbl) (prods : List GPr) (w : List Int) (i j : Nat) : Nat → Nat := prods.foldl (sumS T w i j) (fun _ => 0)
def roundN (T : Tbl) (nn : Nat) (prods : List GPr) (w : List Int) (i j : Nat) : Tbl := fun k a b => if k < nn ∧ a = i ∧ b = j then sumP T prods w i j k else T k a b
theorem sumP_snoc (T : Tbl) (l : List GPr) (p : GPr) (w : List Int) (i j : Nat) : sumP T (l ++ [p]) w i j = sumS T w i j (sumP T l w i j) p := by unfold sumP; rw [List.foldl_append]; rfl
theorem sumP_le (T : Tbl) (l : List GPr) (w : List Int) (i j : Nat) (k : Nat) : sumP T l w i j k ≤ 2 := by
 have h : ∀ (l : List GPr) (S : Nat → Nat), (∀ k, S k ≤ 2) → ∀ k, l.foldl (sumS T w i j) S k ≤ 2 := by
  intro l
  induction l with
  | nil => intro S h; exact h
  | cons p r ih => exact fun S h => ih _ fun k => by unfold sumS upd; split <;> first | omega | exact h k
 exact h l _ (fun _ => by omega) k
def LeT (T T' : Tbl) : Prop := ∀ k a b, T k a b ≤ T' k a b
theorem sumN_mono {f g : Nat → Nat} {n : Nat} (h : ∀ a, f a ≤ g a) : sumN f n ≤ sumN g n := by
 induction n with
 | zero => exact Nat.le_refl _
 | succ n ih => have := h n; unfold sumN; omega
theorem stepN_mono {T T' : Tbl} {w : List Int} {s : Int} {v v' : Nat → Nat} (hT : LeT T T') (h : ∀ b, v b ≤ v' b) (b : Nat) : stepN T w s v b ≤ stepN T' w s v' b := by
 unfold stepN; split
 · split
   · exact h _
   · omega
 · have := sumN_mono (n := b + 1) (f := fun a => v a * T (s - 1000).toNat a b) (g := fun a => v' a * T' (s - 1000).toNat a b) (fun a => Nat.mul_le_mul (h a) (hT _ _ _))
   omega
theorem waysN_mono {T T' : Tbl} {w : List Int} (hT : LeT T T') (l : List Int) (i j : Nat) : waysN T w l i j ≤ waysN T' w l i j := by
 have h : ∀ (l : List Int) (v v' : Nat → Nat), (∀ b, v b ≤ v' b) → ∀ b, l.foldl (fun v s => stepN T w s v) v b ≤ l.foldl (fun v s => stepN T' w s v) v' b := by
  intro l
  induction l with
  | nil => intro v v' h; exact h
  | cons s r ih => exact fun v v' h => ih _ _ (stepN_mono hT h)
 exact h l _ _ (fun b => Nat.le_refl _) j
theorem sumP_mono {T T' : Tbl} {w : List Int} (hT : LeT T T') (l : List GPr) (i j k : Nat) : sumP T l w i j k ≤ sumP T' l w i j k := by
 have h : ∀ (l : List GPr) (S S' : Nat → Nat), (∀ k, S k ≤ S' k) → ∀ k, l.foldl (sumS T w i j) S k ≤ l.foldl (sumS T' w i j) S' k := by
  intro l
  induction l with
  | nil => intro S S' h; exact h
  | cons p r ih =>
    refine fun S S' h => ih _ _ fun k => ?_
    unfold sumS upd
    have := waysN_mono (w := w) hT p.right i j
    have := h p.left.toNat
    split
    · omega
    · exact h k
 exact h l _ _ (fun _ => Nat.le_refl _) k
theorem roundN_up {T : Tbl} {nn : Nat} {l : List GPr} {w : List Int} {i j : Nat} (h : ∀ k, k < nn → T k i j ≤ sumP T l w i j k) : LeT T (roundN T nn l w i j) := by
 intro k a b
 unfold roundN
 split
 · rename_i hc
   obtain ⟨h1, rfl, rfl⟩ := hc
   exact h k h1
 · exact Nat.le_refl _
theorem roundN_pre {T : Tbl} {nn : Nat} {l : List GPr} {w : List Int} {i j : Nat} (h : ∀ k, k < nn → T k i j ≤ sumP T l w i j k) : ∀ k, k < nn → (roundN T nn l w i j) k i j ≤ sumP (roundN T nn l w i j) l w i j k := by
 intro k hk
 have e : (roundN T nn l w i j) k i j = sumP T l w i j k := by unfold roundN; rw [if_pos ⟨hk, rfl, rfl⟩]
 rw [e]
 exact sumP_mono (roundN_up h) l i j k
theorem roundN_le {T : Tbl} {nn : Nat} {l : List GPr} {w : List Int} {i j : Nat} (h : ∀ k a b, T k a b ≤ 2) (k a b : Nat) : roundN T nn l w i j k a b ≤ 2 := by
 unfold roundN; split
 · exact sumP_le _ _ _ _ _ _
 · exact h k a b
def rnds (nn : Nat) (l : List GPr) (w : List Int) (i j : Nat) (T : Tbl) : Nat → Tbl
 | 0 => T
 | n + 1 => roundN (rnds nn l w i j T n) nn l w i j
theorem rnds_le {nn : Nat} {l : List GPr} {w : List Int} {i j : Nat} {T : Tbl} (h : ∀ k a b, T k a b ≤ 2) (n : Nat) : ∀ k a b, rnds nn l w i j T n k a b ≤ 2 := by
 induction n with
 | zero => exact h
 | succ n ih => exact roundN_le ih
theorem rnds_pre {nn : Nat} {l : List GPr} {w : List Int} {i j : Nat} {T : Tbl} (h : ∀ k, k < nn → T k i j ≤ sumP T l w i j k) (n : Nat) : ∀ k, k < nn → rnds nn l w i j T n k i j ≤ sumP (rnds nn l w i j T n) l w i j k := by
 induction n with
 | zero => exact h
 | succ n ih => exact roundN_pre ih
def room (nn i j : Nat) (T : Tbl) : Nat := sumN (fun k => 2 - T k i j) nn
theorem sumN_lt {f g : Nat → Nat} {n : Nat} (h : ∀ k, k < n → g k ≤ f k) (hx : ∃ k, k < n ∧ g k < f k) : sumN g n < sumN f n := by
 induction n with
 | zero => obtain ⟨k, hk, _⟩ := hx; omega
 | succ n ih =>
   obtain ⟨k, hk, hlt⟩ := hx
   have hle : sumN g n ≤ sumN f n := by
    clear ih hlt hk
    induction n with
    | zero => exact Nat.le_refl _
    | succ n ih2 => have := h n (by omega); have := ih2 fun k hk => h k (by omega); unfold sumN; omega
   have hn := h n (by omega)
   unfold sumN
   by_cases e : k = n
   · subst e; omega
   · have := ih (fun k hk => h k (by omega)) ⟨k, by omega, hlt⟩
     omega
theorem room_lt {T : Tbl} {nn : Nat} {l : List GPr} {w : List Int} {i j : Nat} (h2 : ∀ k a b, T k a b ≤ 2) (h : ∀ k, k < nn → T k i j ≤ sumP T l w i j k) (hx : ∃ k, k < nn ∧ sumP T l w i j k ≠ T k i j) : room nn i j (roundN T nn l w i j) < room nn i j T := by
 unfold room
 have e : ∀ k, k < nn → roundN T nn l w i j k i j = sumP T l w i j k := fun k hk => by unfold roundN; rw [if_pos ⟨hk, rfl, rfl⟩]
 refine sumN_lt (fun k hk => ?_) ?_
 · rw [e k hk]; have := h k hk; omega
 · obtain ⟨k, hk, hne⟩ := hx
   refine ⟨k, hk, ?_⟩
   rw [e k hk]; have := h k hk; have := sumP_le T l w i j k; omega
theorem round_still {T : Tbl} {nn : Nat} {l : List GPr} {w : List Int} {i j : Nat} (h : ∀ k, k < nn → sumP T l w i j k = T k i j) : roundN T nn l w i j = T := by
 funext k a b
 unfold roundN
 split
 · rename_i hc
   obtain ⟨h1, rfl, rfl⟩ := hc
   exact h k h1
 · rfl

def sumC (nn : Nat) (S : Nat → Nat) : List V := (List.range nn).map fun k => vi (S k)
theorem sumC_len (nn : Nat) (S : Nat → Nat) : (sumC nn S).length = nn := by simp [sumC]
theorem sumC_get {nn k : Nat} {S : Nat → Nat} (h : k < nn) : (sumC nn S)[k]? = some (vi (S k)) := by simp [sumC, h]
theorem sumC_0 (nn : Nat) : List.replicate nn (V.int .i64 0) = sumC nn (fun _ => 0) := by
 refine List.ext_getElem? fun i => ?_
 by_cases h : i < nn
 · rw [sumC_get h]; simp [h]
 · rw [List.getElem?_eq_none (by simp; omega), List.getElem?_eq_none (by rw [sumC_len]; omega)]
theorem sumC_set (nn : Nat) (S : Nat → Nat) (b x : Nat) : (sumC nn S).set b (vi x) = sumC nn (upd S b x) := by
 refine List.ext_getElem? fun i => ?_
 rw [List.getElem?_set]
 by_cases hi : i < nn
 · rw [sumC_get hi, sumC_len, sumC_get hi]
   by_cases e : b = i
   · subst e; simp [hi, upd]
   · simp [e, upd, Ne.symm e]
 · rw [List.getElem?_eq_none (by rw [sumC_len]; omega), List.getElem?_eq_none (by rw [sumC_len]; omega)]
   rw [sumC_len]; simp; omega
theorem ld1 {K : V → Prop} {nn k : Nat} {S : Nat → Nat} {ro : Bool} (h : k < nn) (hk : K (vi (S k))) : onS (ldQ (some (.own 1 (sumC nn S) ro)) false 1 k 0) K := by
 have e : ldQ (some (.own 1 (sumC nn S) ro)) false 1 k 0 = some (vi (S k)) := by simp [ldQ, sumC_get h, partE, V.isAgg]
 rw [e]; exact hk
theorem st1 {K : St → Prop} {s : St} {nn k x id : Nat} {S : Nat → Nat} (h : k < nn) (hk : K (s.setO id (some (.own 1 (sumC nn (upd S k x)) false)))) : onS (stQ s (some (.own 1 (sumC nn S) false)) 1 id k 0 (vi x)) K := by
 have e : stQ s (some (.own 1 (sumC nn S) false)) 1 id k 0 (vi x) = some (s.setO id (some (.own 1 (sumC nn (upd S k x)) false))) := by
  rw [← sumC_set]
  simp [stQ, sumC_get h, V.cells, V.okCell, storeE, V.isAgg]
 rw [e]; exact hk
def tabV (nn : Nat) (T : Tbl) : List V := (List.range nn).map fun k => V.agg (matC (T k))
def updT (T : Tbl) (k a b x : Nat) : Tbl := fun k' a' b' => if k' = k ∧ a' = a ∧ b' = b then x else T k' a' b'
theorem tabV_len (nn : Nat) (T : Tbl) : (tabV nn T).length = nn := by simp [tabV]
theorem tabV_get {nn k : Nat} {T : Tbl} (h : k < nn) : (tabV nn T)[k]? = some (V.agg (matC (T k))) := by simp [tabV, h]
theorem matC_set {n : Nat → Nat → Nat} {a b x : Nat} (ha : a < 25) (hb : b < 25) : (matC n).set (a * 25 + b) (vi x) = matC (fun a' b' => if a' = a ∧ b' = b then x else n a' b') := by
 refine List.ext_getElem? fun i => ?_
 rw [List.getElem?_set]
 by_cases hi : i < 625
 · have e1 : ∀ m : Nat → Nat → Nat, (matC m)[i]? = some (vi (m (i / 25) (i % 25))) := fun m => by simp [matC, hi]
   rw [e1, matC_len, e1]
   by_cases e : a * 25 + b = i
   · have h1 : i / 25 = a := by omega
     have h2 : i % 25 = b := by omega
     simp [e, hi, h1, h2]
   · have : ¬ (i / 25 = a ∧ i % 25 = b) := fun h => e (by omega)
     simp [e, this]
 · rw [List.getElem?_eq_none (by rw [matC_len]; omega), List.getElem?_eq_none (by rw [matC_len]; omega)]
   rw [matC_len]; simp; omega
theorem tabV_set {nn k a b x : Nat} {T : Tbl} (ha : a < 25) (hb : b < 25) : (tabV nn T).set k (V.agg ((matC (T k)).set (a * 25 + b) (vi x))) = tabV nn (updT T k a b x) := by
 refine List.ext_getElem? fun i => ?_
 rw [List.getElem?_set]
 by_cases hi : i < nn
 · rw [tabV_get hi, tabV_len, tabV_get hi]
   by_cases e : k = i
   · subst e
     have e2 : (fun a' b' => if a' = a ∧ b' = b then x else T k a' b') = updT T k a b x k := by funext a' b'; simp [updT]
     rw [matC_set ha hb, e2]; simp [hi]
   · have : updT T k a b x i = T i := by funext a' b'; unfold updT; rw [if_neg (fun h => e h.1.symm)]
     simp [e, this]
 · rw [List.getElem?_eq_none (by rw [tabV_len]; omega), List.getElem?_eq_none (by rw [tabV_len]; omega)]
   rw [tabV_len]; simp; omega
theorem ldM {K : V → Prop} {nn k a b : Nat} {T : Tbl} {ro : Bool} (h : k < nn) (ha : a < 25) (hb : b < 25) (hk : K (vi (T k a b))) : onS (ldQ (some (.own 625 (tabV nn T) ro)) false 1 k (a * 25 + b)) K := by
 have e : ldQ (some (.own 625 (tabV nn T) ro)) false 1 k (a * 25 + b) = some (vi (T k a b)) := by
  simp only [ldQ, tabV_get h, partE]
  rw [if_neg (by simp [V.isAgg])]
  simp only [partC, V.cells, Bool.false_eq_true, if_false, if_true, matC_get ha hb]
 rw [e]; exact hk
theorem stM {K : St → Prop} {s : St} {nn k a b x id : Nat} {T : Tbl} (h : k < nn) (ha : a < 25) (hb : b < 25) (hk : K (s.setO id (some (.own 625 (tabV nn (updT T k a b x)) false)))) : onS (stQ s (some (.own 625 (tabV nn T) false)) 1 id k (a * 25 + b) (vi x)) K := by
 have e0 : storeE 1 625 (.agg (matC (T k))) (vi x) (a * 25 + b) = some (.agg ((matC (T k)).set (a * 25 + b) (vi x))) := by
  unfold storeE
  rw [if_neg (by simp [V.isAgg])]
  have : a * 25 + b < (matC (T k)).length := by rw [matC_len]; omega
  simp [this]
 have e : stQ s (some (.own 625 (tabV nn T) false)) 1 id k (a * 25 + b) (vi x) = some (s.setO id (some (.own 625 (tabV nn (updT T k a b x)) false))) := by
  rw [← tabV_set ha hb]
  simp only [stQ, tabV_get h, e0]
  rfl
 rw [e]; exact hk
@[reducible] def cntC (g : Grammar) (w : List Int) (ni nn : Nat) : V := .agg [.sl 6 false (g.toks.map Tok.V), .sl 2 false (g.nons.map Non.V), .sl 6 false (g.prods.map GPr.V), .str g.pro, .str g.tail, .sl 1 false (w.map (V.int .i64)), .msl ni 625 0 nn]
theorem er_mat {b : Bool} {H : Nat → Option MObj} (n : Nat → Nat → Nat) : Er b H (.agg (matC n)) (.agg (matC n)) := .agg _ _ rfl (er_list fun c hc => by
 obtain ⟨q, _, rfl⟩ := List.mem_map.1 hc; exact .int _ _)
theorem cnt_er {H : Nat → Option MObj} {m ni nn : Nat} {g : Grammar} {w : List Int} {T : Tbl} (hm : H m = some (.own 7 [cntC g w ni nn] false)) (hn : H ni = some (.own 625 (tabV nn T) false)) : Er true H (.ptr m 0 0) (.iptr 7 (cntV g w nn T) 0) := by
 refine .ptr m 0 0 7 _ false _ _ rfl hm rfl ?_
 refine ErL.agg (.cons er_cl (.cons er_cl (.cons er_cl (.cons (.str _) (.cons (.str _) (.cons er_cl (.cons ?_ .nil)))))))
 refine .msl ni 625 0 nn (tabV nn T) false _ rfl hn (by rw [tabV_len]; omega) (by simp) fun i c c' h1 h2 => ?_
 rw [Nat.zero_add] at h1
 have e : (tabV nn T)[i]? = ((List.range nn).map fun k => V.agg (matC (T k)))[i]? := rfl
 rw [e, h2] at h1
 cases h1
 obtain ⟨k, _, rfl⟩ := List.mem_map.1 (List.mem_of_getElem? h2)
 exact er_mat _
theorem callQB4 {P : Program} [Glob P] {cls : Cls} {id : Nat} {s : St} {K : V → St → Prop} {f : FuncId} {x x' y y' z z' u u' res : V} (hE : Er true s.H x x') (hE2 : Er true s.H y y') (hE3 : Er true s.H z z') (hE4 : Er true s.H u u') (hp : Pure P f [x', y', z', u'] res) (hc : (cls == .r) = false) (hf : Flat res) (hk : K res s) : callQ P cls id s K f [x, y, z, u] :=
 Or.inl ⟨true, [x', y', z', u'], res, fun e => (by subst e; cases hc), ers_cons hE (ers_cons hE2 (ers_cons hE3 (ers_cons hE4 ers_nil))), hp, (fun _ => hf), hk⟩
end Go.Proofs
