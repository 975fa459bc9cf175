/-
  Part of a proof that a law of the given program answers true: contracts of its functions, and the law. Holds for inputs of at most 1048576 values and letters in all.
-/
import Derived.Test.YtpnfbnlhjdnnpaaPF
set_option linter.unusedSimpArgs false
set_option linter.unusedVariables false
set_option maxHeartbeats 4000000
namespace Go.Proofs
open Go.E

/- How many trees: sums over the productions; a round. -/
abbrev sumS (T : Tbl) (w : List Int) (i j : Nat) (S : Nat → Nat) (p : GPr) : Nat → Nat := upd S p.left.toNat (min 2 (S p.left.toNat + waysN T w p.right i j))
def sumP (T : Tbl) (prods : List GPr) (w : List Int) (i j : Nat) : Nat → Nat := prods.foldl (sumS T w i j) (fun _ => 0)
def roundN (T : Tbl) (nn : Nat) (prods : List GPr) (w : List Int) (i j : Nat) : Tbl := fun k a b => if k < nn ∧ a = i ∧ b = j then sumP T prods w i j k else T k a b
theorem sumP_snoc (T : Tbl) (l : List GPr) (p : GPr) (w : List Int) (i j : Nat) : sumP T (l ++ [p]) w i j = sumS T w i j (sumP T l w i j) p := by unfold sumP; rw [List.foldl_append]; rfl
theorem sumP_le (T : Tbl) (l : List GPr) (w : List Int) (i j : Nat) (k : Nat) : sumP T l w i j k ≤ 2 := by
  have h : ∀ (l : List GPr) (S : Nat → Nat), (∀ k, S k ≤ 2) → ∀ k, l.foldl (sumS T w i j) S k ≤ 2 := by
    intro l
    induction l with
    | nil => intro S h; exact h
    | cons p r ih => exact fun S h => ih _ fun k => by unfold sumS upd; split <;> first | omega | exact h k
  exact h l _ (fun _ => by omega) k
def LeT (T T' : Tbl) : Prop := ∀ k a b, T k a b ≤ T' k a b
theorem sumN_mono {f g : Nat → Nat} {n : Nat} (h : ∀ a, f a ≤ g a) : sumN f n ≤ sumN g n := by
  induction n with
  | zero => exact Nat.le_refl _
  | succ n ih => have := h n; unfold sumN; omega
theorem stepN_mono {T T' : Tbl} {w : List Int} {s : Int} {v v' : Nat → Nat} (hT : LeT T T') (h : ∀ b, v b ≤ v' b) (b : Nat) : stepN T w s v b ≤ stepN T' w s v' b := by
  unfold stepN; split
  · split
    · exact h _
    · omega
  · have := sumN_mono (n := b + 1) (f := fun a => v a * T (s - 1000).toNat a b) (g := fun a => v' a * T' (s - 1000).toNat a b) (fun a => Nat.mul_le_mul (h a) (hT _ _ _))
    omega
theorem waysN_mono {T T' : Tbl} {w : List Int} (hT : LeT T T') (l : List Int) (i j : Nat) : waysN T w l i j ≤ waysN T' w l i j := by
  have h : ∀ (l : List Int) (v v' : Nat → Nat), (∀ b, v b ≤ v' b) → ∀ b, l.foldl (fun v s => stepN T w s v) v b ≤ l.foldl (fun v s => stepN T' w s v) v' b := by
    intro l
    induction l with
    | nil => intro v v' h; exact h
    | cons s r ih => exact fun v v' h => ih _ _ (stepN_mono hT h)
  exact h l _ _ (fun b => Nat.le_refl _) j
theorem sumP_mono {T T' : Tbl} {w : List Int} (hT : LeT T T') (l : List GPr) (i j k : Nat) : sumP T l w i j k ≤ sumP T' l w i j k := by
  have h : ∀ (l : List GPr) (S S' : Nat → Nat), (∀ k, S k ≤ S' k) → ∀ k, l.foldl (sumS T w i j) S k ≤ l.foldl (sumS T' w i j) S' k := by
    intro l
    induction l with
    | nil => intro S S' h; exact h
    | cons p r ih =>
      refine fun S S' h => ih _ _ fun k => ?_
      unfold sumS upd
      have := waysN_mono (w := w) hT p.right i j
      have := h p.left.toNat
      split
      · omega
      · exact h k
  exact h l _ _ (fun _ => Nat.le_refl _) k
/-- What a round makes of what is not above it. -/
theorem roundN_up {T : Tbl} {nn : Nat} {l : List GPr} {w : List Int} {i j : Nat} (h : ∀ k, k < nn → T k i j ≤ sumP T l w i j k) : LeT T (roundN T nn l w i j) := by
  intro k a b
  unfold roundN
  split
  · rename_i hc
    obtain ⟨h1, rfl, rfl⟩ := hc
    exact h k h1
  · exact Nat.le_refl _
theorem roundN_pre {T : Tbl} {nn : Nat} {l : List GPr} {w : List Int} {i j : Nat} (h : ∀ k, k < nn → T k i j ≤ sumP T l w i j k) : ∀ k, k < nn → (roundN T nn l w i j) k i j ≤ sumP (roundN T nn l w i j) l w i j k := by
  intro k hk
  have e : (roundN T nn l w i j) k i j = sumP T l w i j k := by unfold roundN; rw [if_pos ⟨hk, rfl, rfl⟩]
  rw [e]
  exact sumP_mono (roundN_up h) l i j k
theorem roundN_le {T : Tbl} {nn : Nat} {l : List GPr} {w : List Int} {i j : Nat} (h : ∀ k a b, T k a b ≤ 2) (k a b : Nat) : roundN T nn l w i j k a b ≤ 2 := by
  unfold roundN; split
  · exact sumP_le _ _ _ _ _ _
  · exact h k a b
/-- So many rounds. -/
def rnds (nn : Nat) (l : List GPr) (w : List Int) (i j : Nat) (T : Tbl) : Nat → Tbl
  | 0 => T
  | n + 1 => roundN (rnds nn l w i j T n) nn l w i j
theorem rnds_le {nn : Nat} {l : List GPr} {w : List Int} {i j : Nat} {T : Tbl} (h : ∀ k a b, T k a b ≤ 2) (n : Nat) : ∀ k a b, rnds nn l w i j T n k a b ≤ 2 := by
  induction n with
  | zero => exact h
  | succ n ih => exact roundN_le ih
theorem rnds_pre {nn : Nat} {l : List GPr} {w : List Int} {i j : Nat} {T : Tbl} (h : ∀ k, k < nn → T k i j ≤ sumP T l w i j k) (n : Nat) : ∀ k, k < nn → rnds nn l w i j T n k i j ≤ sumP (rnds nn l w i j T n) l w i j k := by
  induction n with
  | zero => exact h
  | succ n ih => exact roundN_pre ih
/-- How much room there is. -/
def room (nn i j : Nat) (T : Tbl) : Nat := sumN (fun k => 2 - T k i j) nn
theorem sumN_lt {f g : Nat → Nat} {n : Nat} (h : ∀ k, k < n → g k ≤ f k) (hx : ∃ k, k < n ∧ g k < f k) : sumN g n < sumN f n := by
  induction n with
  | zero => obtain ⟨k, hk, _⟩ := hx; omega
  | succ n ih =>
    obtain ⟨k, hk, hlt⟩ := hx
    have hle : sumN g n ≤ sumN f n := by
      clear ih hlt hk
      induction n with
      | zero => exact Nat.le_refl _
      | succ n ih2 => have := h n (by omega); have := ih2 fun k hk => h k (by omega); unfold sumN; omega
    have hn := h n (by omega)
    unfold sumN
    by_cases e : k = n
    · subst e; omega
    · have := ih (fun k hk => h k (by omega)) ⟨k, by omega, hlt⟩
      omega
theorem room_lt {T : Tbl} {nn : Nat} {l : List GPr} {w : List Int} {i j : Nat} (h2 : ∀ k a b, T k a b ≤ 2) (h : ∀ k, k < nn → T k i j ≤ sumP T l w i j k) (hx : ∃ k, k < nn ∧ sumP T l w i j k ≠ T k i j) : room nn i j (roundN T nn l w i j) < room nn i j T := by
  unfold room
  have e : ∀ k, k < nn → roundN T nn l w i j k i j = sumP T l w i j k := fun k hk => by unfold roundN; rw [if_pos ⟨hk, rfl, rfl⟩]
  refine sumN_lt (fun k hk => ?_) ?_
  · rw [e k hk]; have := h k hk; omega
  · obtain ⟨k, hk, hne⟩ := hx
    refine ⟨k, hk, ?_⟩
    rw [e k hk]; have := h k hk; have := sumP_le T l w i j k; omega
theorem round_still {T : Tbl} {nn : Nat} {l : List GPr} {w : List Int} {i j : Nat} (h : ∀ k, k < nn → sumP T l w i j k = T k i j) : roundN T nn l w i j = T := by
  funext k a b
  unfold roundN
  split
  · rename_i hc
    obtain ⟨h1, rfl, rfl⟩ := hc
    exact h k h1
  · rfl
end Go.Proofs


set_option maxHeartbeats 4000000
namespace Go.Proofs
open Go.E

/- Numbers by nonterminal, and the table, as objects. -/
def sumC (nn : Nat) (S : Nat → Nat) : List V := (List.range nn).map fun k => vi (S k)
theorem sumC_len (nn : Nat) (S : Nat → Nat) : (sumC nn S).length = nn := by simp [sumC]
theorem sumC_get {nn k : Nat} {S : Nat → Nat} (h : k < nn) : (sumC nn S)[k]? = some (vi (S k)) := by simp [sumC, h]
theorem sumC_0 (nn : Nat) : List.replicate nn (V.int .i64 0) = sumC nn (fun _ => 0) := by
  refine List.ext_getElem? fun i => ?_
  by_cases h : i < nn
  · rw [sumC_get h]; simp [h]
  · rw [List.getElem?_eq_none (by simp; omega), List.getElem?_eq_none (by rw [sumC_len]; omega)]
theorem sumC_set (nn : Nat) (S : Nat → Nat) (b x : Nat) : (sumC nn S).set b (vi x) = sumC nn (upd S b x) := by
  refine List.ext_getElem? fun i => ?_
  rw [List.getElem?_set]
  by_cases hi : i < nn
  · rw [sumC_get hi, sumC_len, sumC_get hi]
    by_cases e : b = i
    · subst e; simp [hi, upd]
    · simp [e, upd, Ne.symm e]
  · rw [List.getElem?_eq_none (by rw [sumC_len]; omega), List.getElem?_eq_none (by rw [sumC_len]; omega)]
    rw [sumC_len]; simp; omega
theorem ld1 {K : V → Prop} {nn k : Nat} {S : Nat → Nat} {ro : Bool} (h : k < nn) (hk : K (vi (S k))) : onS (ldQ (some (.own 1 (sumC nn S) ro)) false 1 k 0) K := by
  have e : ldQ (some (.own 1 (sumC nn S) ro)) false 1 k 0 = some (vi (S k)) := by simp [ldQ, sumC_get h, partE, V.isAgg]
  rw [e]; exact hk
theorem st1 {K : St → Prop} {s : St} {nn k x id : Nat} {S : Nat → Nat} (h : k < nn) (hk : K (s.setO id (some (.own 1 (sumC nn (upd S k x)) false)))) : onS (stQ s (some (.own 1 (sumC nn S) false)) 1 id k 0 (vi x)) K := by
  have e : stQ s (some (.own 1 (sumC nn S) false)) 1 id k 0 (vi x) = some (s.setO id (some (.own 1 (sumC nn (upd S k x)) false))) := by
    rw [← sumC_set]
    simp [stQ, sumC_get h, V.cells, V.okCell, storeE, V.isAgg]
  rw [e]; exact hk
def tabV (nn : Nat) (T : Tbl) : List V := (List.range nn).map fun k => V.agg (matC (T k))
def updT (T : Tbl) (k a b x : Nat) : Tbl := fun k' a' b' => if k' = k ∧ a' = a ∧ b' = b then x else T k' a' b'
theorem tabV_len (nn : Nat) (T : Tbl) : (tabV nn T).length = nn := by simp [tabV]
theorem tabV_get {nn k : Nat} {T : Tbl} (h : k < nn) : (tabV nn T)[k]? = some (V.agg (matC (T k))) := by simp [tabV, h]
theorem matC_set {n : Nat → Nat → Nat} {a b x : Nat} (ha : a < 25) (hb : b < 25) : (matC n).set (a * 25 + b) (vi x) = matC (fun a' b' => if a' = a ∧ b' = b then x else n a' b') := by
  refine List.ext_getElem? fun i => ?_
  rw [List.getElem?_set]
  by_cases hi : i < 625
  · have e1 : ∀ m : Nat → Nat → Nat, (matC m)[i]? = some (vi (m (i / 25) (i % 25))) := fun m => by simp [matC, hi]
    rw [e1, matC_len, e1]
    by_cases e : a * 25 + b = i
    · have h1 : i / 25 = a := by omega
      have h2 : i % 25 = b := by omega
      simp [e, hi, h1, h2]
    · have : ¬ (i / 25 = a ∧ i % 25 = b) := fun h => e (by omega)
      simp [e, this]
  · rw [List.getElem?_eq_none (by rw [matC_len]; omega), List.getElem?_eq_none (by rw [matC_len]; omega)]
    rw [matC_len]; simp; omega
theorem tabV_set {nn k a b x : Nat} {T : Tbl} (ha : a < 25) (hb : b < 25) : (tabV nn T).set k (V.agg ((matC (T k)).set (a * 25 + b) (vi x))) = tabV nn (updT T k a b x) := by
  refine List.ext_getElem? fun i => ?_
  rw [List.getElem?_set]
  by_cases hi : i < nn
  · rw [tabV_get hi, tabV_len, tabV_get hi]
    by_cases e : k = i
    · subst e
      have e2 : (fun a' b' => if a' = a ∧ b' = b then x else T k a' b') = updT T k a b x k := by funext a' b'; simp [updT]
      rw [matC_set ha hb, e2]; simp [hi]
    · have : updT T k a b x i = T i := by funext a' b'; unfold updT; rw [if_neg (fun h => e h.1.symm)]
      simp [e, this]
  · rw [List.getElem?_eq_none (by rw [tabV_len]; omega), List.getElem?_eq_none (by rw [tabV_len]; omega)]
    rw [tabV_len]; simp; omega
theorem ldM {K : V → Prop} {nn k a b : Nat} {T : Tbl} {ro : Bool} (h : k < nn) (ha : a < 25) (hb : b < 25) (hk : K (vi (T k a b))) : onS (ldQ (some (.own 625 (tabV nn T) ro)) false 1 k (a * 25 + b)) K := by
  have e : ldQ (some (.own 625 (tabV nn T) ro)) false 1 k (a * 25 + b) = some (vi (T k a b)) := by
    simp only [ldQ, tabV_get h, partE]
    rw [if_neg (by simp [V.isAgg])]
    simp only [partC, V.cells, Bool.false_eq_true, if_false, if_true, matC_get ha hb]
  rw [e]; exact hk
theorem stM {K : St → Prop} {s : St} {nn k a b x id : Nat} {T : Tbl} (h : k < nn) (ha : a < 25) (hb : b < 25) (hk : K (s.setO id (some (.own 625 (tabV nn (updT T k a b x)) false)))) : onS (stQ s (some (.own 625 (tabV nn T) false)) 1 id k (a * 25 + b) (vi x)) K := by
  have e0 : storeE 1 625 (.agg (matC (T k))) (vi x) (a * 25 + b) = some (.agg ((matC (T k)).set (a * 25 + b) (vi x))) := by
    unfold storeE
    rw [if_neg (by simp [V.isAgg])]
    have : a * 25 + b < (matC (T k)).length := by rw [matC_len]; omega
    simp [this]
  have e : stQ s (some (.own 625 (tabV nn T) false)) 1 id k (a * 25 + b) (vi x) = some (s.setO id (some (.own 625 (tabV nn (updT T k a b x)) false))) := by
    rw [← tabV_set ha hb]
    simp only [stQ, tabV_get h, e0]
    rfl
  rw [e]; exact hk
/-- The counter's cells. -/
@[reducible] def cntC (g : Grammar) (w : List Int) (ni nn : Nat) : V := .agg [.sl 6 false (g.toks.map Tok.V), .sl 2 false (g.nons.map Non.V), .sl 6 false (g.prods.map GPr.V), .str g.pro, .str g.tail, .sl 1 false (w.map (V.int .i64)), .msl ni 625 0 nn]
theorem er_mat {b : Bool} {H : Nat → Option MObj} (n : Nat → Nat → Nat) : Er b H (.agg (matC n)) (.agg (matC n)) := .agg _ _ rfl (er_list fun c hc => by
  obtain ⟨q, _, rfl⟩ := List.mem_map.1 hc; exact .int _ _)
theorem cnt_er {H : Nat → Option MObj} {m ni nn : Nat} {g : Grammar} {w : List Int} {T : Tbl} (hm : H m = some (.own 7 [cntC g w ni nn] false)) (hn : H ni = some (.own 625 (tabV nn T) false)) : Er true H (.ptr m 0 0) (.iptr 7 (cntV g w nn T) 0) := by
  refine .ptr m 0 0 7 _ false _ _ rfl hm rfl ?_
  refine ErL.agg (.cons er_cl (.cons er_cl (.cons er_cl (.cons (.str _) (.cons (.str _) (.cons er_cl (.cons ?_ .nil)))))))
  refine .msl ni 625 0 nn (tabV nn T) false _ rfl hn (by rw [tabV_len]; omega) (by simp) fun i c c' h1 h2 => ?_
  rw [Nat.zero_add] at h1
  have e : (tabV nn T)[i]? = ((List.range nn).map fun k => V.agg (matC (T k)))[i]? := rfl
  rw [e, h2] at h1
  cases h1
  obtain ⟨k, _, rfl⟩ := List.mem_map.1 (List.mem_of_getElem? h2)
  exact er_mat _
theorem callQB4 {P : Program} [Glob P] {cls : Cls} {id : Nat} {s : St} {K : V → St → Prop} {f : FuncId} {x x' y y' z z' u u' res : V} (hE : Er true s.H x x') (hE2 : Er true s.H y y') (hE3 : Er true s.H z z') (hE4 : Er true s.H u u') (hp : Pure P f [x', y', z', u'] res) (hc : (cls == .r) = false) (hf : Flat res) (hk : K res s) : callQ P cls id s K f [x, y, z, u] :=
  Or.inl ⟨true, [x', y', z', u'], res, fun e => (by subst e; cases hc), ers_cons hE (ers_cons hE2 (ers_cons hE3 (ers_cons hE4 ers_nil))), hp, (fun _ => hf), hk⟩
end Go.Proofs


set_option maxHeartbeats 4000000
namespace Go.Proofs
open Go.E

/-- What counting asks of a grammar. -/
structure Cnt (g : Grammar) (nn : Nat) : Prop where
  nl : g.nons.length = nn
  nb : nn ≤ 1000000
  pb : g.prods.length ≤ 1000000
  pl : ∀ p ∈ g.prods, ∃ l : Nat, p.left = l ∧ l < nn
  pr : ∀ p ∈ g.prods, ∀ s ∈ p.right, s < 1000 ∨ ∃ k : Nat, s = 1000 + (k : Int) ∧ k < nn
  rb : ∀ p ∈ g.prods, p.right.length ≤ 1000000

theorem span1 {s0 : St} {g : Grammar} {w : List Int} {nn i j m ni is : Nat} {T : Tbl} {Q : Exit → St → Prop} (hg : Cnt g nn) (f0 : s0.f 0 = .ptr m 0 0) (f1 : s0.f 1 = vi i) (f2 : s0.f 2 = vi j) (f7 : s0.f 7 = .msl is 1 0 nn)
    (hm : s0.H m = some (.own 7 [cntC g w ni nn] false)) (hn : s0.H ni = some (.own 625 (tabV nn T) false)) (hs : s0.H is = some (.own 1 (sumC nn (fun _ => 0)) false)) (lm : m < s0.next) (ln : ni < s0.next) (ls : is < s0.next) (e1 : is ≠ m) (e2 : is ≠ ni)
    (hij : i ≤ j) (hj : j ≤ 24) (hjw : j ≤ w.length) (hw : w.length ≤ 24) (hT : ∀ k a b, T k a b ≤ 2)
    (hQ : ∀ s', s'.H is = some (.own 1 (sumC nn (sumP T g.prods w i j)) false) → (∀ id, id < s0.next → id ≠ is → s'.H id = s0.H id) → (∀ t, t < 9 → s'.f t = s0.f t) → s0.next ≤ s'.next → Q .normal s') : ewp Try.prog e29n22 Q s0 := by
  have hpb := hg.pb
  repeat' with_reducible first
    | refine ewp_reg_seq ?_ | refine ewp_block ?_
    | simp -implicitDefEqProofs only [wA, Nat.reduceEqDiff, ↓reduceIte, reduceCtorEq, Nat.reduceAdd, Int.cast_ofNat_Int, Int.reduceLT, Int.reduceLE, Int.reduceEq, Int.reduceToNat, decide_true, decide_false, Bool.false_eq_true, f0, f1, f2, f7, hm]
    | (apply ldQ_cell; (focus with_unfolding_all rfl))
  refine ewp_loopN ?nx2 (fun (q : Nat) s => s.f 0 = ?v2_0 ∧ s.f 1 = ?v2_1 ∧ s.f 2 = ?v2_2 ∧ s.f 6 = ?v2_6 ∧ s.f 7 = ?v2_7 ∧ s.f 24 = ?v2_24 ∧ s.f 25 = ?v2_25 ∧ s.f 26 = vi q ∧ (q ≤ g.prods.length) ∧ ((s.H is = some (MObj.own 1 (sumC nn (sumP T (g.prods.take q) w i j)) false))) ∧ ((∀ id, id < s0.next → id ≠ is → s.H id = s0.H id)) ∧ ((∀ t, t < 9 → s.f t = s0.f t))) (fun q => g.prods.length - q) (0) (by simp -implicitDefEqProofs only [wN, Nat.reduceAdd, Nat.zero_add]; exact Nat.le_refl _) (by refine ⟨?_, ?_, ?_, ?_, ?_, ?_, ?_, ?_, (by first | omega | (simp; done) | assumption), (by simp only [wM]; rw [List.take_zero]; exact hs), (by intro id h1 h2; simp only [wM]), (by intro t h1; simp only [wL]; repeat (first | rw [if_pos trivial] | rw [if_pos rfl] | rw [if_neg (by omega)]))⟩ <;> first | (simp -implicitDefEqProofs only [wL, wM, wN, wX, Nat.reduceEqDiff, ↓reduceIte, reduceCtorEq, Nat.reduceAdd, Option.some.injEq] <;> first | rfl | exact ⟨_, rfl⟩ | exact ⟨_, rfl, by first | assumption | exact Gr.nil | exact Gr.tok rfl (by omega) | exact Gr.tok (by simp -implicitDefEqProofs only [wM, Nat.reduceEqDiff, ↓reduceIte, reduceCtorEq] <;> rfl) (by omega) | exact Gr.clip⟩) | rfl | exact ⟨_, rfl⟩) ?_
  intro q s hnx ⟨g0, g1, g2, g6, g7, g24, g25, g26, k2_0, k2_1, k2_2, k2_3⟩
  have os := k2_1
  have om : s.H m = some (.own 7 [cntC g w ni nn] false) := by rw [k2_2 m lm (fun e => e1 e.symm)]; exact hm
  have on : s.H ni = some (.own 625 (tabV nn T) false) := by rw [k2_2 ni ln (fun e => e2 e.symm)]; exact hn
  by_cases hq : q < g.prods.length
  · obtain ⟨lf, hl1, hl2⟩ := hg.pl _ (List.getElem_mem hq)
    have hpr := hg.pr _ (List.getElem_mem hq); have hrb := hg.rb _ (List.getElem_mem hq)
    have hnb := hg.nb
    have htk : g.prods.take (q + 1) = g.prods.take q ++ [g.prods[q]] := by rw [List.take_add_one, List.getElem?_eq_getElem hq]; rfl
    have hst : sumP T (g.prods.take (q + 1)) w i j = upd (sumP T (g.prods.take q) w i j) lf (min 2 (sumP T (g.prods.take q) w i j lf + waysN T w g.prods[q].right i j)) := by
      rw [htk, sumP_snoc]; unfold sumS; rw [hl1]; rfl
    have hzq : IntKind.i64.wrap ((q + 1 : Nat) : Int) = ((q + 1 : Nat) : Int) := wrap64 (by omega) (by omega)
    have hS := sumP_le T (g.prods.take q) w i j lf
    have hW : waysN T w g.prods[q].right i j ≤ 2 := (waysV_le T w i g.prods[q].right).1 j
    have hz2 : IntKind.i64.wrap (((sumP T (g.prods.take q) w i j lf : Nat) : Int) + ((waysN T w g.prods[q].right i j : Nat) : Int)) = ((sumP T (g.prods.take q) w i j lf + waysN T w g.prods[q].right i j : Nat) : Int) := by rw [wrap64 (by omega) (by omega)]; omega
    have hmn := min2_nat (sumP T (g.prods.take q) w i j lf + waysN T w g.prods[q].right i j)
    by_cases hlt : sumP T (g.prods.take q) w i j lf < 2
    · repeat' with_reducible first
        | refine ewp_reg_seq ?_ | refine ewp_seq ?_ | refine ewp_reg ?_ | refine ewp_skip ?_ | refine ewp_block ?_ | refine xt_n ?_ | refine ewp_condQ ?_
        | simp -implicitDefEqProofs only [wA, Nat.reduceEqDiff, ↓reduceIte, reduceCtorEq, Nat.reduceAdd, Int.cast_ofNat_Int, Int.reduceLT, Int.reduceLE, Int.reduceEq, Int.reduceToNat, decide_true, decide_false, Bool.false_eq_true, g0, g1, g2, g6, g7, g24, g25, g26, f0, f1, f2, f7, om, os, hl1, hzq, hz2, st_min2, min2_ii, hmn]
        | (refine condQ_i (fun h => ?_) (fun h => ?_) <;> have h_ := h <;> (try simp only [wD, reduceCtorEq] at h_) <;> (try (exfalso; first | omega | exact bf h_ (by assumption) | exact bt h_ (by assumption) | (refine absurd ?_ h_; focus assumption) | (refine absurd h_ ?_; focus assumption))) <;> (try simp only [h]))
        | (refine ld1 hl2 ?_)
        | (apply ia_slQ; (focus omega); (focus (first | assumption | exact List.getElem?_eq_getElem (by omega) | rfl)))
        | (apply ia_mslQ; (focus omega); (focus (first | assumption | omega | (simp only [wZ]; omega) | trivial)))
        | (apply ldQ_cell; (focus with_unfolding_all rfl))
        | (apply stQ_whole; (focus with_unfolding_all rfl); (focus with_unfolding_all rfl))
        | simp -implicitDefEqProofs (disch := omega) only [w64, if_neg]
      refine callQB4 (x' := .iptr 7 (cntV g w nn T) 0) (hp := many_counter_ways (T := T) (w := w) (nn := nn) (g := g) hij hj hjw hw hpr hnb hrb hT) ?_ er_cl er_cl er_cl ?_ ?_ ?_
      · refine cnt_er (ni := ni) ?_ ?_
        · simp only [wM]
          repeat rw [if_neg (by omega)]
          exact om
        · simp only [wM]
          repeat rw [if_neg (by omega)]
          exact on
      · rfl
      · exact Flat.int _ _
      repeat' with_reducible first
        | refine ewp_reg ?_ | refine xt_n ?_ | refine xb_n ?_
        | simp -implicitDefEqProofs only [wA, Nat.reduceEqDiff, ↓reduceIte, reduceCtorEq, Nat.reduceAdd, Int.cast_ofNat_Int, Int.reduceLT, Int.reduceLE, Int.reduceEq, Int.reduceToNat, decide_true, decide_false, Bool.false_eq_true, g0, g1, g2, g6, g7, g24, g25, g26, f0, f1, f2, f7, om, os, hl1, hzq, hz2, st_min2, min2_ii, hmn]
        | (refine st1 hl2 ?_)
        | (apply ia_mslQ; (focus omega); (focus (first | assumption | omega | (simp only [wZ]; omega) | trivial)))
        | simp -implicitDefEqProofs (disch := omega) only [w64, if_neg]
      refine ⟨(by first | assumption | omega | (simp -implicitDefEqProofs only [wN]; omega)), q + 1, (by omega), ?_⟩
      refine ⟨?_, ?_, ?_, ?_, ?_, ?_, ?_, ?_, ?_, ?_, ?_, ?_⟩
      iterate 8 (focus (first | (simp -implicitDefEqProofs only [wL, wM, wN, wX, Nat.reduceEqDiff, ↓reduceIte, reduceCtorEq, Nat.reduceAdd, Option.some.injEq, g0, g1, g2, g6, g7, g24, g25, g26, hl1] <;> first | rfl | exact ⟨_, rfl⟩ | exact ⟨_, rfl, by first | assumption | exact Gr.nil | exact Gr.tok rfl (by omega) | exact Gr.tok (by simp -implicitDefEqProofs only [wM, Nat.reduceEqDiff, ↓reduceIte, reduceCtorEq] <;> rfl) (by omega) | exact Gr.clip⟩) | rfl | exact ⟨_, rfl⟩))
      all_goals try omega
      · exact congrArg some (congrArg (fun c => MObj.own 1 c false) (congrArg (sumC nn) hst.symm))
      · intro id h1 h2
        repeat rw [if_neg (by omega)]
        exact k2_2 id h1 h2
      · intro t h1
        repeat rw [if_neg (by omega)]
        exact k2_3 t h1
    · have hst2 : sumP T (g.prods.take (q + 1)) w i j = sumP T (g.prods.take q) w i j := by
        rw [hst]; funext k; unfold upd; split
        · rename_i e; subst e; omega
        · rfl
      repeat' with_reducible first
        | refine ewp_reg_seq ?_ | refine ewp_seq ?_ | refine ewp_reg ?_ | refine ewp_skip ?_ | refine ewp_block ?_ | refine xt_n ?_ | refine xb_n ?_ | refine ewp_condQ ?_
        | simp -implicitDefEqProofs only [wA, Nat.reduceEqDiff, ↓reduceIte, reduceCtorEq, Nat.reduceAdd, Int.cast_ofNat_Int, Int.reduceLT, Int.reduceLE, Int.reduceEq, Int.reduceToNat, decide_true, decide_false, Bool.false_eq_true, g0, g1, g2, g6, g7, g24, g25, g26, f0, f1, f2, f7, om, os, hl1, hzq, hz2, st_min2, min2_ii, hmn]
        | (refine condQ_i (fun h => ?_) (fun h => ?_) <;> have h_ := h <;> (try simp only [wD, reduceCtorEq] at h_) <;> (try (exfalso; first | omega | exact bf h_ (by assumption) | exact bt h_ (by assumption) | (refine absurd ?_ h_; focus assumption) | (refine absurd h_ ?_; focus assumption))) <;> (try simp only [h]))
        | (refine ld1 hl2 ?_)
        | (apply ia_slQ; (focus omega); (focus (first | assumption | exact List.getElem?_eq_getElem (by omega) | rfl)))
        | (apply ia_mslQ; (focus omega); (focus (first | assumption | omega | (simp only [wZ]; omega) | trivial)))
        | (apply ldQ_cell; (focus with_unfolding_all rfl))
        | (apply stQ_whole; (focus with_unfolding_all rfl); (focus with_unfolding_all rfl))
        | simp -implicitDefEqProofs (disch := omega) only [w64, if_neg]
      refine ⟨(by first | assumption | omega | (simp -implicitDefEqProofs only [wN]; omega)), q + 1, (by omega), ?_⟩
      refine ⟨?_, ?_, ?_, ?_, ?_, ?_, ?_, ?_, ?_, ?_, ?_, ?_⟩
      iterate 8 (focus (first | (simp -implicitDefEqProofs only [wL, wM, wN, wX, Nat.reduceEqDiff, ↓reduceIte, reduceCtorEq, Nat.reduceAdd, Option.some.injEq, g0, g1, g2, g6, g7, g24, g25, g26, hl1] <;> first | rfl | exact ⟨_, rfl⟩ | exact ⟨_, rfl, by first | assumption | exact Gr.nil | exact Gr.tok rfl (by omega) | exact Gr.tok (by simp -implicitDefEqProofs only [wM, Nat.reduceEqDiff, ↓reduceIte, reduceCtorEq] <;> rfl) (by omega) | exact Gr.clip⟩) | rfl | exact ⟨_, rfl⟩))
      all_goals try omega
      · rw [hst2]
        repeat rw [if_neg (by omega)]
      · intro id h1 h2
        repeat rw [if_neg (by omega)]
        exact k2_2 id h1 h2
      · intro t h1
        repeat rw [if_neg (by omega)]
        exact k2_3 t h1
  · have eq : q = g.prods.length := by omega
    subst eq
    rw [List.take_length] at k2_1
    repeat' with_reducible first
      | refine ewp_reg_seq ?_ | refine ewp_seq ?_ | refine ewp_exit ?_ | refine xt_e ?_ | refine xb_e ?_ | refine ewp_condQ ?_ | refine condQ_F ?_
      | simp -implicitDefEqProofs only [wA, Nat.reduceEqDiff, ↓reduceIte, reduceCtorEq, Nat.reduceAdd, Int.cast_ofNat_Int, Int.reduceLT, Int.reduceLE, Int.reduceEq, Int.reduceToNat, decide_true, decide_false, Bool.false_eq_true, g0, g1, g2, g6, g7, g24, g25, g26, f0]
    refine hQ _ ?_ ?_ ?_ ?_
    · simp only [wM]; exact k2_1
    · intro id h1 h2; simp only [wM]; exact k2_2 id h1 h2
    · intro t h1; simp only [wL]; rw [if_neg (by omega)]; exact k2_3 t h1
    · simp only [wN]; omega
end Go.Proofs


set_option maxHeartbeats 4000000
namespace Go.Proofs
open Go.E

def mixN (S : Nat → Nat) (T : Tbl) (i j q : Nat) : Tbl := fun k a b => if k < q ∧ a = i ∧ b = j then S k else T k a b
def chg (S : Nat → Nat) (T : Tbl) (i j q : Nat) : Bool := (List.range q).any fun k => S k != T k i j
theorem chg_suc (S : Nat → Nat) (T : Tbl) (i j q : Nat) : chg S T i j (q + 1) = (chg S T i j q || S q != T q i j) := by unfold chg; rw [List.range_succ, List.any_append]; simp
theorem chg_f {S : Nat → Nat} {T : Tbl} {i j n : Nat} (h : chg S T i j n = false) : ∀ k, k < n → S k = T k i j := by
  intro k hk
  unfold chg at h
  have := List.any_eq_false.1 h k (List.mem_range.2 hk)
  simpa using this
theorem chg_t {S : Nat → Nat} {T : Tbl} {i j n : Nat} (h : chg S T i j n = true) : ∃ k, k < n ∧ S k ≠ T k i j := by
  unfold chg at h
  obtain ⟨k, hk, h2⟩ := List.any_eq_true.1 h
  exact ⟨k, List.mem_range.1 hk, by simpa using h2⟩
theorem mix_0 (S : Nat → Nat) (T : Tbl) (i j : Nat) : mixN S T i j 0 = T := by funext k a b; unfold mixN; rw [if_neg (by omega)]
theorem mix_suc (S : Nat → Nat) (T : Tbl) (i j q : Nat) : updT (mixN S T i j q) q i j (S q) = mixN S T i j (q + 1) := by
  funext k a b
  unfold updT mixN
  by_cases h1 : k = q ∧ a = i ∧ b = j
  · rw [if_pos h1, if_pos (by omega), h1.1]
  · rw [if_neg h1]
    by_cases h2 : k < q ∧ a = i ∧ b = j
    · rw [if_pos h2, if_pos (by omega)]
    · rw [if_neg h2, if_neg (by omega)]
theorem mix_at (S : Nat → Nat) (T : Tbl) (i j q : Nat) : mixN S T i j q q i j = T q i j := by unfold mixN; rw [if_neg (by omega)]
theorem ldMo {K : V → Prop} {nn k a b o : Nat} {T : Tbl} {ro : Bool} (h : k < nn) (ha : a < 25) (hb : b < 25) (ho : o = a * 25 + b) (hk : K (vi (T k a b))) : onS (ldQ (some (.own 625 (tabV nn T) ro)) false 1 k o) K := by subst ho; exact ldM h ha hb hk
theorem stMo {K : St → Prop} {s : St} {nn k a b x id o : Nat} {T : Tbl} (h : k < nn) (ha : a < 25) (hb : b < 25) (ho : o = a * 25 + b) (hk : K (s.setO id (some (.own 625 (tabV nn (updT T k a b x)) false)))) : onS (stQ s (some (.own 625 (tabV nn T) false)) 1 id k o (vi x)) K := by subst ho; exact stM h ha hb hk

theorem span2 {s0 : St} {g : Grammar} {w : List Int} {nn i j m ni is : Nat} {T : Tbl} {S : Nat → Nat} {Q : Exit → St → Prop} (hnb : nn ≤ 1000000) (f0 : s0.f 0 = .ptr m 0 0) (f1 : s0.f 1 = vi i) (f2 : s0.f 2 = vi j) (f6 : s0.f 6 = .bool false) (f7 : s0.f 7 = .msl is 1 0 nn)
    (hm : s0.H m = some (.own 7 [cntC g w ni nn] false)) (hn : s0.H ni = some (.own 625 (tabV nn T) false)) (hs : s0.H is = some (.own 1 (sumC nn S) false)) (lm : m < s0.next) (ln : ni < s0.next) (ls : is < s0.next) (e1 : is ≠ m) (e2 : is ≠ ni) (e3 : m ≠ ni)
    (hi : i < 25) (hj : j < 25)
    (hQ : ∀ s', s'.H ni = some (.own 625 (tabV nn (mixN S T i j nn)) false) → (∀ id, id < s0.next → id ≠ ni → s'.H id = s0.H id) → (∀ t, t < 6 → s'.f t = s0.f t) → s'.f 6 = .bool (chg S T i j nn) → s0.next ≤ s'.next → Q .normal s') : ewp Try.prog e29n38 Q s0 := by
  repeat' with_reducible first
    | refine ewp_reg_seq ?_ | refine ewp_block ?_
    | simp -implicitDefEqProofs only [wA, Nat.reduceEqDiff, ↓reduceIte, reduceCtorEq, Nat.reduceAdd, Int.cast_ofNat_Int, Int.reduceLT, Int.reduceLE, Int.reduceEq, Int.reduceToNat, decide_true, decide_false, Bool.false_eq_true, f0, f1, f2, f7, hm]
  refine ewp_loopN ?nx3 (fun (q : Nat) s => s.f 0 = ?v3_0 ∧ s.f 1 = ?v3_1 ∧ s.f 2 = ?v3_2 ∧ s.f 54 = ?v3_54 ∧ s.f 55 = ?v3_55 ∧ s.f 56 = vi q ∧ (q ≤ nn) ∧ ((s.H ni = some (MObj.own 625 (tabV nn (mixN S T i j q)) false))) ∧ ((∀ id, id < s0.next → id ≠ ni → s.H id = s0.H id)) ∧ ((∀ t, t < 6 → s.f t = s0.f t)) ∧ (s.f 6 = V.bool (chg S T i j q) )) (fun q => nn - q) (0) (by simp -implicitDefEqProofs only [wN, Nat.reduceAdd, Nat.zero_add]; exact Nat.le_refl _) (by refine ⟨?_, ?_, ?_, ?_, ?_, ?_, (by first | omega | (simp; done) | assumption), (by simp only [wM]; rw [mix_0]; exact hn), (by intro id h1 h2; simp only [wM]), (by intro t h1; simp only [wL]; repeat (first | rw [if_pos trivial] | rw [if_pos rfl] | rw [if_neg (by omega)])), (by (try simp -implicitDefEqProofs only [wL, wM, wN, Nat.reduceEqDiff, ↓reduceIte, reduceCtorEq]); exact f6)⟩ <;> first | (simp -implicitDefEqProofs only [wL, wM, wN, wX, Nat.reduceEqDiff, ↓reduceIte, reduceCtorEq, Nat.reduceAdd, Option.some.injEq] <;> first | rfl | exact ⟨_, rfl⟩ | exact ⟨_, rfl, by first | assumption | exact Gr.nil | exact Gr.tok rfl (by omega) | exact Gr.tok (by simp -implicitDefEqProofs only [wM, Nat.reduceEqDiff, ↓reduceIte, reduceCtorEq] <;> rfl) (by omega) | exact Gr.clip⟩) | rfl | exact ⟨_, rfl⟩) ?_
  intro q s hnx ⟨g0, g1, g2, g54, g55, g56, k3_0, k3_1, k3_2, k3_3, g6⟩
  have on := k3_1
  have om : s.H m = some (.own 7 [cntC g w ni nn] false) := by rw [k3_2 m lm e3]; exact hm
  have os : s.H is = some (.own 1 (sumC nn S) false) := by rw [k3_2 is ls e2]; exact hs
  by_cases hq : q < nn
  · have hzq : IntKind.i64.wrap ((q + 1 : Nat) : Int) = ((q + 1 : Nat) : Int) := wrap64 (by omega) (by omega)
    have hat := mix_at S T i j q
    have hsu := mix_suc S T i j q
    have hcs := chg_suc S T i j q
    cases hc : chg S T i j q with
    | true =>
      rw [hc] at g6 hcs
      repeat' with_reducible first
        | refine ewp_reg_seq ?_ | refine ewp_seq ?_ | refine ewp_reg ?_ | refine ewp_skip ?_ | refine ewp_block ?_ | refine xt_n ?_ | refine xb_n ?_ | refine ewp_condQ ?_ | refine L_gdQ ?_ | refine gdQ_TF ?_
        | simp -implicitDefEqProofs only [wA, Nat.reduceEqDiff, ↓reduceIte, reduceCtorEq, Nat.reduceAdd, Int.cast_ofNat_Int, Int.reduceLT, Int.reduceLE, Int.reduceEq, Int.reduceToNat, decide_true, decide_false, Bool.false_eq_true, g0, g1, g2, g54, g55, g56, g6, f0, f1, f2, f7, om, os, on, hzq, hat, hsu]
        | (refine condQ_i (fun h => ?_) (fun h => ?_) <;> have h_ := h <;> (try simp only [wD, reduceCtorEq] at h_) <;> (try (exfalso; first | omega | exact bf h_ (by assumption) | exact bt h_ (by assumption) | (refine absurd ?_ h_; focus assumption) | (refine absurd h_ ?_; focus assumption))) <;> (try simp only [h]))
        | (refine ld1 hq ?_)
        | (refine stMo (a := i) (b := j) hq hi hj (by omega) ?_)
        | (refine onS_i (iaA_ptr (by omega)) ?_)
        | (apply ia_mslQ; (focus omega); (focus (first | assumption | omega | (simp only [wZ]; omega) | trivial)))
        | (apply ldQ_cell; (focus with_unfolding_all rfl))
      refine ⟨(by first | assumption | omega | (simp -implicitDefEqProofs only [wN]; omega)), q + 1, (by omega), ?_⟩
      refine ⟨?_, ?_, ?_, ?_, ?_, ?_, ?_, ?_, ?_, ?_, ?_⟩
      iterate 6 (focus (first | (simp -implicitDefEqProofs only [wL, wM, wN, wX, Nat.reduceEqDiff, ↓reduceIte, reduceCtorEq, Nat.reduceAdd, Option.some.injEq, g0, g1, g2, g54, g55, g56, g6] <;> first | rfl | exact ⟨_, rfl⟩ | exact ⟨_, rfl, by first | assumption | exact Gr.nil | exact Gr.tok rfl (by omega) | exact Gr.tok (by simp -implicitDefEqProofs only [wM, Nat.reduceEqDiff, ↓reduceIte, reduceCtorEq] <;> rfl) (by omega) | exact Gr.clip⟩) | rfl | exact ⟨_, rfl⟩))
      all_goals try omega
      all_goals try simp -implicitDefEqProofs only [wL, wM, wN, wX, Nat.reduceEqDiff, ↓reduceIte, reduceCtorEq, g0, g1, g2, g54, g55, g56, g6]
      · intro id h1 h2
        repeat rw [if_neg (by omega)]
        exact k3_2 id h1 h2
      · intro t h1
        repeat rw [if_neg (by omega)]
        exact k3_3 t h1
      · rw [hcs]; rfl
    | false =>
      rw [hc] at g6 hcs
      repeat' with_reducible first
        | refine ewp_reg_seq ?_ | refine ewp_seq ?_ | refine ewp_reg ?_ | refine ewp_skip ?_ | refine ewp_block ?_ | refine xt_n ?_ | refine xb_n ?_ | refine ewp_condQ ?_ | refine L_gdQ ?_ | refine gdQ_FF ?_
        | simp -implicitDefEqProofs only [wA, Nat.reduceEqDiff, ↓reduceIte, reduceCtorEq, Nat.reduceAdd, Int.cast_ofNat_Int, Int.reduceLT, Int.reduceLE, Int.reduceEq, Int.reduceToNat, decide_true, decide_false, Bool.false_eq_true, g0, g1, g2, g54, g55, g56, g6, f0, f1, f2, f7, om, os, on, hzq, hat, hsu]
        | (refine condQ_i (fun h => ?_) (fun h => ?_) <;> have h_ := h <;> (try simp only [wD, reduceCtorEq] at h_) <;> (try (exfalso; first | omega | exact bf h_ (by assumption) | exact bt h_ (by assumption) | (refine absurd ?_ h_; focus assumption) | (refine absurd h_ ?_; focus assumption))) <;> (try simp only [h]))
        | (refine ld1 hq ?_)
        | (refine ldMo (a := i) (b := j) hq hi hj (by omega) ?_)
        | (refine stMo (a := i) (b := j) hq hi hj (by omega) ?_)
        | (refine onS_i (iaA_ptr (by omega)) ?_)
        | (apply ia_mslQ; (focus omega); (focus (first | assumption | omega | (simp only [wZ]; omega) | trivial)))
        | (apply ldQ_cell; (focus with_unfolding_all rfl))
      refine ⟨(by first | assumption | omega | (simp -implicitDefEqProofs only [wN]; omega)), q + 1, (by omega), ?_⟩
      refine ⟨?_, ?_, ?_, ?_, ?_, ?_, ?_, ?_, ?_, ?_, ?_⟩
      iterate 6 (focus (first | (simp -implicitDefEqProofs only [wL, wM, wN, wX, Nat.reduceEqDiff, ↓reduceIte, reduceCtorEq, Nat.reduceAdd, Option.some.injEq, g0, g1, g2, g54, g55, g56, g6] <;> first | rfl | exact ⟨_, rfl⟩ | exact ⟨_, rfl, by first | assumption | exact Gr.nil | exact Gr.tok rfl (by omega) | exact Gr.tok (by simp -implicitDefEqProofs only [wM, Nat.reduceEqDiff, ↓reduceIte, reduceCtorEq] <;> rfl) (by omega) | exact Gr.clip⟩) | rfl | exact ⟨_, rfl⟩))
      all_goals try omega
      all_goals try simp -implicitDefEqProofs only [wL, wM, wN, wX, Nat.reduceEqDiff, ↓reduceIte, reduceCtorEq, g0, g1, g2, g54, g55, g56, g6]
      · intro id h1 h2
        repeat rw [if_neg (by omega)]
        exact k3_2 id h1 h2
      · intro t h1
        repeat rw [if_neg (by omega)]
        exact k3_3 t h1
      · rw [hcs]; refine congrArg V.bool ?_
        by_cases e : S q = T q i j
        · simp [e]
        · have e2 : ¬ ((S q : Int) = (T q i j : Int)) := by omega
          rw [bne_iff_ne.2 e]; simp [e2]
  · repeat' with_reducible first
      | refine ewp_reg_seq ?_ | refine ewp_seq ?_ | refine ewp_exit ?_ | refine xt_e ?_ | refine xb_e ?_ | refine ewp_condQ ?_
      | simp -implicitDefEqProofs only [wA, Nat.reduceEqDiff, ↓reduceIte, reduceCtorEq, Nat.reduceAdd, Int.cast_ofNat_Int, Int.reduceLT, Int.reduceLE, Int.reduceEq, Int.reduceToNat, decide_true, decide_false, Bool.false_eq_true, g0, g1, g2, g54, g55, g56, g6, f0]
      | (refine condQ_i (fun h => ?_) (fun h => ?_) <;> have h_ := h <;> (try simp only [wD, reduceCtorEq] at h_) <;> (try (exfalso; first | omega | exact bf h_ (by assumption) | exact bt h_ (by assumption) | (refine absurd ?_ h_; focus assumption) | (refine absurd h_ ?_; focus assumption))) <;> (try simp only [h]))
    have eq : q = nn := by omega
    subst eq
    refine hQ _ ?_ ?_ ?_ ?_ ?_
    · simp only [wM]; exact k3_1
    · intro id h1 h2; simp only [wM]; exact k3_2 id h1 h2
    · intro t h1; simp only [wL]; rw [if_neg (by omega)]; exact k3_3 t h1
    · simp only [wL]; rw [if_neg (by omega)]; exact g6
    · simp only [wN]; omega
end Go.Proofs


set_option maxHeartbeats 4000000
namespace Go.Proofs
open Go.E

theorem spanR {s0 : St} {g : Grammar} {w : List Int} {nn i j m ni is : Nat} {T : Tbl} {Q : Exit → St → Prop} (hg : Cnt g nn) (f0 : s0.f 0 = .ptr m 0 0) (f1 : s0.f 1 = vi i) (f2 : s0.f 2 = vi j) (f6 : s0.f 6 = .bool false) (f7 : s0.f 7 = .msl is 1 0 nn)
    (hm : s0.H m = some (.own 7 [cntC g w ni nn] false)) (hn : s0.H ni = some (.own 625 (tabV nn T) false)) (hs : s0.H is = some (.own 1 (sumC nn (fun _ => 0)) false)) (lm : m < s0.next) (ln : ni < s0.next) (ls : is < s0.next) (e1 : is ≠ m) (e2 : is ≠ ni) (e3 : m ≠ ni)
    (hij : i ≤ j) (hj : j ≤ 24) (hjw : j ≤ w.length) (hw : w.length ≤ 24) (hT : ∀ k a b, T k a b ≤ 2)
    (hQ : ∀ s', s'.H ni = some (.own 625 (tabV nn (roundN T nn g.prods w i j)) false) → (∀ id, id < s0.next → id ≠ is → id ≠ ni → s'.H id = s0.H id) → (∀ t, t < 6 → s'.f t = s0.f t) → s'.f 6 = .bool (chg (sumP T g.prods w i j) T i j nn) → s0.next ≤ s'.next → Q .normal s') : ewp Try.prog e29n39 Q s0 := by
  refine ewp_seq (span1 hg f0 f1 f2 f7 hm hn hs lm ln ls e1 e2 hij hj hjw hw hT fun s1 h1 h2 h3 h4 => ?_)
  refine xt_n ?_
  refine span2 (m := m) (g := g) (w := w) (T := T) hg.nb (by rw [h3 0 (by omega)]; exact f0) (by rw [h3 1 (by omega)]; exact f1) (by rw [h3 2 (by omega)]; exact f2) (by rw [h3 6 (by omega)]; exact f6) (by rw [h3 7 (by omega)]; exact f7) (by rw [h2 m lm e1.symm]; exact hm) (by rw [h2 ni ln e2.symm]; exact hn) h1 (by omega) (by omega) (by omega) e1 e2 e3 (by omega) (by omega) fun s2 k1 k2 k3 k4 k5 => ?_
  exact hQ s2 k1 (fun id a b c => by rw [k2 id (by omega) c, h2 id a b]) (fun t ht => by rw [k3 t ht, h3 t (by omega)]) k4 (by omega)

theorem spanE {H : Nat → Option MObj} {next m ni nn i j : Nat} {g : Grammar} {w : List Int} {T : Tbl} (hg : Cnt g nn) (hm : H m = some (.own 7 [cntC g w ni nn] false)) (hn : H ni = some (.own 625 (tabV nn T) false)) (lm : m < next) (ln : ni < next) (e3 : m ≠ ni) (hij : i ≤ j) (hj : j ≤ 24) (hjw : j ≤ w.length) (hw : w.length ≤ 24) (hT : ∀ k a b, T k a b ≤ 2) (hpre : ∀ k, k < nn → T k i j ≤ sumP T g.prods w i j k) : ECalls Try.prog 29 [.ptr m 0 0, vi i, vi j] H next (fun _ H' next' => next ≤ next' ∧ (∃ n, H' ni = some (.own 625 (tabV nn (rnds nn g.prods w i j T n)) false) ∧ ∀ k, k < nn → sumP (rnds nn g.prods w i j T n) g.prods w i j k = rnds nn g.prods w i j T n k i j) ∧ ∀ id, id < next → id ≠ ni → H' id = H id) := by
  refine ecalls_intro Try.func29 e29_nm e29_ok (by show 3 ≤ 89; decide) ?_
  show ewp _ e29n46 _ _
  repeat' with_reducible first
    | refine ewp_reg_seq ?_ | refine ewp_block ?_
    | simp -implicitDefEqProofs only [wA, Nat.reduceEqDiff, ↓reduceIte, reduceCtorEq, Nat.reduceAdd, Int.cast_ofNat_Int, Int.reduceLT, Int.reduceLE, Int.reduceEq, Int.reduceToNat, decide_true, decide_false, Bool.false_eq_true]
  refine ewp_loopN ?nx1 (fun (p : Nat × Bool) s => s.f 0 = ?v1_0 ∧ s.f 1 = ?v1_1 ∧ s.f 2 = ?v1_2 ∧ s.f 6 = V.bool p.2 ∧ ((s.H ni = some (MObj.own 625 (tabV nn (rnds nn g.prods w i j T p.1)) false))) ∧ ((∀ id, id < next → id ≠ ni → s.H id = H id)) ∧ ((p.2 = false → ∀ k, k < nn → sumP (rnds nn g.prods w i j T p.1) g.prods w i j k = rnds nn g.prods w i j T p.1 k i j))) (fun p => 2 * room nn i j (rnds nn g.prods w i j T p.1) + (if p.2 then 1 else 0)) ((0, true)) (by simp -implicitDefEqProofs only [wN, Nat.reduceAdd, Nat.zero_add]; exact Nat.le_refl _) (by refine ⟨?_, ?_, ?_, ?_, (by simp only [wM]; exact hn), (by intro id h1 h2; simp only [wM]), (by intro h; cases h)⟩ <;> first | (simp -implicitDefEqProofs only [wL, wM, wN, wX, Nat.reduceEqDiff, ↓reduceIte, reduceCtorEq, Nat.reduceAdd, Option.some.injEq] <;> first | rfl | exact ⟨_, rfl⟩ | exact ⟨_, rfl, by first | assumption | exact Gr.nil | exact Gr.tok rfl (by omega) | exact Gr.tok (by simp -implicitDefEqProofs only [wM, Nat.reduceEqDiff, ↓reduceIte, reduceCtorEq] <;> rfl) (by omega) | exact Gr.clip⟩) | rfl | exact ⟨_, rfl⟩) ?_
  intro p s hnx ⟨g0, g1, g2, g6, k1_0, k1_1, k1_2⟩
  obtain ⟨n, b⟩ := p
  dsimp only at *
  have om : s.H m = some (.own 7 [cntC g w ni nn] false) := by rw [k1_1 m lm e3]; exact hm
  have hle := rnds_le (nn := nn) (l := g.prods) (w := w) (i := i) (j := j) hT n
  have hpr := rnds_pre (nn := nn) (l := g.prods) (w := w) (i := i) (j := j) hpre n
  have hrn : rnds nn g.prods w i j T (n + 1) = roundN (rnds nn g.prods w i j T n) nn g.prods w i j := rfl
  generalize hTn : rnds nn g.prods w i j T n = Tn at *
  cases b with
  | false =>
    have hk := k1_2 rfl
    repeat' with_reducible first
      | refine ewp_reg_seq ?_ | refine ewp_seq ?_ | refine ewp_exit ?_ | refine xt_e ?_ | refine xb_e ?_ | refine ewp_condQ ?_ | refine condQ_F ?_
      | simp -implicitDefEqProofs only [wA, Nat.reduceEqDiff, ↓reduceIte, reduceCtorEq, Nat.reduceAdd, Int.cast_ofNat_Int, Int.reduceLT, Int.reduceLE, Int.reduceEq, Int.reduceToNat, decide_true, decide_false, Bool.false_eq_true, g0, g1, g2, g6]
    refine heap0 rfl (Or.inl rfl) ?_
    exact ⟨by simp only [wN]; omega, ⟨n, by simp only [wM]; rw [hTn]; exact k1_0, by rw [hTn]; exact hk⟩, fun id h1 h2 => by simp only [wM]; exact k1_1 id h1 h2⟩
  | true =>
    show ewp _ (.seq e29n3 (.block 1 (.seq (.reg e29r4) (.seq (.reg e29r5) e29n39)))) _ _
    have tail := @spanR
    generalize e29n39 = F at tail
    have hz0 := sumC_0 nn
    have hnl := hg.nl
    have hnb := hg.nb
    repeat' with_reducible first
      | refine ewp_reg_seq ?_ | refine ewp_seq ?_ | refine ewp_skip ?_ | refine ewp_block ?_ | refine xt_n ?_ | refine ewp_condQ ?_ | refine condQ_T ?_
      | simp -implicitDefEqProofs only [wA, Nat.reduceEqDiff, ↓reduceIte, reduceCtorEq, Nat.reduceAdd, Int.cast_ofNat_Int, Int.reduceLT, Int.reduceLE, Int.reduceEq, Int.reduceToNat, decide_true, decide_false, Bool.false_eq_true, g0, g1, g2, g6, om, hnl, hz0]
      | (apply ldQ_cell; (focus with_unfolding_all rfl))
      | (apply mkQ_T; (focus (first | assumption | omega | (simp only [wZ]; omega) | trivial)); (focus (first | assumption | omega | (simp only [wZ]; omega) | trivial)); (focus (unfold maxLen; first | omega | (simp only [wZ]; omega))))
    refine tail (g := g) (w := w) (nn := nn) (i := i) (j := j) (m := m) (ni := ni) (is := s.next + 1 + 1 + 6) (T := Tn) hg (by simp -implicitDefEqProofs only [wL, Nat.reduceEqDiff, ↓reduceIte, reduceCtorEq, g0, g1, g2]) (by simp -implicitDefEqProofs only [wL, Nat.reduceEqDiff, ↓reduceIte, reduceCtorEq, g0, g1, g2]) (by simp -implicitDefEqProofs only [wL, Nat.reduceEqDiff, ↓reduceIte, reduceCtorEq, g0, g1, g2]) (by simp -implicitDefEqProofs only [wL, Nat.reduceEqDiff, ↓reduceIte, reduceCtorEq, g0, g1, g2]) (by simp -implicitDefEqProofs only [wL, Nat.reduceEqDiff, ↓reduceIte, reduceCtorEq, g0, g1, g2]) (by (simp only [wM]; (repeat first | rw [if_pos trivial] | rw [if_pos rfl] | rw [if_neg (by omega)])); exact om) (by (simp only [wM]; (repeat first | rw [if_pos trivial] | rw [if_pos rfl] | rw [if_neg (by omega)])); exact k1_0) (by (simp only [wM]; (repeat first | rw [if_pos trivial] | rw [if_pos rfl] | rw [if_neg (by omega)]))) (by simp only [wN]; omega) (by simp only [wN]; omega) (by simp only [wN]; omega) (by omega) (by omega) e3 hij hj hjw hw hle fun s2 k1 k2 k3 k4 k5 => ?_
    simp only [wM, wN] at k2 k5
    refine xb_n (xt_n ⟨by omega, (n + 1, chg (sumP Tn g.prods w i j) Tn i j nn), ?_, ?_, ?_, ?_, k4, ?_, ?_, ?_⟩)
    · dsimp only
      rw [hrn]
      cases hc : chg (sumP Tn g.prods w i j) Tn i j nn with
      | true => have := room_lt hle hpr (chg_t hc); simp only [if_true]; omega
      | false => rw [round_still (chg_f hc)]; simp
    · rw [k3 0 (by omega)]; simp -implicitDefEqProofs only [wL, Nat.reduceEqDiff, ↓reduceIte, reduceCtorEq, g0, g1, g2]
    · rw [k3 1 (by omega)]; simp -implicitDefEqProofs only [wL, Nat.reduceEqDiff, ↓reduceIte, reduceCtorEq, g0, g1, g2]
    · rw [k3 2 (by omega)]; simp -implicitDefEqProofs only [wL, Nat.reduceEqDiff, ↓reduceIte, reduceCtorEq, g0, g1, g2]
    · rw [hrn]; exact k1
    · intro id h1 h2
      rw [k2 id (by omega) (by omega) h2, if_neg (by omega)]
      exact k1_1 id h1 h2
    · intro hc
      rw [hrn, round_still (chg_f hc)]
      exact chg_f hc
end Go.Proofs
