/- Part of a proof that a law of the given program answers true. -/
import Derived.Test.YtpnfbnlhjdnnpaaWHD
set_option linter.unusedSimpArgs false
set_option linter.unusedVariables false
set_option maxHeartbeats 4000000
namespace Go.Proofs
open Go.E
theorem sumN_le {f g : Nat → Nat} {n : Nat} (h : ∀ a, a < n → f a ≤ g a) : sumN f n ≤ sumN g n := by
 induction n with
 | zero => exact Nat.le_refl _
 | succ n ih => have := h n (by omega); have := ih fun a ha => h a (by omega); unfold sumN; omega
def LeIn (nn i j : Nat) (T U : Tbl) : Prop := ∀ k a b, k < nn → i ≤ a → a ≤ b → b ≤ j → T k a b ≤ U k a b
theorem waysN_loc {T U : Tbl} {w : List Int} {nn i j : Nat} (hT : LeIn nn i j T U) (l : List Int) (hl : ∀ s ∈ l, s < 1000 ∨ ∃ k : Nat, s = 1000 + (k : Int) ∧ k < nn) : waysN T w l i j ≤ waysN U w l i j := by
 have h : ∀ (l : List Int) (v v' : Nat → Nat), (∀ s ∈ l, s < 1000 ∨ ∃ k : Nat, s = 1000 + (k : Int) ∧ k < nn) → (∀ b, b ≤ j → v b ≤ v' b) → (∀ b, b < i → v b = 0) → ∀ b, b ≤ j → l.foldl (fun v s => stepN T w s v) v b ≤ l.foldl (fun v s => stepN U w s v) v' b := by
  intro l
  induction l with
  | nil => intro v v' _ h _; exact h
  | cons s r ih =>
    intro v v' hs h h0
    refine ih _ _ (fun x hx => hs x (List.mem_cons_of_mem _ hx)) (fun b hb => ?_) (stepN_low h0)
    show stepN T w s v b ≤ stepN U w s v' b
    unfold stepN
    split
    · split
      · exact h _ (by omega)
      · omega
    · rename_i h1000
      rcases hs s (by simp) with e | ⟨k, e, hk⟩
      · exact absurd e h1000
      · have ek : (s - 1000).toNat = k := by omega
        have := sumN_le (n := b + 1) (f := fun a => v a * T (s - 1000).toNat a b) (g := fun a => v' a * U (s - 1000).toNat a b) fun a ha => by
         rw [ek]
         by_cases hia : i ≤ a
         · exact Nat.mul_le_mul (h a (by omega)) (hT k a b hk hia (by omega) hb)
         · rw [h0 a (by omega), Nat.zero_mul]; exact Nat.zero_le _
        omega
 exact h l _ _ hl (fun b _ => Nat.le_refl _) (fun b hb => by rw [if_neg (by omega)]) j (Nat.le_refl _)
def SymOk (nn : Nat) (l : List GPr) : Prop := ∀ p ∈ l, ∀ s ∈ p.right, s < 1000 ∨ ∃ k : Nat, s = 1000 + (k : Int) ∧ k < nn
theorem sumP_loc {T U : Tbl} {w : List Int} {nn i j : Nat} (hT : LeIn nn i j T U) (l : List GPr) (hl : SymOk nn l) (k : Nat) : sumP T l w i j k ≤ sumP U l w i j k := by
 have h : ∀ (l : List GPr) (S S' : Nat → Nat), SymOk nn l → (∀ k, S k ≤ S' k) → ∀ k, l.foldl (sumS T w i j) S k ≤ l.foldl (sumS U w i j) S' k := by
  intro l
  induction l with
  | nil => intro S S' _ h; exact h
  | cons p r ih =>
    refine fun S S' hs h => ih _ _ (fun q hq => hs q (List.mem_cons_of_mem _ hq)) fun k => ?_
    unfold sumS upd
    have := waysN_loc (w := w) hT p.right (hs p (by simp))
    have := h p.left.toNat
    split
    · omega
    · exact h k
 exact h l _ _ hl (fun _ => Nat.le_refl _) k
theorem sumP_eq {T U : Tbl} {w : List Int} {nn i j : Nat} (hT : ∀ k a b, i ≤ a → a ≤ b → b ≤ j → T k a b = U k a b) {l : List GPr} (hl : SymOk nn l) (k : Nat) : sumP T l w i j k = sumP U l w i j k :=
 Nat.le_antisymm (sumP_loc (fun k a b _ h1 h2 h3 => Nat.le_of_eq (hT k a b h1 h2 h3)) l hl k) (sumP_loc (fun k a b _ h1 h2 h3 => Nat.le_of_eq (hT k a b h1 h2 h3).symm) l hl k)
def PreT (g : Grammar) (nn : Nat) (w : List Int) (U : Tbl) : Prop := ∀ k i j, k < nn → i ≤ j → j ≤ w.length → sumP U g.prods w i j k ≤ U k i j
structure IsCount (g : Grammar) (nn : Nat) (w : List Int) (T : Tbl) : Prop where
 le2 : ∀ k a b, T k a b ≤ 2
 fix : ∀ k i j, k < nn → i ≤ j → j ≤ w.length → sumP T g.prods w i j k = T k i j
 min : ∀ U, PreT g nn w U → ∀ k i j, k < nn → i ≤ j → j ≤ w.length → T k i j ≤ U k i j
theorem IsCount.uniq {g : Grammar} {nn : Nat} {w : List Int} {T U : Tbl} (h : IsCount g nn w T) (h' : IsCount g nn w U) (k i j : Nat) (hk : k < nn) (hi : i ≤ j) (hj : j ≤ w.length) : T k i j = U k i j :=
 Nat.le_antisymm (h.min U (fun k i j a b c => Nat.le_of_eq (h'.fix k i j a b c)) k i j hk hi hj) (h'.min T (fun k i j a b c => Nat.le_of_eq (h.fix k i j a b c)) k i j hk hi hj)
structure CInv (g : Grammar) (nn : Nat) (w : List Int) (n st : Nat) (T : Tbl) : Prop where
 le2 : ∀ k a b, T k a b ≤ 2
 fix : ∀ k i j, k < nn → i ≤ j → j ≤ w.length → (j < i + n ∨ j = i + n ∧ i < st) → sumP T g.prods w i j k = T k i j
 zero : ∀ k i j, ¬ (i ≤ j ∧ (j < i + n ∨ j = i + n ∧ i < st)) → T k i j = 0
 min : ∀ U, PreT g nn w U → LeIn nn 0 w.length T U
theorem rnds_out {nn : Nat} {l : List GPr} {w : List Int} {i j : Nat} {T : Tbl} (n : Nat) (k a b : Nat) (h : ¬ (a = i ∧ b = j)) : rnds nn l w i j T n k a b = T k a b := by
 induction n with
 | zero => rfl
 | succ n ih => unfold rnds roundN; rw [if_neg (fun e => h e.2)]; exact ih
theorem rnds_out2 {nn : Nat} {l : List GPr} {w : List Int} {i j : Nat} {T : Tbl} (n : Nat) (k a b : Nat) (h : ¬ k < nn) : rnds nn l w i j T n k a b = T k a b := by
 induction n with
 | zero => rfl
 | succ n ih => unfold rnds roundN; rw [if_neg (fun e => h e.1)]; exact ih
theorem rnds_min {g : Grammar} {nn : Nat} {w : List Int} {i j : Nat} {T U : Tbl} (hs : SymOk nn g.prods) (hU : PreT g nn w U) (hij : i ≤ j) (hj : j ≤ w.length) (h : LeIn nn 0 w.length T U) (n : Nat) : LeIn nn 0 w.length (rnds nn g.prods w i j T n) U := by
 induction n with
 | zero => exact h
 | succ n ih =>
   intro k a b hk h1 h2 h3
   unfold rnds roundN
   split
   · rename_i hc
     obtain ⟨_, rfl, rfl⟩ := hc
     refine Nat.le_trans (sumP_loc (fun k a' b' q1 q2 q3 q4 => ih k a' b' q1 (by omega) q3 (by omega)) _ hs k) (hU k a b hk hij hj)
   · exact ih k a b hk h1 h2 h3
theorem CInv.pre {g : Grammar} {nn : Nat} {w : List Int} {n st : Nat} {T : Tbl} (h : CInv g nn w n st T) (k : Nat) : T k st (st + n) ≤ sumP T g.prods w st (st + n) k := by
 rw [h.zero k st (st + n) (by omega)]; exact Nat.zero_le _
theorem CInv.step {g : Grammar} {nn : Nat} {w : List Int} {n st N : Nat} {T : Tbl} (hs : SymOk nn g.prods) (h : CInv g nn w n st T) (hw : st + n ≤ w.length) (hst : ∀ k, k < nn → sumP (rnds nn g.prods w st (st + n) T N) g.prods w st (st + n) k = rnds nn g.prods w st (st + n) T N k st (st + n)) : CInv g nn w n (st + 1) (rnds nn g.prods w st (st + n) T N) := by
 refine ⟨rnds_le h.le2 N, fun k i j hk h1 h2 h3 => ?_, fun k i j h1 => ?_, fun U hU => rnds_min hs hU (by omega) hw (h.min U hU) N⟩
 · by_cases e : i = st ∧ j = st + n
   · obtain ⟨rfl, rfl⟩ := e; exact hst k hk
   · rw [rnds_out N k i j (by omega), ← h.fix k i j hk h1 h2 (by omega)]
     exact sumP_eq (fun k a b q1 q2 q3 => rnds_out N k a b (by omega)) hs k
 · by_cases hk : k < nn
   · rw [rnds_out N k i j (by omega)]; exact h.zero k i j (by omega)
   · rw [rnds_out2 N k i j hk]; exact h.zero k i j (by omega)
theorem CInv.next {g : Grammar} {nn : Nat} {w : List Int} {n st : Nat} {T : Tbl} (h : CInv g nn w n st T) (hw : ¬ st + n ≤ w.length) (hz : n ≤ w.length) : CInv g nn w (n + 1) 0 T := by
 refine ⟨h.le2, fun k i j hk h1 h2 h3 => h.fix k i j hk h1 h2 (by omega), fun k i j h1 => ?_, h.min⟩
 exact h.zero k i j (by omega)
theorem CInv.init (g : Grammar) (nn : Nat) (w : List Int) : CInv g nn w 0 0 (fun _ _ _ => 0) :=
 ⟨fun _ _ _ => Nat.zero_le _, fun k i j _ h1 _ h3 => by omega, fun _ _ _ _ => rfl, fun U _ k a b _ _ _ _ => Nat.zero_le _⟩
theorem CInv.done {g : Grammar} {nn : Nat} {w : List Int} {n : Nat} {T : Tbl} (h : CInv g nn w n 0 T) (hn : w.length < n) : IsCount g nn w T :=
 ⟨h.le2, fun k i j hk h1 h2 => h.fix k i j hk h1 h2 (by omega), fun U hU k i j hk h1 h2 => h.min U hU k i j hk (by omega) h1 h2⟩
theorem tabV_0 (nn : Nat) : List.replicate nn (V.agg (List.replicate 625 (V.int .i64 0))) = tabV nn (fun _ _ _ => 0) := by
 refine List.ext_getElem? fun i => ?_
 have e : V.agg (List.replicate 625 (V.int .i64 0)) = V.agg (matC (fun _ _ => 0)) := by
  refine congrArg V.agg (List.ext_getElem? fun q => ?_)
  by_cases h : q < 625
  · rw [List.getElem?_replicate, if_pos h]; unfold matC; rw [List.getElem?_map, List.getElem?_range h]; rfl
  · rw [List.getElem?_eq_none (by rw [List.length_replicate]; omega), List.getElem?_eq_none (by rw [matC_len]; omega)]
 by_cases h : i < nn
 · rw [tabV_get h, List.getElem?_replicate, if_pos h, e]
 · rw [List.getElem?_eq_none (by rw [List.length_replicate]; omega), List.getElem?_eq_none (by rw [tabV_len]; omega)]

set_option maxRecDepth 20000
theorem mkTab {cls : Cls} {id : Nat} {s : St} {K : V → St → Prop} {zero : V} {k k' : IntKind} {m : Int} {nn : Nat} (hz : zero = V.agg (List.replicate 625 (V.int .i64 0))) (hmn : m = nn) (hb : nn ≤ 1000000)
 (hk : K (.msl id 625 0 nn) (s.setO id (some (.own 625 (tabV nn (fun _ _ _ => 0)) false)))) : mkQ cls id s K true 625 5000 zero (.int k m) (.int k' m) := by
 subst hmn
 refine mkQ_T (by omega) (by simp; omega) (by unfold maxLen; simp; omega) ?_
 rw [hz, Int.toNat_natCast, tabV_0]
 exact hk
theorem iaA_ptr0 {len size id k o : Nat} {kd : IntKind} (h : 0 < len) : iaddrAV len size (.ptr id k o) (.int kd 0) = some (.ptr id k o) := by simp [iaddrAV, idxOf, h]
def cntP (g : Grammar) (nn : Nat) (s : Int) (w : List Int) (x : Int) : Prop :=
 if w.length > 24 then x = -1 else if 0 ≤ s ∧ s < g.toks.length then x = (if w = [s] then 1 else 0) else if s < 1000 ∨ s - 1000 ≥ nn then x = 0 else ∃ T, IsCount g nn w T ∧ x = T (s - 1000).toNat 0 w.length
theorem cntPre {g : Grammar} {nn : Nat} {s : Int} {w : List Int} (hg : Cnt g nn) (hs : s < 9223372036854775808) (hwl : w.length ≤ 1000000) (htl : g.toks.length ≤ 1000000) {Q : Exit → St → Prop} {next : Nat} {H : Nat → Option MObj}
 (hE : ∀ s' x, s'.f 6 = vi x → (w.length > 24 ∨ (0 ≤ s ∧ s < g.toks.length) ∨ s < 1000 ∨ s - 1000 ≥ nn) → cntP g nn s w x → Q .ret s')
 (hQ : ∀ s' m ni, ¬ w.length > 24 → ¬ (0 ≤ s ∧ s < g.toks.length) → ¬ (s < 1000 ∨ s - 1000 ≥ nn) → s'.f 1 = vi s → s'.f 2 = .sl 1 false (w.map (V.int .i64)) → s'.f 7 = .ptr m 0 0 → s'.H m = some (.own 7 [cntC g w ni nn] false) → s'.H ni = some (.own 625 (tabV nn (fun _ _ _ => 0)) false) → m < s'.next → ni < s'.next → m ≠ ni → ewp Try.prog e13n49 Q s') : ewp Try.prog e13n52 Q (entry [g.V, vi s, .sl 1 false (w.map (V.int .i64))] H next) := by
 show ewp _ (.seq (.reg e13r0) (.seq e13n22 (.seq (.reg e13r23) e13n49))) _ _
 generalize e13n49 = F at hQ
 have hnl := hg.nl
 have hnb := hg.nb
 have hzs : 1000 ≤ s → IntKind.i64.wrap (s - 1000) = s - 1000 := fun h => wrap64 (by omega) (by omega)
 by_cases h24 : w.length > 24
 · repeat' with_reducible first
    | refine s_ ?_
    | simp -implicitDefEqProofs only [wA, Nat.reduceEqDiff, ↓reduceIte, reduceCtorEq, Nat.reduceAdd, Int.cast_ofNat_Int, Int.reduceLT, Int.reduceLE, Int.reduceEq, Int.reduceToNat, decide_true, decide_false, Bool.false_eq_true]
    | (refine condQ_j (fun h h_ => ?_) (fun h h_ => ?_) <;> (try simp only [wD, reduceCtorEq] at h_) <;> (try exact wb_) <;> (try simp only [h]))
    | (apply boxQ_i; (exact wu_); (exact wu_))
   exact hE _ (-1) wl_ (Or.inl h24) (by unfold cntP; rw [if_pos h24])
 by_cases ht : 0 ≤ s ∧ s < g.toks.length
 · repeat' with_reducible first
    | refine s_ ?_
    | simp -implicitDefEqProofs only [wA, Nat.reduceEqDiff, ↓reduceIte, reduceCtorEq, Nat.reduceAdd, Int.cast_ofNat_Int, Int.reduceLT, Int.reduceLE, Int.reduceEq, Int.reduceToNat, decide_true, decide_false, Bool.false_eq_true]
    | (refine condQ_j (fun h h_ => ?_) (fun h h_ => ?_) <;> (try simp only [wD, reduceCtorEq] at h_) <;> (try exact wb_) <;> (try simp only [h]))
    | ((first | refine gdQ_iT (fun h => ?_) (fun h => ?_) | refine gdQ_iF (fun h => ?_) (fun h => ?_)) <;> have h_ := h <;> (try simp only [wD, reduceCtorEq] at h_) <;> (try exact wb_) <;> (try simp only [h]))
    | (apply ia_slQ; (focus omega); (exact wd_))
    | (apply ldQ_cell; (exact wu_))
    | (apply boxQ_i; (exact wu_); (exact wu_))
   · refine hE _ 1 wl_ (Or.inr (Or.inl ht)) (by unfold cntP; rw [if_neg h24, if_pos ht, if_pos]; exact List.ext_getElem (by simp; omega) (fun i h1 h2 => by have e : i = 0 := (by simp at h2; omega); subst e; simpa using h_))
   · refine hE _ 0 wl_ (Or.inr (Or.inl ht)) (by unfold cntP; rw [if_neg h24, if_pos ht, if_neg]; intro e; apply h_; simp [e])
   · refine hE _ 0 wl_ (Or.inr (Or.inl ht)) (by unfold cntP; rw [if_neg h24, if_pos ht, if_neg]; intro e; apply h_; simp [e])
 · have he : (s < 1000 ∨ s - 1000 ≥ nn) → cntP g nn s w 0 := fun h => by unfold cntP; rw [if_neg h24, if_neg ht, if_pos h]
   repeat' with_reducible first
    | refine s_ ?_
    | simp -implicitDefEqProofs only [wA, Nat.reduceEqDiff, ↓reduceIte, reduceCtorEq, Nat.reduceAdd, Int.cast_ofNat_Int, Int.reduceLT, Int.reduceLE, Int.reduceEq, Int.reduceToNat, decide_true, decide_false, Bool.false_eq_true]
    | (refine condQ_j (fun h h_ => ?_) (fun h h_ => ?_) <;> (try simp only [wD, reduceCtorEq] at h_) <;> (try exact wb_) <;> (try simp only [h]))
    | ((first | refine gdQ_iT (fun h => ?_) (fun h => ?_) | refine gdQ_iF (fun h => ?_) (fun h => ?_)) <;> have h_ := h <;> (try simp only [wD, reduceCtorEq] at h_) <;> (try exact wb_) <;> (try simp only [h]))
    | (refine mkTab (nn := nn) wu_ (by omega) hnb ?_)
    | (apply bld_nil)
    | (apply bld_part; (exact wu_); (exact wu_); (exact wu_); (focus ((try simp -implicitDefEqProofs only [wE, Nat.reduceAdd]); rfl)))
    | (apply ldQ_whole)
    | (apply ldQ_cell; (exact wu_))
    | (apply boxQ_i; (exact wu_); (exact wu_))
    | simp -implicitDefEqProofs (disch := omega) only [w64, if_neg]
   · rw [hzs (by omega)] at h_
     exact hE _ 0 wl_ (by omega) (he (by omega))
   · rw [hzs (by omega)] at h_
     exact hQ _ (next + 2 + 4 + 10 + 11 + 7) (next + 2 + 4 + 10 + 11 + 5) h24 ht (by omega) (by  simp -implicitDefEqProofs only [wL, Nat.reduceEqDiff, ↓reduceIte, reduceCtorEq]) (by  simp -implicitDefEqProofs only [wL, Nat.reduceEqDiff, ↓reduceIte, reduceCtorEq]) (by  simp -implicitDefEqProofs only [wL, Nat.reduceEqDiff, ↓reduceIte, reduceCtorEq]) (by  (simp only [wM]; (repeat first | rw [if_pos trivial] | rw [if_pos rfl] | rw [if_neg (by omega)]))) (by  (simp only [wM]; (repeat first | rw [if_pos trivial] | rw [if_pos rfl] | rw [if_neg (by omega)]))) (by  simp only [wN]; omega) (by  simp only [wN]; omega) (by omega)
   · exact hE _ 0 wl_ (by omega) (he (by omega))
   · exact hE _ 0 wl_ (by omega) (he (by omega))
theorem cntBody {g : Grammar} {nn m ni : Nat} {sy : Int} {w : List Int} (hg : Cnt g nn) (hs : sy < 9223372036854775808) (hso : SymOk nn g.prods) {Q : Exit → St → Prop} {s0 : St} (h24 : ¬ w.length > 24) (h1 : ¬ (sy < 1000 ∨ sy - 1000 ≥ nn)) (f1 : s0.f 1 = vi sy) (f2 : s0.f 2 = .sl 1 false (w.map (V.int .i64))) (f7 : s0.f 7 = .ptr m 0 0) (hm : s0.H m = some (.own 7 [cntC g w ni nn] false)) (hn : s0.H ni = some (.own 625 (tabV nn (fun _ _ _ => 0)) false)) (lm : m < s0.next) (ln : ni < s0.next) (e3 : m ≠ ni)
 (hQ : ∀ s' T, IsCount g nn w T → s'.f 6 = vi (T (sy - 1000).toNat 0 w.length) → Q .ret s') : ewp Try.prog e13n49 Q s0 := by
 have hnb := hg.nb
 have hzs : IntKind.i64.wrap (sy - 1000) = sy - 1000 := wrap64 (by omega) (by omega)
 obtain ⟨kq, e0⟩ : ∃ kq : Nat, sy - 1000 = kq := ⟨(sy - 1000).toNat, by omega⟩
 have hk : kq < nn := by omega
 rw [e0] at hzs
 have hkt : (kq : Int).toNat = kq := rfl
 repeat' with_reducible first
  | refine s_ ?_
  | simp -implicitDefEqProofs only [wA, Nat.reduceEqDiff, ↓reduceIte, reduceCtorEq, Nat.reduceAdd, Int.cast_ofNat_Int, Int.reduceLT, Int.reduceLE, Int.reduceEq, Int.reduceToNat, decide_true, decide_false, Bool.false_eq_true, f1, f2, f7]
 refine ewp_loopN ?nx1 (fun (p : Nat × Tbl) s => s.f 1 = ?v1_1 ∧ s.f 2 = ?v1_2 ∧ s.f 7 = ?v1_7 ∧ s.f 8 = vi p.1 ∧ (p.1 ≤ w.length + 1) ∧ (CInv g nn w p.1 0 p.2) ∧ ((s.H m = some (.own 7 [cntC g w ni nn] false))) ∧ ((s.H ni = some (.own 625 (tabV nn p.2) false)))) (fun p => w.length + 1 - p.1) ((0, fun _ _ _ => 0)) wj_ (by refine ⟨?_, ?_, ?_, ?_, (by first | omega | (simp; done) | assumption), (by exact CInv.init g nn w), (by simp only [wM]; exact hm), (by simp only [wM]; exact hn)⟩ <;> first | (simp -implicitDefEqProofs only [wL, wM, wN, wX, Nat.reduceEqDiff, ↓reduceIte, reduceCtorEq, Nat.reduceAdd, Option.some.injEq] <;> exact wt_) | rfl | exact ⟨_, rfl⟩) ?_
 intro p s hnx ⟨g1, g2, g7, g8, k1_0, k1_1, k1_2, k1_3⟩
 obtain ⟨n, T⟩ := p
 dsimp only at *
 have hzn : IntKind.i64.wrap ((n + 1 : Nat) : Int) = ((n + 1 : Nat) : Int) := wrap64 (by omega) (by omega)
 by_cases hnw : n ≤ w.length
 · repeat' with_reducible first
    | refine s_ ?_
    | simp -implicitDefEqProofs only [wA, Nat.reduceEqDiff, ↓reduceIte, reduceCtorEq, Nat.reduceAdd, Int.cast_ofNat_Int, Int.reduceLT, Int.reduceLE, Int.reduceEq, Int.reduceToNat, decide_true, decide_false, Bool.false_eq_true, g1, g2, g7, g8, f1, f2, f7]
    | (refine condQ_j (fun h h_ => ?_) (fun h h_ => ?_) <;> (try simp only [wD, reduceCtorEq] at h_) <;> (try exact wb_) <;> (try simp only [h]))
   refine ewp_loopN ?nx2 (fun (p : Nat × Tbl) s => s.f 1 = ?v2_1 ∧ s.f 2 = ?v2_2 ∧ s.f 7 = ?v2_7 ∧ s.f 8 = ?v2_8 ∧ s.f 9 = vi p.1 ∧ (p.1 + n ≤ w.length + 1) ∧ (CInv g nn w n p.1 p.2) ∧ ((s.H m = some (.own 7 [cntC g w ni nn] false))) ∧ ((s.H ni = some (.own 625 (tabV nn p.2) false)))) (fun p => w.length + 1 - p.1) ((0, T)) wj_ (by refine ⟨?_, ?_, ?_, ?_, ?_, (by first | omega | (simp; done) | assumption), (by first | omega | (simp; done) | assumption), (by simp only [wM]; assumption), (by simp only [wM]; assumption)⟩ <;> first | (simp -implicitDefEqProofs only [wL, wM, wN, wX, Nat.reduceEqDiff, ↓reduceIte, reduceCtorEq, Nat.reduceAdd, Option.some.injEq, g1, g2, g7, g8] <;> exact wt_) | rfl | exact ⟨_, rfl⟩) ?_
   intro p s hnx ⟨g1, g2, g7, g8, g9, k2_0, k2_1, k2_2, k2_3⟩
   obtain ⟨a, U⟩ := p
   dsimp only at *
   have hza : IntKind.i64.wrap ((a + 1 : Nat) : Int) = ((a + 1 : Nat) : Int) := wrap64 (by omega) (by omega)
   have hz : IntKind.i64.wrap ((a : Int) + (n : Int)) = ((a + n : Nat) : Int) := by rw [wrap64 (by omega) (by omega)]; omega
   by_cases ha : a + n ≤ w.length
   · repeat' with_reducible first
      | refine s_ ?_
      | simp -implicitDefEqProofs only [wA, Nat.reduceEqDiff, ↓reduceIte, reduceCtorEq, Nat.reduceAdd, Int.cast_ofNat_Int, Int.reduceLT, Int.reduceLE, Int.reduceEq, Int.reduceToNat, decide_true, decide_false, Bool.false_eq_true, g1, g2, g7, g8, g9, f1, f2, f7, hz, hza]
      | (refine condQ_j (fun h h_ => ?_) (fun h h_ => ?_) <;> (try simp only [wD, reduceCtorEq] at h_) <;> (try exact wb_) <;> (try simp only [h]))
      | (refine callQWc rfl rfl rfl ((spanE (i := a) (j := a + n) (T := U) hg (by (simp only [wM]; (repeat first | rw [if_pos trivial] | rw [if_pos rfl] | rw [if_neg (by omega)])); exact k2_2) (by (simp only [wM]; (repeat first | rw [if_pos trivial] | rw [if_pos rfl] | rw [if_neg (by omega)])); exact k2_3) wh_ wh_ e3 (by omega) (by omega) ha (by omega) k2_1.le2 (fun k _ => k2_1.pre k)).mono ?_); rintro v1 H1 n1 ⟨q1, ⟨N, q2, q3⟩, q4⟩; (try simp only [wN] at q1); (try simp only [wN, wM] at q4))
     have hst := CInv.step hso k2_1 ha q3
     have q5 := q4 m (by omega) e3
     rw [k2_2] at q5
     refine ⟨wk_, (a + 1, rnds nn g.prods w a (a + n) U N), (by omega), ?_⟩
     refine ⟨?_, ?_, ?_, ?_, ?_, ?_, ?_, ?_, ?_⟩
     iterate 5 (focus (first | (simp -implicitDefEqProofs only [wL, wM, wN, wX, Nat.reduceEqDiff, ↓reduceIte, reduceCtorEq, Nat.reduceAdd, Option.some.injEq, g1, g2, g7, g8, g9] <;> exact wt_) | rfl | exact ⟨_, rfl⟩))
     all_goals try omega
     all_goals first | exact hst | exact q5 | exact q2
   · repeat' with_reducible first
      | refine s_ ?_
      | simp -implicitDefEqProofs only [wA, Nat.reduceEqDiff, ↓reduceIte, reduceCtorEq, Nat.reduceAdd, Int.cast_ofNat_Int, Int.reduceLT, Int.reduceLE, Int.reduceEq, Int.reduceToNat, decide_true, decide_false, Bool.false_eq_true, g1, g2, g7, g8, g9, f1, f2, f7, hz, hza, hzn]
      | (refine condQ_j (fun h h_ => ?_) (fun h h_ => ?_) <;> (try simp only [wD, reduceCtorEq] at h_) <;> (try exact wb_) <;> (try simp only [h]))
     have hst := k2_1.next (by omega) hnw
     refine ⟨wk_, (n + 1, U), (by omega), ?_⟩
     refine ⟨?_, ?_, ?_, ?_, ?_, ?_, ?_, ?_⟩
     iterate 4 (focus (first | (simp -implicitDefEqProofs only [wL, wM, wN, wX, Nat.reduceEqDiff, ↓reduceIte, reduceCtorEq, Nat.reduceAdd, Option.some.injEq, g1, g2, g7, g8, g9] <;> exact wt_) | rfl | exact ⟨_, rfl⟩))
     all_goals try omega
     all_goals first | exact hst | exact k2_2 | exact k2_3
 · have hd := k1_1.done (by omega)
   skip
   repeat' with_reducible first
    | refine s_ ?_
    | simp -implicitDefEqProofs only [wA, Nat.reduceEqDiff, ↓reduceIte, reduceCtorEq, Nat.reduceAdd, Int.cast_ofNat_Int, Int.reduceLT, Int.reduceLE, Int.reduceEq, Int.reduceToNat, decide_true, decide_false, Bool.false_eq_true, g1, g2, g7, g8, f1, f2, f7, k1_2, k1_3, hzs, e0]
    | (refine condQ_j (fun h h_ => ?_) (fun h h_ => ?_) <;> (try simp only [wD, reduceCtorEq] at h_) <;> (try exact wb_) <;> (try simp only [h]))
    | (refine onS_i (iaA_ptr0 (by omega)) ?_)
    | (refine onS_i (iaA_ptr (by omega)) ?_)
    | (refine ldMo (a := 0) (b := w.length) hk (by omega) (by omega) (by omega) ?_)
    | (apply ia_mslQ; (focus omega); (exact wf_))
    | (apply ldQ_cell; (exact wu_))
   exact hQ _ T hd (by simp -implicitDefEqProofs only [wL, Nat.reduceEqDiff, ↓reduceIte, reduceCtorEq]; rw [e0]; rfl)
theorem many_Count {g : Grammar} {nn : Nat} {sy : Int} {w : List Int} (hg : Cnt g nn) (hs : sy < 9223372036854775808) (hwl : w.length ≤ 1000000) (htl : g.toks.length ≤ 1000000) : ∃ x : Int, cntP g nn sy w x ∧ Pure Try.prog 13 [g.V, vi sy, .sl 1 false (w.map (V.int .i64))] (vi x) := by
 have hh := pure_ex (G := fun v => ∃ x : Int, v = vi x ∧ cntP g nn sy w x) (args := [g.V, vi sy, .sl 1 false (w.map (V.int .i64))]) Try.func13 e13_nm e13_ok (by show 3 ≤ 85; decide) ?_
 · obtain ⟨v, ⟨x, rfl, h⟩, h2⟩ := hh
   exact ⟨x, h, h2⟩
 refine cntPre hg hs hwl htl (fun s' x h6 _ hc => ⟨vi x, ⟨x, rfl, hc⟩, Or.inr rfl, vi x, ?_, .int _ _⟩) fun s' m ni h24 ht h1 f1 f2 f7 hm hn lm ln e3 => cntBody hg hs hg.pr h24 h1 f1 f2 f7 hm hn lm ln e3 fun s2 T hT h6 => ⟨vi (T (sy - 1000).toNat 0 w.length), ⟨_, rfl, ?_⟩, Or.inr rfl, vi (T (sy - 1000).toNat 0 w.length), ?_, .int _ _⟩
 · show resV s' [.inl 6] = _
   simp [resV, resL, one, h6]
 · unfold cntP
   rw [if_neg h24, if_neg ht, if_neg h1]
   exact ⟨T, hT, rfl⟩
 · show resV s2 [.inl 6] = _
   simp [resV, resL, one, h6]
end Go.Proofs
