/- Part of a proof that a law of the given program answers true. -/
import Derived.Test.YtpnfbnlhjdnnpaaWPF
set_option linter.unusedSimpArgs false
set_option linter.unusedVariables false
set_option maxHeartbeats 4000000
namespace Go.Proofs
open Go.E
theorem Gr.ok {H : Nat → Option MObj} {next z : Nat} {es : List V} {v : V} (h : Gr H next z es v) : v.cells = [v] ∧ v.okCell = true ∧ v.isAgg = false := by
 rcases h with rfl | ⟨id, f, rfl, _⟩ <;> exact ⟨rfl, rfl, rfl⟩
def DI (H : Nat → Option MObj) (next : Nat) (v : V) (out : List Decl) : Prop :=
 (out = [] ∧ v = .sl 4 true []) ∨ ∃ id es k vS ss, ∃ (o : List Decl) (sy : List Sym), v = .msl id 4 0 (es.length + 1) ∧ H id = some (.own 4 (es ++ [.agg [vi k, .str [], vS, vi 0]]) false) ∧ id < next ∧ Gr H next 4 ss vS ∧ ErPL es (o.map Decl.V) ∧ ErPL ss (sy.map Sym.V) ∧ out = o ++ [{ kind := k, syms := sy }] ∧ es.length ≤ 4 ∧ ss.length ≤ 4
theorem DI.mono {H H' : Nat → Option MObj} {next next' : Nat} {v : V} {out : List Decl} (h : DI H next v out) (hn : next ≤ next') (hH : ∀ j, j < next → H' j = H j) : DI H' next' v out := by
 rcases h with h | ⟨id, es, k, vS, ss, o, sy, h1, h2, h3, h4, h5⟩
 · exact Or.inl h
 · exact Or.inr ⟨id, es, k, vS, ss, o, sy, h1, by rw [hH id h3]; exact h2, by omega, h4.mono hn (fun j _ hj => hH j hj), h5⟩

structure GrI where
 nons : Int := 0
 rules : List (List Int) := []
 levels : List Int := []
 inner : List Int := []
 bare : Bool := false
 deriving DecidableEq, Inhabited
abbrev intsV (l : List Int) : V := .sl 1 false (l.map (V.int .i64))
@[reducible] def GrI.V (x : GrI) : V := .agg [vi x.nons, .sl 1 false (x.rules.map intsV), intsV x.levels, intsV x.inner, .bool x.bare]
def errS : List UInt8 := [101, 114, 114, 111, 114]
theorem getD_some {α : Type} {l : List α} {i : Nat} {d : α} (h : i < l.length) : l[i]? = some (l.getD i d) := by rw [List.getD_eq_getElem?_getD, List.getElem?_eq_getElem h]; rfl
structure AltAt (s : St) (s0 : St) (a : Nat) (ps : List Part) (pl : Bool) : Prop where
 ex : ∃ vP es, s.H a = some (.own 6 [.agg [vP, .str [], .bool false, vi 0, vi 0, vi 0]] false) ∧ Gr s.H s.next 6 es vP ∧ ErPL es (ps.map Part.V) ∧ ∀ j, gid vP = some j → s0.next ≤ j
 pl : s.f 10 = .bool pl
 fr : ∀ t, t < 10 → s.f t = s0.f t
 hp : ∀ j, j < s0.next → j ≠ a → s.H j = s0.H j
 nx : s0.next ≤ s.next

@[reducible] def rulV (vA : Nat → V) (k : Nat) : V := .agg [.str (nonS k), vA k, vi 0]
def rulC (n : Nat) (vA : Nat → V) : List V := (List.range n).map (rulV vA)
def bolC (n : Nat) (h : Nat → Bool) : List V := (List.range n).map fun k => V.bool (h k)
theorem bolC_len (n : Nat) (h : Nat → Bool) : (bolC n h).length = n := by simp [bolC]
theorem bolC_get {n k : Nat} {h : Nat → Bool} (hk : k < n) : (bolC n h)[k]? = some (.bool (h k)) := by simp [bolC, hk]
theorem bolC_set {n k : Nat} {h : Nat → Bool} {v : Bool} (hk : k < n) : (bolC n h).set k (.bool v) = bolC n (updN h k v) := by
 refine List.ext_getElem? fun i => ?_
 rw [List.getElem?_set]
 by_cases hi : i < n
 · rw [bolC_get hi, bolC_len, bolC_get hi]
   by_cases e : k = i
   · subst e; simp [hi, updN]
   · simp [e, updN, Ne.symm e]
 · rw [List.getElem?_eq_none (by rw [bolC_len]; omega), List.getElem?_eq_none (by rw [bolC_len]; omega)]
   rw [bolC_len]; simp; omega
theorem bolC_0 (n : Nat) : List.replicate n (V.bool false) = bolC n (fun _ => false) := by
 refine List.ext_getElem? fun i => ?_
 by_cases h : i < n
 · rw [bolC_get h]; simp [h]
 · rw [List.getElem?_eq_none (by simp; omega), List.getElem?_eq_none (by rw [bolC_len]; omega)]
theorem ldB {K : V → Prop} {nn k : Nat} {S : Nat → Bool} {ro : Bool} (h : k < nn) (hk : K (.bool (S k))) : onS (ldQ (some (.own 1 (bolC nn S) ro)) false 1 k 0) K := by
 have e : ldQ (some (.own 1 (bolC nn S) ro)) false 1 k 0 = some (.bool (S k)) := by simp [ldQ, bolC_get h, partE, V.isAgg]
 rw [e]; exact hk
theorem stB {K : St → Prop} {s : St} {nn k id : Nat} {x : Bool} {S : Nat → Bool} (h : k < nn) (hk : K (s.setO id (some (.own 1 (bolC nn (updN S k x)) false)))) : onS (stQ s (some (.own 1 (bolC nn S) false)) 1 id k 0 (.bool x)) K := by
 have e : stQ s (some (.own 1 (bolC nn S) false)) 1 id k 0 (.bool x) = some (s.setO id (some (.own 1 (bolC nn (updN S k x)) false))) := by
  rw [← bolC_set h]
  simp [stQ, bolC_get h, V.cells, V.okCell, storeE, V.isAgg]
 rw [e]; exact hk
structure RW (H : Nat → Option MObj) (next rid n : Nat) (vA : Nat → V) (als : Nat → List V) (alts : Nat → List Alt) : Prop where
 ho : H rid = some (.own 3 (rulC n vA) false)
 lr : rid < next
 gr : ∀ k, k < n → Gr H next 6 (als k) (vA k)
 ep : ∀ k, k < n → ErPL (als k) ((alts k).map Alt.V)
 sep : ∀ j k, j < n → k < n → j ≠ k → Sep (vA j) (vA k)
 len : ∀ k, k < n → (als k).length ≤ 100
theorem RW.mono {H H' : Nat → Option MObj} {next next' rid n : Nat} {vA : Nat → V} {als : Nat → List V} {alts : Nat → List Alt} (h : RW H next rid n vA als alts) (hn : next ≤ next') (hr : H' rid = H rid) (hH : ∀ k, k < n → ∀ j, gid (vA k) = some j → j < next → H' j = H j) : RW H' next' rid n vA als alts :=
 ⟨by rw [hr]; exact h.ho, by have := h.lr; omega, fun k hk => (h.gr k hk).mono hn (hH k hk), h.ep, h.sep, h.len⟩
theorem RW.ne {H : Nat → Option MObj} {next rid n : Nat} {vA : Nat → V} {als : Nat → List V} {alts : Nat → List Alt} (h : RW H next rid n vA als alts) {j : Nat} (hj : ∀ f, H j ≠ some (.tok f)) {k : Nat} (hk : k < n) : gid (vA k) ≠ some j := (h.gr k hk).ne hj
theorem RW.put {H H' : Nat → Option MObj} {next next' rid n k id : Nat} {vA : Nat → V} {als : Nat → List V} {alts : Nat → List Alt} {v : V} {a : Alt} (h : RW H next rid n vA als alts) (hk : k < n) (hv : ErP v a.V)
 (hl : (als k).length < 100) (hid : next ≤ id) (hid2 : id < next') (hr : H' rid = some (.own 3 (rulC n (updN vA k (.asl id ((als k).length + 1) 6 (als k ++ [v])))) false)) (ht : H' id = some (.tok ((als k).length + 1)))
 (hH : ∀ q, q < n → q ≠ k → ∀ j, gid (vA q) = some j → j < next → H' j = H j) :
 RW H' next' rid n (updN vA k (.asl id ((als k).length + 1) 6 (als k ++ [v]))) (updN als k (als k ++ [v])) (updN alts k (alts k ++ [a])) := by
 refine ⟨hr, by have := h.lr; omega, fun q hq => ?_, fun q hq => ?_, fun j q hj hq hjq => ?_, fun q hq => ?_⟩
 · unfold updN
   by_cases e : q = k
   · subst e; simp only [if_true]; exact Gr.tok ht hid2
   · simp only [if_neg e]; exact (h.gr q hq).mono (by omega) (hH q hq e)
 · unfold updN
   by_cases e : q = k
   · subst e; simp only [if_true]; rw [List.map_append]; exact (h.ep q hq).snoc hv
   · simp only [if_neg e]; exact h.ep q hq
 · unfold updN
   by_cases e : j = k
   · subst e; simp only [if_true, if_neg (Ne.symm hjq)]; exact Sep.newL (h.gr q hq) hid
   · by_cases e2 : q = k
     · subst e2; simp only [if_true, if_neg hjq]; exact Sep.newR (h.gr j hj) hid
     · simp only [if_neg e, if_neg e2]; exact h.sep j q hj hq hjq
 · unfold updN
   by_cases e : q = k
   · subst e; simp only [if_true, List.length_append, List.length_cons, List.length_nil]; omega
   · simp only [if_neg e]; exact h.len q hq
end Go.Proofs
