/- Part of a proof that a law of the given program answers true. -/
import Derived.Test.YtpnfbnlhjdnnpaaWJA
set_option linter.unusedSimpArgs false
set_option linter.unusedVariables false
set_option maxHeartbeats 4000000
namespace Go.Proofs
open Go.E
abbrev src0 : V := .agg [.str [], .sl 4 true [], .sl 3 true [], .str []]
structure SrcAt (s : St) (x : GrI) (n xb rb sb hb rid : Nat) (dV : V) (vA : Nat → V) (als : Nat → List V) (q : (Nat → List Alt) × (Nat → Bool)) : Prop where
 f1 : s.f 1 = .ptr xb 0 0
 f2 : s.f 2 = .ptr rb 0 0
 f3 : s.f 3 = vi n
 f4 : s.f 4 = .ptr sb 0 0
 f5 : s.f 5 = .msl hb 1 0 n
 hx : s.H xb = some (.own 5 [x.V] false)
 hr : s.H rb = some (.own 4 [src0] false)
 hs : s.H sb = some (.own 4 [.agg [.str [], dV, .msl rid 3 0 n, .str []]] false)
 hh : s.H hb = some (.own 1 (bolC n q.2) false)
 rw : RW s.H s.next rid n vA als q.1
 o1 : xb < rb
 o2 : rb < sb
 o3 : sb < hb
 o4 : hb < rid
theorem SrcAt.mono {s s' : St} {x : GrI} {n xb rb sb hb rid : Nat} {dV : V} {vA : Nat → V} {als : Nat → List V} {q : (Nat → List Alt) × (Nat → Bool)} (h : SrcAt s x n xb rb sb hb rid dV vA als q)
 (hf : ∀ t, 1 ≤ t → t ≤ 5 → s'.f t = s.f t) (hn : s.next ≤ s'.next) (hH : ∀ j, j < s.next → s'.H j = s.H j) : SrcAt s' x n xb rb sb hb rid dV vA als q := by
 have := h.rw.lr; have o1 := h.o1; have o2 := h.o2; have o3 := h.o3; have o4 := h.o4
 exact ⟨by rw [hf 1 (by omega) (by omega)]; exact h.f1, by rw [hf 2 (by omega) (by omega)]; exact h.f2, by rw [hf 3 (by omega) (by omega)]; exact h.f3, by rw [hf 4 (by omega) (by omega)]; exact h.f4, by rw [hf 5 (by omega) (by omega)]; exact h.f5,
  by rw [hH _ (by omega)]; exact h.hx, by rw [hH _ (by omega)]; exact h.hr, by rw [hH _ (by omega)]; exact h.hs, by rw [hH _ (by omega)]; exact h.hh, h.rw.mono hn (hH _ (by omega)) (fun k _ j _ hj => hH j hj), o1, o2, o3, o4⟩

theorem _root_.Go.E.ErL.map {α : Type} {b : Bool} {H : Nat → Option MObj} {f g : α → V} {l : List α} (h : ∀ x ∈ l, Er b H (f x) (g x)) : ErL b H (l.map f) (l.map g) := by
 induction l with
 | nil => exact .nil
 | cons a l ih => exact .cons (h a (by simp)) (ih fun x hx => h x (List.mem_cons_of_mem _ hx))

instance grI_cl (x : GrI) : Cl x.V := ⟨fun b H => ErL.agg (.cons (.int _ _) (.cons er_cl (.cons er_cl (.cons er_cl (.cons (.bool _) .nil)))))⟩
end Go.Proofs
