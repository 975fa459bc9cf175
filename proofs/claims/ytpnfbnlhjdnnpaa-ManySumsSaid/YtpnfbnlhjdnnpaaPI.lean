/-
  Part of a proof that a law of the given program answers true: contracts of its functions, and the law. Holds for inputs of at most 1048576 values and letters in all.
-/
import Derived.Test.YtpnfbnlhjdnnpaaPH
namespace Go.Proofs
open Go.E
@[reducible] def e7br2 : List Ins := [
  ⟨(some 4), none, .load true 5 (.t 1), .r⟩,
  ⟨(some 5), none, .lit false 1 false (.int .i64 0) 5 [(0, (.c (.int .i64 4))), (1, (.c (.int .i64 3))), (2, (.c (.int .i64 4))), (3, (.c (.int .i64 3))), (4, (.c (.int .i64 4)))], .n⟩,
  ⟨(some 6), none, .call (.c (.fn 13 [])) [(.t 4), (.c (.int .i64 1001)), (.t 5)], .r⟩,
  ⟨(some 7), none, .bin .eql (.t 6) (.c (.int .i64 2)), .n⟩,
  ⟨(some 8), none, .mov (.t 7), .n⟩,
  ⟨(some 9), (some (8, true)), .load true 5 (.t 1), .r⟩,
  ⟨(some 10), (some (8, true)), .lit false 1 false (.int .i64 0) 3 [(0, (.c (.int .i64 4))), (1, (.c (.int .i64 3))), (2, (.c (.int .i64 4)))], .n⟩,
  ⟨(some 11), (some (8, true)), .call (.c (.fn 13 [])) [(.t 9), (.c (.int .i64 1001)), (.t 10)], .r⟩,
  ⟨(some 12), (some (8, true)), .bin .eql (.t 11) (.c (.int .i64 1)), .n⟩,
  ⟨(some 13), none, .pick (.t 8) (.t 12) (.c (.bool false)), .n⟩,
  ⟨(some 14), none, .mov (.t 13), .n⟩,
  ⟨(some 15), (some (14, true)), .load true 5 (.t 1), .r⟩,
  ⟨(some 16), (some (14, true)), .lit false 1 false (.int .i64 0) 2 [(0, (.c (.int .i64 4))), (1, (.c (.int .i64 4)))], .n⟩,
  ⟨(some 17), (some (14, true)), .call (.c (.fn 13 [])) [(.t 15), (.c (.int .i64 1001)), (.t 16)], .r⟩,
  ⟨(some 18), (some (14, true)), .bin .eql (.t 17) (.c (.int .i64 0)), .n⟩,
  ⟨(some 19), none, .pick (.t 14) (.t 18) (.c (.bool false)), .n⟩,
  ⟨(some 20), none, .mov (.t 19), .n⟩,
  ⟨(some 21), (some (20, true)), .load true 5 (.t 1), .r⟩,
  ⟨(some 22), (some (20, true)), .lit false 1 false (.int .i64 0) 1 [(0, (.c (.int .i64 4)))], .n⟩,
  ⟨(some 23), (some (20, true)), .call (.c (.fn 13 [])) [(.t 21), (.c (.int .i64 4)), (.t 22)], .r⟩,
  ⟨(some 24), (some (20, true)), .bin .eql (.t 23) (.c (.int .i64 1)), .n⟩,
  ⟨(some 25), none, .pick (.t 20) (.t 24) (.c (.bool false)), .n⟩,
  ⟨(some 26), none, .mov (.t 25), .n⟩,
  ⟨(some 27), (some (26, true)), .load true 5 (.t 1), .r⟩,
  ⟨(some 28), (some (26, true)), .mksl true 1 8 (.int .i64 0) (.c (.int .i64 25)) (.c (.int .i64 25)), .a⟩,
  ⟨(some 29), (some (26, true)), .call (.c (.fn 13 [])) [(.t 27), (.c (.int .i64 1001)), (.t 28)], .b⟩,
  ⟨(some 30), (some (26, true)), .bin .eql (.t 29) (.c (.int .i64 (-1))), .n⟩,
  ⟨(some 31), none, .pick (.t 26) (.t 30) (.c (.bool false)), .n⟩,
  ⟨(some 32), none, .mov (.t 31), .n⟩,
  ⟨(some 33), (some (32, true)), .load true 5 (.t 1), .r⟩,
  ⟨(some 34), (some (32, true)), .lit false 1 false (.int .i64 0) 1 [(0, (.c (.int .i64 5)))], .n⟩,
  ⟨(some 35), (some (32, true)), .call (.c (.fn 13 [])) [(.t 33), (.c (.int .i64 5)), (.t 34)], .r⟩,
  ⟨(some 36), (some (32, true)), .bin .eql (.t 35) (.c (.int .i64 0)), .n⟩,
  ⟨(some 37), none, .pick (.t 32) (.t 36) (.c (.bool false)), .n⟩,
  ⟨(some 0), none, .mov (.t 37), .n⟩]
@[reducible] def e7bn3 : EC := .seq (.reg e7br2) .ret
@[reducible] def e7bn4 : EC := .seq (.reg e7r1) e7bn3
@[reducible] def e7bn5 : EC := .seq (.reg e7r0) e7bn4
@[reducible] def e7b : EF := ⟨38, 0, [(.inl 0)], e7bn5⟩
theorem e7b_ok : compFn Try.prog { mu := fun t => [28].contains t, cl := fun r i => ([(2, 25, Cls.b)].find? fun x => x.1 == r && x.2.1 == i).map (·.2.2) } Try.f7 = some e7b := by kernel_rfl
end Go.Proofs

set_option linter.unusedSimpArgs false
set_option linter.unusedVariables false
set_option maxRecDepth 10000
namespace Go.Proofs
open Go.E

theorem srcOf_fits {l : List (List UInt8)} (hl : l.length ≤ 100) (ht : ∀ t ∈ l, t.length ≤ 100) : (srcOf l).Fits := by
  have hr : ∀ r ∈ (srcOf l).rules, r = { left := [101], alts := l.map altOf } := fun r h => by simpa [srcOf] using h
  refine ⟨by simp [srcOf], by simp [srcOf], by simp [srcOf], fun d h => by simp [srcOf] at h, by simp [srcOf], fun r h => ?_⟩
  rw [hr r h]
  refine ⟨by simp, by simp only [List.length_map]; omega, fun a ha => ?_⟩
  obtain ⟨t, h1, rfl⟩ := List.mem_map.1 ha
  have := ht t h1
  refine ⟨by unfold altOf; simp only [List.length_map]; omega, fun p hp => ?_, by simp [altOf]⟩
  obtain ⟨c, _, rfl⟩ := List.mem_map.1 (by simpa [altOf] using hp)
  exact ⟨by simp [partOf], by simp [partOf]⟩
theorem srcOf_small {l : List (List UInt8)} (hl : l.length ≤ 100) (ht : ∀ t ∈ l, t.length ≤ 100) : Small (srcOf l) := by
  have hr : ∀ r ∈ (srcOf l).rules, r = { left := [101], alts := l.map altOf } := fun r h => by simpa [srcOf] using h
  refine ⟨by simp [srcOf], fun d h => by simp [srcOf] at h, fun d h => by simp [srcOf] at h, fun d h => by simp [srcOf] at h, by simp [srcOf], fun r h => ?_, fun r h a ha => ?_, fun r h a ha p hp hl => ?_, fun r h a ha hl => ?_⟩
  · rw [hr r h]; simp only [List.length_map]; omega
  · rw [hr r h] at ha
    obtain ⟨t, h1, rfl⟩ := List.mem_map.1 ha
    have := ht t h1
    unfold altOf; simp only [List.length_map]; omega
  · rw [hr r h] at ha
    obtain ⟨t, h1, rfl⟩ := List.mem_map.1 ha
    obtain ⟨c, _, rfl⟩ := List.mem_map.1 (by simpa [altOf] using hp)
    simp [partOf]
  · rw [hr r h] at ha
    obtain ⟨t, h1, rfl⟩ := List.mem_map.1 ha
    simp [altOf] at hl
theorem of_closed {l : List (List UInt8)} (hl : l.length ≤ 100) (ht : ∀ t ∈ l, t.length ≤ 100) : Pure Try.prog 16 [.sl 1 false (l.map V.str)] ((gramS (srcOf l)).V) :=
  yuccalaw14_of hl ht (srcOf_fits hl ht) fun _ => srcOf_small hl ht
/- The grammars of the laws. -/
def tE : List (List UInt8) := [[101, 43, 101], [120]]
def tL : List (List UInt8) := [[101, 43, 120], [120]]
def tR : List (List UInt8) := [[120, 43, 101], [120]]
def t1 : List (List UInt8) := [[40, 101, 41], []]
def t2 : List (List UInt8) := [[40, 101, 41], [], [101]]
def t3 : List (List UInt8) := [[40, 101, 41], [101, 101], []]
/-- What is checked of a grammar of the laws. -/
def okG (g : Grammar) (l : List (Int × List Int)) : Bool := decide (sides g = l) && decide (g.nons.length = 2) && decide (g.toks.length = 5) && decide (l.length ≤ 4) && l.all fun p => (decide (p.1 = 0) || decide (p.1 = 1)) && decide (p.2.length ≤ 3) && p.2.all fun s => decide (s < 1000) || decide (s = 1001)
theorem okG_cnt {g : Grammar} {l : List (Int × List Int)} (h : okG g l = true) : Cnt g 2 ∧ sides g = l ∧ g.toks.length = 5 := by
  unfold okG at h
  simp only [Bool.and_eq_true, decide_eq_true_eq, List.all_eq_true, Bool.or_eq_true] at h
  obtain ⟨⟨⟨⟨h1, h2⟩, h3⟩, h4⟩, h5⟩ := h
  have hm : ∀ p ∈ g.prods, (p.left, p.right) ∈ l := fun p hp => by rw [← h1]; exact List.mem_map.2 ⟨p, hp, rfl⟩
  refine ⟨⟨h2, by omega, ?_, fun p hp => ?_, fun p hp s hs => ?_, fun p hp => ?_⟩, h1, h3⟩
  · have : g.prods.length = l.length := by rw [← h1]; unfold sides; rw [List.length_map]
    omega
  · rcases (h5 _ (hm p hp)).1.1 with e | e
    · exact ⟨0, e, by omega⟩
    · exact ⟨1, e, by omega⟩
  · rcases (h5 _ (hm p hp)).2 s hs with e | e
    · exact Or.inl e
    · exact Or.inr ⟨1, e, by omega⟩
  · have := (h5 _ (hm p hp)).1.2
    dsimp only at this
    omega
theorem okE : okG (gramS (srcOf tE)) gE = true := by decide +kernel
theorem okL : okG (gramS (srcOf tL)) gL = true := by decide +kernel
theorem okR : okG (gramS (srcOf tR)) gR = true := by decide +kernel
theorem ok1 : okG (gramS (srcOf t1)) g1 = true := by decide +kernel
theorem ok2 : okG (gramS (srcOf t2)) g2 = true := by decide +kernel
theorem ok3 : okG (gramS (srcOf t3)) g3 = true := by decide +kernel
/-- What Count answers of a grammar of the laws. -/
theorem cnt_law {g : Grammar} {l : List (Int × List Int)} {w : List Int} (h : okG g l = true) (hw : w.length ≤ 24) {r : Nat} (hr : ∀ T, IsCount g 2 w T → T 1 0 w.length = r) : Pure Try.prog 13 [g.V, vi 1001, .sl 1 false (w.map (V.int .i64))] (vi r) := by
  obtain ⟨h1, h2, h3⟩ := okG_cnt h
  obtain ⟨x, hx, hp⟩ := many_Count (sy := 1001) (w := w) h1 (by omega) (by omega) (by omega)
  unfold cntP at hx
  rw [if_neg (by omega), if_neg (by omega), if_neg (by omega)] at hx
  obtain ⟨T, hT, rfl⟩ := hx
  rw [show ((1001 : Int) - 1000).toNat = 1 from rfl, hr T hT] at hp
  exact hp
theorem cnt_tok {g : Grammar} {l : List (Int × List Int)} {w : List Int} {s : Int} (h : okG g l = true) (hw : w.length ≤ 24) (hs : 0 ≤ s ∧ s < 5) : Pure Try.prog 13 [g.V, vi s, .sl 1 false (w.map (V.int .i64))] (vi (if w = [s] then 1 else 0)) := by
  obtain ⟨h1, h2, h3⟩ := okG_cnt h
  obtain ⟨x, hx, hp⟩ := many_Count (sy := s) (w := w) h1 (by omega) (by omega) (by omega)
  unfold cntP at hx
  rw [if_neg (by omega), if_pos (by omega)] at hx
  rw [hx] at hp
  exact hp
theorem cnt_none {g : Grammar} {l : List (Int × List Int)} {w : List Int} {s : Int} (h : okG g l = true) (hw : w.length ≤ 24) (hs : 5 ≤ s ∧ s < 1000) : Pure Try.prog 13 [g.V, vi s, .sl 1 false (w.map (V.int .i64))] (vi 0) := by
  obtain ⟨h1, h2, h3⟩ := okG_cnt h
  obtain ⟨x, hx, hp⟩ := many_Count (sy := s) (w := w) h1 (by omega) (by omega) (by omega)
  unfold cntP at hx
  rw [if_neg (by omega), if_neg (by omega), if_pos (by omega)] at hx
  rw [hx] at hp
  exact hp
theorem cnt_long {g : Grammar} {l : List (Int × List Int)} {w : List Int} {s : Int} (h : okG g l = true) (hw : 24 < w.length) (hwl : w.length ≤ 1000000) (hs : s < 9223372036854775808) : Pure Try.prog 13 [g.V, vi s, .sl 1 false (w.map (V.int .i64))] (vi (-1)) := by
  obtain ⟨h1, h2, h3⟩ := okG_cnt h
  obtain ⟨x, hx, hp⟩ := many_Count (sy := s) (w := w) h1 (by omega) (by omega) (by omega)
  unfold cntP at hx
  rw [if_pos (by omega)] at hx
  rw [hx] at hp
  exact hp
/-- Weights of the sums: a thing and a sign outweigh each other. -/
def wgtS (x p : Int) : Int → Int := fun t => if t = x then 1 else if t = p then -1 else 0
theorem cnt_E {w : List Int} {n : Nat} (hn : 1 ≤ n) (hw : AltW w n 4 3) (h24 : w.length ≤ 24) : Pure Try.prog 13 [(gramS (srcOf tE)).V, vi 1001, .sl 1 false (w.map (V.int .i64))] (vi ((if n ≤ 2 then 1 else 2 : Nat) : Int)) :=
  cnt_law okE h24 fun T hT => by
    have := both_many (okG_cnt okE).2.1 hT hw (n - 1) 0 (by omega)
    rw [hw.1, show 2 * n - 1 = 2 * 0 + 2 * (n - 1) + 1 by omega, this]
    by_cases h : n ≤ 2
    · rw [if_pos (by omega), if_pos h]
    · rw [if_neg (by omega), if_neg h]
theorem cnt_L {w : List Int} {n : Nat} (hn : 1 ≤ n) (hw : AltW w n 4 3) (h24 : w.length ≤ 24) : Pure Try.prog 13 [(gramS (srcOf tL)).V, vi 1001, .sl 1 false (w.map (V.int .i64))] (vi ((1 : Nat) : Int)) :=
  cnt_law okL h24 fun T hT => by
    rw [hw.1, show 2 * n - 1 = 2 * (n - 1) + 1 by omega]
    exact left_one (okG_cnt okL).2.1 hT hw (n - 1) (by omega)
theorem cnt_R {w : List Int} {n : Nat} (hn : 1 ≤ n) (hw : AltW w n 3 4) (h24 : w.length ≤ 24) : Pure Try.prog 13 [(gramS (srcOf tR)).V, vi 1001, .sl 1 false (w.map (V.int .i64))] (vi ((1 : Nat) : Int)) :=
  cnt_law okR h24 fun T hT => by
    rw [hw.1]
    exact right_one (okG_cnt okR).2.1 hT hw (n - 1) 0 (by omega)
theorem cnt_E0 {w : List Int} (h24 : w.length ≤ 24) (hw : wsum (wgtS 4 3) w ≠ 1) : Pure Try.prog 13 [(gramS (srcOf tE)).V, vi 1001, .sl 1 false (w.map (V.int .i64))] (vi ((0 : Nat) : Int)) :=
  cnt_law okE h24 fun T hT => weigh hT (by rw [(okG_cnt okE).2.1]; decide) hw
theorem cnt_L0 {w : List Int} (h24 : w.length ≤ 24) (hw : wsum (wgtS 4 3) w ≠ 1) : Pure Try.prog 13 [(gramS (srcOf tL)).V, vi 1001, .sl 1 false (w.map (V.int .i64))] (vi ((0 : Nat) : Int)) :=
  cnt_law okL h24 fun T hT => weigh hT (by rw [(okG_cnt okL).2.1]; decide) hw
theorem cnt_R0 {w : List Int} (h24 : w.length ≤ 24) (hw : wsum (wgtS 3 4) w ≠ 1) : Pure Try.prog 13 [(gramS (srcOf tR)).V, vi 1001, .sl 1 false (w.map (V.int .i64))] (vi ((0 : Nat) : Int)) :=
  cnt_law okR h24 fun T hT => weigh hT (by rw [(okG_cnt okR).2.1]; decide) hw
theorem cnt_1 {w : List Int} {n : Nat} (hw : RndW w n) (h24 : w.length ≤ 24) : Pure Try.prog 13 [(gramS (srcOf t1)).V, vi 1001, .sl 1 false (w.map (V.int .i64))] (vi ((1 : Nat) : Int)) :=
  cnt_law ok1 h24 fun T hT => by
    have := round1 (okG_cnt ok1).2.1 hT hw n (by omega)
    rw [hw.1, show 2 * n = n + n by omega]; rw [Nat.sub_self] at this; exact this
theorem cnt_2 {w : List Int} {n : Nat} (hw : RndW w n) (h24 : w.length ≤ 24) : Pure Try.prog 13 [(gramS (srcOf t2)).V, vi 1001, .sl 1 false (w.map (V.int .i64))] (vi ((2 : Nat) : Int)) :=
  cnt_law ok2 h24 fun T hT => by
    have := round2 (okG_cnt ok2).2.1 hT hw n (by omega)
    rw [hw.1, show 2 * n = n + n by omega]; rw [Nat.sub_self] at this; exact this
theorem cnt_3 {w : List Int} {n : Nat} (hw : RndW w n) (h24 : w.length ≤ 24) : Pure Try.prog 13 [(gramS (srcOf t3)).V, vi 1001, .sl 1 false (w.map (V.int .i64))] (vi ((2 : Nat) : Int)) :=
  cnt_law ok3 h24 fun T hT => by
    have := round3 (okG_cnt ok3).2.1 hT hw n (by omega)
    rw [hw.1, show 2 * n = n + n by omega]; rw [Nat.sub_self] at this; exact this
theorem cnt_10 {w : List Int} (h24 : w.length ≤ 24) (hw : wsum (wgtS 3 4) w ≠ 0) : Pure Try.prog 13 [(gramS (srcOf t1)).V, vi 1001, .sl 1 false (w.map (V.int .i64))] (vi ((0 : Nat) : Int)) :=
  cnt_law ok1 h24 fun T hT => weigh hT (by rw [(okG_cnt ok1).2.1]; decide) hw
theorem cnt_20 {w : List Int} (h24 : w.length ≤ 24) (hw : wsum (wgtS 3 4) w ≠ 0) : Pure Try.prog 13 [(gramS (srcOf t2)).V, vi 1001, .sl 1 false (w.map (V.int .i64))] (vi ((0 : Nat) : Int)) :=
  cnt_law ok2 h24 fun T hT => weigh hT (by rw [(okG_cnt ok2).2.1]; decide) hw
theorem cnt_30 {w : List Int} (h24 : w.length ≤ 24) (hw : wsum (wgtS 3 4) w ≠ 0) : Pure Try.prog 13 [(gramS (srcOf t3)).V, vi 1001, .sl 1 false (w.map (V.int .i64))] (vi ((0 : Nat) : Int)) :=
  cnt_law ok3 h24 fun T hT => weigh hT (by rw [(okG_cnt ok3).2.1]; decide) hw
end Go.Proofs

set_option maxHeartbeats 4000000
set_option maxRecDepth 20000
namespace Go.Proofs
open Go.E

theorem er_mI {H : Nat → Option MObj} {id n : Nat} {w : List Int} {ro : Bool} (hH : H id = some (.own 1 (w.map (V.int .i64)) ro)) (hn : w.length = n) : Er true H (.msl id 1 0 n) (.sl 1 false (w.map (V.int .i64))) := by
  refine .msl id 1 0 n (w.map (V.int .i64)) ro _ rfl hH (by rw [List.length_map]; omega) (by rw [List.length_map]; exact hn) fun i c c' h1 h2 => ?_
  rw [Nat.zero_add, h2] at h1
  cases h1
  obtain ⟨x, _, rfl⟩ := List.mem_map.1 (List.mem_of_getElem? h2)
  exact .int _ _
theorem callQB3 {P : Program} [Glob P] {cls : Cls} {id : Nat} {s : St} {K : V → St → Prop} {f : FuncId} {x x' y y' z z' res : V} (hE : Er true s.H x x') (hE2 : Er true s.H y y') (hE3 : Er true s.H z z') (hp : Pure P f [x', y', z'] res) (hc : (cls == .r) = false) (hf : Flat res) (hk : K res s) : callQ P cls id s K f [x, y, z] :=
  Or.inl ⟨true, [x', y', z'], res, fun e => (by subst e; cases hc), ers_cons hE (ers_cons hE2 (ers_cons hE3 ers_nil)), hp, (fun _ => hf), hk⟩
theorem of_E : Pure Try.prog 16 [.sl 1 false [.str [101, 43, 101], .str [120]]] (gramS (srcOf tE)).V := of_closed (l := tE) (by decide) (by decide)
theorem of_L : Pure Try.prog 16 [.sl 1 false [.str [101, 43, 120], .str [120]]] (gramS (srcOf tL)).V := of_closed (l := tL) (by decide) (by decide)
theorem of_R : Pure Try.prog 16 [.sl 1 false [.str [120, 43, 101], .str [120]]] (gramS (srcOf tR)).V := of_closed (l := tR) (by decide) (by decide)
theorem of_1 : Pure Try.prog 16 [.sl 1 false [.str [40, 101, 41], .str []]] (gramS (srcOf t1)).V := of_closed (l := t1) (by decide) (by decide)
theorem of_2 : Pure Try.prog 16 [.sl 1 false [.str [40, 101, 41], .str [], .str [101]]] (gramS (srcOf t2)).V := of_closed (l := t2) (by decide) (by decide)
theorem of_3 : Pure Try.prog 16 [.sl 1 false [.str [40, 101, 41], .str [101, 101], .str []]] (gramS (srcOf t3)).V := of_closed (l := t3) (by decide) (by decide)
theorem wk1 : Pure Try.prog 13 [(gramS (srcOf tE)).V, vi 1001, .sl 1 false [vi 4, vi 3, vi 4, vi 3, vi 4]] (vi 2) := cnt_E (w := [4, 3, 4, 3, 4]) (n := 3) (by decide) ⟨rfl, by decide⟩ (by decide)
theorem wk2 : Pure Try.prog 13 [(gramS (srcOf tE)).V, vi 1001, .sl 1 false [vi 4, vi 3, vi 4]] (vi 1) := cnt_E (w := [4, 3, 4]) (n := 2) (by decide) ⟨rfl, by decide⟩ (by decide)
theorem wk3 : Pure Try.prog 13 [(gramS (srcOf tE)).V, vi 1001, .sl 1 false [vi 4, vi 4]] (vi 0) := cnt_E0 (w := [4, 4]) (by decide) (by decide)
theorem wk4 : Pure Try.prog 13 [(gramS (srcOf tE)).V, vi 4, .sl 1 false [vi 4]] (vi 1) := cnt_tok (w := [4]) okE (by decide) (by decide)
theorem wk5 : Pure Try.prog 13 [(gramS (srcOf tE)).V, vi 1001, .sl 1 false ((List.replicate 25 (0 : Int)).map (V.int .i64))] (vi (-1)) := cnt_long okE (by decide) (by decide) (by decide)
theorem wk6 : Pure Try.prog 13 [(gramS (srcOf tE)).V, vi 5, .sl 1 false [vi 5]] (vi 0) := cnt_none (w := [5]) okE (by decide) (by decide)
theorem rep25 : List.replicate 25 (V.int .i64 0) = (List.replicate 25 (0 : Int)).map (V.int .i64) := by rw [List.map_replicate]
theorem wakes_pure : Pure Try.prog 7 [] (.bool true) := by
  refine pure_intro Try.func7 e7_nm e7b_ok (by show 0 ≤ 38; decide) ?_
  show ewp _ e7bn5 _ _
  generalize hg : (gramS (srcOf tE)) = g
  have h0 := of_E; have h1 := wk1; have h2 := wk2; have h3 := wk3; have h4 := wk4; have h5 := wk5; have h6 := wk6
  rw [hg] at h0 h1 h2 h3 h4 h5 h6
  clear hg
  have hp : g.V.okCell = true := rfl
  repeat' with_reducible first
    | refine ewp_reg_seq ?_ | refine L_gdQ ?_ | refine gdQ_TT ?_
    | simp -implicitDefEqProofs only [wA, Nat.reduceEqDiff, ↓reduceIte, reduceCtorEq, Nat.reduceAdd, Int.cast_ofNat_Int, Int.reduceLT, Int.reduceLE, Int.reduceEq, Int.reduceToNat, decide_true, decide_false, Bool.false_eq_true, rep25]
    | (apply callQ1 (hp := h0); (focus (first | exact er_cl | exact er_sl)))
    | (apply callQ3 (hp := h1); (focus (first | exact er_cl | exact er_sl)); (focus (first | exact er_cl | exact er_sl)); (focus (first | exact er_cl | exact er_sl)))
    | (apply callQ3 (hp := h2); (focus (first | exact er_cl | exact er_sl)); (focus (first | exact er_cl | exact er_sl)); (focus (first | exact er_cl | exact er_sl)))
    | (apply callQ3 (hp := h3); (focus (first | exact er_cl | exact er_sl)); (focus (first | exact er_cl | exact er_sl)); (focus (first | exact er_cl | exact er_sl)))
    | (apply callQ3 (hp := h4); (focus (first | exact er_cl | exact er_sl)); (focus (first | exact er_cl | exact er_sl)); (focus (first | exact er_cl | exact er_sl)))
    | (apply fil_part; (focus with_unfolding_all rfl); (focus with_unfolding_all rfl); (focus with_unfolding_all rfl); (focus ((try simp -implicitDefEqProofs only [wY]); rfl)))
    | (apply ldQ_whole)
    | (apply stQ_whole; (focus with_unfolding_all rfl); (focus with_unfolding_all rfl))
    | (apply mkQ_T; (focus (first | assumption | omega | (simp only [wZ]; omega) | trivial)); (focus (first | assumption | omega | (simp only [wZ]; omega) | trivial)); (focus (unfold maxLen; first | omega | (simp only [wZ]; omega))))
  refine callQB3 (hp := h5) er_cl er_cl (er_mI (ro := false) ?_ rfl) rfl (Flat.int _ _) ?_
  · simp only [wM]
    repeat first | rw [if_pos trivial] | rw [if_pos rfl] | rw [if_neg (by omega)]
    rfl
  repeat' with_reducible first
    | refine ewp_ret ?_ | refine L_gdQ ?_ | refine gdQ_TT ?_
    | simp -implicitDefEqProofs only [wA, Nat.reduceEqDiff, ↓reduceIte, reduceCtorEq, Nat.reduceAdd, Int.cast_ofNat_Int, Int.reduceLT, Int.reduceLE, Int.reduceEq, Int.reduceToNat, decide_true, decide_false, Bool.false_eq_true, rep25]
    | (apply callQ3 (hp := h6); (focus (first | exact er_cl | exact er_sl)); (focus (first | exact er_cl | exact er_sl)); (focus (first | exact er_cl | exact er_sl)))
    | (apply ldQ_whole)
  all_goals refine post1 rfl (Or.inr rfl) ?_
  all_goals (try simp -implicitDefEqProofs only [wL, Nat.reduceEqDiff, ↓reduceIte, reduceCtorEq])
  all_goals (first | refine er_bool ?_ | refine er_int ?_ | refine er_str ?_ | refine er_sl_eq ?_ | refine er_asl_eq ?_)
  all_goals (try (with_reducible rfl))
end Go.Proofs


set_option maxHeartbeats 4000000
set_option maxRecDepth 20000
namespace Go.Proofs
open Go.E

/-- So many brackets and so many that close. -/
def rw34 (n m : Nat) : List Int := List.replicate n 3 ++ List.replicate m 4
theorem rw34_len (n m : Nat) : (rw34 n m).length = n + m := by simp [rw34]
theorem rw34_w {n : Nat} : RndW (rw34 n n) n := by
  refine ⟨by rw [rw34_len]; omega, fun k hk => ?_, fun k h1 h2 => ?_⟩
  · unfold rw34; rw [List.getElem?_append_left (by simpa using hk)]; simp [hk]
  · unfold rw34; rw [List.getElem?_append_right (by simpa using h1), List.length_replicate, List.getElem?_replicate, if_pos (by omega)]
theorem rw34_sum (n m : Nat) : wsum (wgtS 3 4) (rw34 n m) = (n : Int) - m := by
  have h : ∀ (k : Nat) (x : Int), (List.replicate k x).sum = k * x := by
    intro k x
    induction k with
    | zero => simp
    | succ k ih => rw [List.replicate_succ, List.sum_cons, ih]; rw [Int.natCast_succ, Int.add_mul]; omega
  unfold wsum rw34
  rw [List.map_append, List.sum_append, List.map_replicate, List.map_replicate, h, h]
  have e3 : wgtS 3 4 3 = 1 := by decide
  have e4 : wgtS 3 4 4 = -1 := by decide
  rw [e3, e4]; omega
theorem rw34_n (n m : Nat) : rw34 n (m + 1) = rw34 n m ++ [4] := by unfold rw34; rw [List.append_assoc, List.replicate_succ']
theorem rep3_n (n : Nat) : rw34 (n + 1) 0 = rw34 n 0 ++ [3] := by unfold rw34; rw [List.replicate_succ']; simp
/-- What the three grammars tell. -/
theorem rnd_1 (n m : Nat) (h : n + m ≤ 24) : Pure Try.prog 13 [(gramS (srcOf t1)).V, vi 1001, .sl 1 false ((rw34 n m).map (V.int .i64))] (vi (if n = m then 1 else 0)) := by
  by_cases e : n = m
  · subst e; rw [if_pos rfl]; exact cnt_1 rw34_w (by rw [rw34_len]; omega)
  · rw [if_neg e]; exact cnt_10 (by rw [rw34_len]; omega) (by rw [rw34_sum]; omega)
theorem rnd_2 (n m : Nat) (h : n + m ≤ 24) : Pure Try.prog 13 [(gramS (srcOf t2)).V, vi 1001, .sl 1 false ((rw34 n m).map (V.int .i64))] (vi (if n = m then 2 else 0)) := by
  by_cases e : n = m
  · subst e; rw [if_pos rfl]; exact cnt_2 rw34_w (by rw [rw34_len]; omega)
  · rw [if_neg e]; exact cnt_20 (by rw [rw34_len]; omega) (by rw [rw34_sum]; omega)
theorem rnd_3 (n m : Nat) (h : n + m ≤ 24) : Pure Try.prog 13 [(gramS (srcOf t3)).V, vi 1001, .sl 1 false ((rw34 n m).map (V.int .i64))] (vi (if n = m then 2 else 0)) := by
  by_cases e : n = m
  · subst e; rw [if_pos rfl]; exact cnt_3 rw34_w (by rw [rw34_len]; omega)
  · rw [if_neg e]; exact cnt_30 (by rw [rw34_len]; omega) (by rw [rw34_sum]; omega)

theorem yuccalaw14_ManyRounds {n more : Int}  : Pure Try.prog 5 [vi n, vi more] (.bool true) := by
  refine pure_intro Try.func5 e5_nm e5_ok (by show 2 ≤ 65; decide) ?_
  show ewp _ e5n52 _ _
  have hw := wakes_pure
  have w20 : IntKind.i64.wrap (2 * 0) = 0 := by decide
  have w21 : IntKind.i64.wrap (2 * 1) = 2 := by decide
  obtain ⟨a, ha⟩ : ∃ a : Nat, n % 12 = a := ⟨(n % 12).toNat, by omega⟩
  obtain ⟨b, hb⟩ : ∃ b : Nat, more % 3 = b := ⟨(more % 3).toNat, by omega⟩
  have ha2 : a < 12 := by omega
  have hb2 : b < 3 := by omega
  have hab : IntKind.i64.wrap ((a : Int) + (b : Int)) = ((a + b : Nat) : Int) := by rw [wrap64 (by omega) (by omega)]; omega
  have h2a : IntKind.i64.wrap (2 * (a : Int)) = ((2 * a : Nat) : Int) := by rw [wrap64 (by omega) (by omega)]; omega
  generalize hg1 : (gramS (srcOf t1)) = G1
  generalize hg2 : (gramS (srcOf t2)) = G2
  generalize hg3 : (gramS (srcOf t3)) = G3
  have o1 := of_1; have o2 := of_2; have o3 := of_3
  have r1 := rnd_1 a (a + b) (by omega); have r2 := rnd_2 a (a + b) (by omega); have r3 := rnd_3 a (a + b) (by omega)
  rw [hg1] at o1 r1; rw [hg2] at o2 r2; rw [hg3] at o3 r3
  clear hg1 hg2 hg3
  repeat' with_reducible first
    | refine ewp_reg_seq ?_ | refine ewp_seq ?_ | refine ewp_skip ?_ | refine ewp_block ?_ | refine xt_n ?_ | refine ewp_condQ ?_ | refine condQ_F ?_
    | simp -implicitDefEqProofs only [wA, Nat.reduceEqDiff, ↓reduceIte, reduceCtorEq, Nat.reduceAdd, Int.cast_ofNat_Int, Int.reduceLT, Int.reduceLE, Int.reduceEq, Int.reduceToNat, decide_true, decide_false, Bool.false_eq_true, ha, hb]
    | (apply callQ0 (hp := hw))
    | (apply callQ2 (hp := yuccaref0_Within ?_ ?_); (focus (first | exact er_intsL | exact er_cl | exact er_sl | exact er_asl)); (focus (first | exact er_intsL | exact er_cl | exact er_sl | exact er_asl)); rotate_left; (focus (first | assumption | omega | (simp only [wZ]; omega) | trivial)); (focus (first | assumption | omega | (simp only [wZ]; omega) | trivial)))
  refine ewp_loopN ?nx1 (fun (q : Nat) s => s.f 0 = ?v1_0 ∧ s.f 1 = ?v1_1 ∧ (∃ v, s.f 5 = v ∧ Gr s.H s.next 1 ((rw34 q 0).map (V.int .i64)) v) ∧ s.f 6 = vi q ∧ (q ≤ a)) (fun q => a - q) (0) (by simp -implicitDefEqProofs only [wN, Nat.reduceAdd, Nat.zero_add]; exact Nat.le_refl _) (by refine ⟨?_, ?_, ?_, ?_, (by first | omega | (simp; done) | assumption)⟩ <;> first | (simp -implicitDefEqProofs only [wL, wM, wN, wX, Nat.reduceEqDiff, ↓reduceIte, reduceCtorEq, Nat.reduceAdd, Option.some.injEq] <;> first | rfl | exact ⟨_, rfl⟩ | exact ⟨_, rfl, by first | assumption | exact Gr.nil | exact Gr.tok rfl (by omega) | exact Gr.tok (by simp -implicitDefEqProofs only [wM, Nat.reduceEqDiff, ↓reduceIte, reduceCtorEq] <;> rfl) (by omega) | exact Gr.clip⟩) | rfl | exact ⟨_, rfl⟩) ?_
  intro q s hnx ⟨g0, g1, ⟨v5, g5, G5⟩, g6, k1_0⟩
  have hz1 : IntKind.i64.wrap ((q + 1 : Nat) : Int) = ((q + 1 : Nat) : Int) := wrap64 (by omega) (by omega)
  have hlen : (rw34 q 0).length = q := rw34_len q 0
  by_cases hq : q < a
  · repeat' with_reducible first
      | refine ewp_reg_seq ?_ | refine ewp_seq ?_ | refine ewp_reg ?_ | refine ewp_skip ?_ | refine ewp_block ?_ | refine xt_n ?_ | refine xb_n ?_ | refine ewp_condQ ?_
      | simp -implicitDefEqProofs only [wA, Nat.reduceEqDiff, ↓reduceIte, reduceCtorEq, Nat.reduceAdd, Int.cast_ofNat_Int, Int.reduceLT, Int.reduceLE, Int.reduceEq, Int.reduceToNat, decide_true, decide_false, Bool.false_eq_true, g0, g1, g5, g6, hz1, hlen, G5.len]
      | (refine condQ_i (fun h => ?_) (fun h => ?_) <;> have h_ := h <;> (try simp only [wD, reduceCtorEq] at h_) <;> (try (exfalso; first | omega | exact bf h_ (by assumption) | exact bt h_ (by assumption) | (refine absurd ?_ h_; focus assumption) | (refine absurd h_ ?_; focus assumption))) <;> (try simp only [h]))
      | (apply appQ_G (hg := G5); (focus (first | rfl | (simp -implicitDefEqProofs only [wM]; done))); (focus (first | exact SrcN.sl | exact SrcN.asl | exact SrcN.gr G5 | exact SrcN.str)); (focus (first | assumption | omega | (simp only [wZ]; omega) | trivial)); (focus (unfold maxLen; first | omega | (simp only [wZ]; omega))))
    refine ⟨(by first | assumption | omega | (simp -implicitDefEqProofs only [wN]; omega)), q + 1, (by omega), ?_⟩
    refine ⟨?_, ?_, ?_, ?_, ?_⟩
    iterate 4 (focus (first | (simp -implicitDefEqProofs only [wL, wM, wN, wX, Nat.reduceEqDiff, ↓reduceIte, reduceCtorEq, Nat.reduceAdd, Option.some.injEq, g0, g1, g5, g6, rep3_n] <;> first | rfl | exact ⟨_, rfl⟩ | exact ⟨_, rfl, by first | assumption | exact Gr.nil | exact Gr.tok rfl (by omega) | exact Gr.tok (by simp -implicitDefEqProofs only [wM, Nat.reduceEqDiff, ↓reduceIte, reduceCtorEq] <;> rfl) (by omega) | exact Gr.clip | exact G5.to (by first | rfl | (simp [*]; done)) (by omega) rfl⟩) | rfl | exact ⟨_, rfl⟩))
    all_goals try omega
  · have e : q = a := by omega
    subst e
    repeat' with_reducible first
      | refine ewp_reg_seq ?_ | refine ewp_seq ?_ | refine ewp_block ?_ | refine ewp_exit ?_ | refine xt_n ?_ | refine xt_e ?_ | refine xb_e ?_ | refine ewp_condQ ?_ | refine condQ_F ?_
      | simp -implicitDefEqProofs only [wA, Nat.reduceEqDiff, ↓reduceIte, reduceCtorEq, Nat.reduceAdd, Int.cast_ofNat_Int, Int.reduceLT, Int.reduceLE, Int.reduceEq, Int.reduceToNat, decide_true, decide_false, Bool.false_eq_true, g0, g1, g5, g6, ha, hb, hz1, G5.len]
    refine ewp_loopN ?nx2 (fun (r : Nat) s => s.f 0 = ?v2_0 ∧ s.f 1 = ?v2_1 ∧ (∃ v, s.f 5 = v ∧ Gr s.H s.next 1 ((rw34 q r).map (V.int .i64)) v) ∧ s.f 7 = vi r ∧ (r ≤ q + b)) (fun r => q + b - r) (0) (by simp -implicitDefEqProofs only [wN, Nat.reduceAdd, Nat.zero_add]; exact Nat.le_refl _) (by refine ⟨?_, ?_, ?_, ?_, (by first | omega | (simp; done) | assumption)⟩ <;> first | (simp -implicitDefEqProofs only [wL, wM, wN, wX, Nat.reduceEqDiff, ↓reduceIte, reduceCtorEq, Nat.reduceAdd, Option.some.injEq, g0, g1, g5, g6] <;> first | rfl | exact ⟨_, rfl⟩ | exact ⟨_, rfl, by first | assumption | exact Gr.nil | exact Gr.tok rfl (by omega) | exact Gr.tok (by simp -implicitDefEqProofs only [wM, Nat.reduceEqDiff, ↓reduceIte, reduceCtorEq] <;> rfl) (by omega) | exact Gr.clip | exact G5.to (by first | rfl | (simp [*]; done)) (by omega) rfl⟩) | rfl | exact ⟨_, rfl⟩) ?_
    intro r s hnx ⟨g0, g1, ⟨v5, g5, G5⟩, g7, k2_0⟩
    have hz2 : IntKind.i64.wrap ((r + 1 : Nat) : Int) = ((r + 1 : Nat) : Int) := wrap64 (by omega) (by omega)
    have hlen2 := rw34_len q r
    by_cases hr : r < q + b
    · repeat' with_reducible first
        | refine ewp_reg_seq ?_ | refine ewp_seq ?_ | refine ewp_reg ?_ | refine ewp_skip ?_ | refine ewp_block ?_ | refine xt_n ?_ | refine xb_n ?_ | refine ewp_condQ ?_ | refine L_gdQ ?_ | refine gdQ_TT ?_
        | simp -implicitDefEqProofs only [wA, Nat.reduceEqDiff, ↓reduceIte, reduceCtorEq, Nat.reduceAdd, Int.cast_ofNat_Int, Int.reduceLT, Int.reduceLE, Int.reduceEq, Int.reduceToNat, decide_true, decide_false, Bool.false_eq_true, g0, g1, g5, g7, hab, hz2, hlen2, G5.len]
        | (refine condQ_i (fun h => ?_) (fun h => ?_) <;> have h_ := h <;> (try simp only [wD, reduceCtorEq] at h_) <;> (try (exfalso; first | omega | exact bf h_ (by assumption) | exact bt h_ (by assumption) | (refine absurd ?_ h_; focus assumption) | (refine absurd h_ ?_; focus assumption))) <;> (try simp only [h]))
        | ((first | refine gdQ_iT (fun h => ?_) (fun h => ?_) | refine gdQ_iF (fun h => ?_) (fun h => ?_)) <;> have h_ := h <;> (try simp only [wD, reduceCtorEq] at h_) <;> (try (exfalso; first | omega | exact bf h_ (by assumption) | exact bt h_ (by assumption) | (refine absurd ?_ h_; focus assumption) | (refine absurd h_ ?_; focus assumption))) <;> (try simp only [h]))
        | (apply appQ_G (hg := G5); (focus (first | rfl | (simp -implicitDefEqProofs only [wM]; done))); (focus (first | exact SrcN.sl | exact SrcN.asl | exact SrcN.gr G5 | exact SrcN.str)); (focus (first | assumption | omega | (simp only [wZ]; omega) | trivial)); (focus (unfold maxLen; first | omega | (simp only [wZ]; omega))))
      refine ⟨(by first | assumption | omega | (simp -implicitDefEqProofs only [wN]; omega)), r + 1, (by omega), ?_⟩
      refine ⟨?_, ?_, ?_, ?_, ?_⟩
      iterate 4 (focus (first | (simp -implicitDefEqProofs only [wL, wM, wN, wX, Nat.reduceEqDiff, ↓reduceIte, reduceCtorEq, Nat.reduceAdd, Option.some.injEq, g0, g1, g5, g7, rw34_n] <;> first | rfl | exact ⟨_, rfl⟩ | exact ⟨_, rfl, by first | assumption | exact Gr.nil | exact Gr.tok rfl (by omega) | exact Gr.tok (by simp -implicitDefEqProofs only [wM, Nat.reduceEqDiff, ↓reduceIte, reduceCtorEq] <;> rfl) (by omega) | exact Gr.clip | exact G5.to (by first | rfl | (simp [*]; done)) (by omega) rfl⟩) | rfl | exact ⟨_, rfl⟩))
      all_goals try omega
    · have e2 : r = q + b := by omega
      subst e2
      by_cases hb0 : b = 0
      · rw [if_pos (by omega)] at r1 r2 r3
        repeat' with_reducible first
          | refine ewp_reg_seq ?_ | refine ewp_seq ?_ | refine ewp_reg ?_ | refine ewp_skip ?_ | refine ewp_ret ?_ | refine ewp_exit ?_ | refine xt_n ?_ | refine xt_e ?_ | refine xb_e ?_ | refine ewp_condQ ?_ | refine condQ_F ?_ | refine L_gdQ ?_ | refine gdQ_TT ?_ | refine gdQ_FT ?_
          | simp -implicitDefEqProofs only [wA, Nat.reduceEqDiff, ↓reduceIte, reduceCtorEq, Nat.reduceAdd, Int.cast_ofNat_Int, Int.reduceLT, Int.reduceLE, Int.reduceEq, Int.reduceToNat, decide_true, decide_false, Bool.false_eq_true, g0, g1, g5, g7, hab, hz2, hlen2, h2a, w20, w21, G5.len]
          | (refine condQ_i (fun h => ?_) (fun h => ?_) <;> have h_ := h <;> (try simp only [wD, reduceCtorEq] at h_) <;> (try (exfalso; first | omega | exact bf h_ (by assumption) | exact bt h_ (by assumption) | (refine absurd ?_ h_; focus assumption) | (refine absurd h_ ?_; focus assumption))) <;> (try simp only [h]))
          | (apply callQ1 (hp := o1); (focus (first | exact er_cl | exact er_sl)))
          | (apply callQ1 (hp := o2); (focus (first | exact er_cl | exact er_sl)))
          | (apply callQ1 (hp := o3); (focus (first | exact er_cl | exact er_sl)))
          | (apply callQ3 (hp := r1); (focus exact er_cl); (focus exact er_cl); (focus exact G5.er rfl))
          | (apply callQ3 (hp := r2); (focus exact er_cl); (focus exact er_cl); (focus exact G5.er rfl))
          | (apply callQ3 (hp := r3); (focus exact er_cl); (focus exact er_cl); (focus exact G5.er rfl))
          | (apply fil_part; (focus with_unfolding_all rfl); (focus with_unfolding_all rfl); (focus with_unfolding_all rfl); (focus ((try simp -implicitDefEqProofs only [wY]); rfl)))
        all_goals refine post1 rfl (Or.inr rfl) ?_
        all_goals (try simp -implicitDefEqProofs only [wL, Nat.reduceEqDiff, ↓reduceIte, reduceCtorEq, g0, g1, g5, g7])
        all_goals (first | refine er_bool ?_ | refine er_int ?_ | refine er_str ?_ | refine er_sl_eq ?_ | refine er_asl_eq ?_ | refine G5.er ?_)
        all_goals (try (with_reducible rfl))
      · rw [if_neg (by omega)] at r1 r2 r3
        repeat' with_reducible first
          | refine ewp_reg_seq ?_ | refine ewp_seq ?_ | refine ewp_skip ?_ | refine ewp_ret ?_ | refine ewp_exit ?_ | refine xt_n ?_ | refine xt_e ?_ | refine xb_e ?_ | refine ewp_condQ ?_ | refine condQ_F ?_ | refine L_gdQ ?_ | refine gdQ_TT ?_ | refine gdQ_FT ?_
          | simp -implicitDefEqProofs only [wA, Nat.reduceEqDiff, ↓reduceIte, reduceCtorEq, Nat.reduceAdd, Int.cast_ofNat_Int, Int.reduceLT, Int.reduceLE, Int.reduceEq, Int.reduceToNat, decide_true, decide_false, Bool.false_eq_true, g0, g1, g5, g7, hab, hz2, hlen2, h2a, w20, w21, G5.len]
          | (refine condQ_i (fun h => ?_) (fun h => ?_) <;> have h_ := h <;> (try simp only [wD, reduceCtorEq] at h_) <;> (try (exfalso; first | omega | exact bf h_ (by assumption) | exact bt h_ (by assumption) | (refine absurd ?_ h_; focus assumption) | (refine absurd h_ ?_; focus assumption))) <;> (try simp only [h]))
          | (apply callQ1 (hp := o1); (focus (first | exact er_cl | exact er_sl)))
          | (apply callQ1 (hp := o2); (focus (first | exact er_cl | exact er_sl)))
          | (apply callQ1 (hp := o3); (focus (first | exact er_cl | exact er_sl)))
          | (apply callQ3 (hp := r1); (focus exact er_cl); (focus exact er_cl); (focus exact G5.er rfl))
          | (apply callQ3 (hp := r2); (focus exact er_cl); (focus exact er_cl); (focus exact G5.er rfl))
          | (apply callQ3 (hp := r3); (focus exact er_cl); (focus exact er_cl); (focus exact G5.er rfl))
          | (apply fil_part; (focus with_unfolding_all rfl); (focus with_unfolding_all rfl); (focus with_unfolding_all rfl); (focus ((try simp -implicitDefEqProofs only [wY]); rfl)))
        all_goals refine post1 rfl (Or.inr rfl) ?_
        all_goals (try simp -implicitDefEqProofs only [wL, Nat.reduceEqDiff, ↓reduceIte, reduceCtorEq, g0, g1, g5, g7])
        all_goals (first | refine er_bool ?_ | refine er_int ?_ | refine er_str ?_ | refine er_sl_eq ?_ | refine er_asl_eq ?_ | refine G5.er ?_)
        all_goals (try (with_reducible rfl))
end Go.Proofs
