/- Part of a proof that a law of the given program answers true. -/
import Derived.Test.YtpnfbnlhjdnnpaaWHE
import Derived.Test.YtpnfbnlhjdnnpaaWPG
set_option linter.unusedSimpArgs false
set_option linter.unusedVariables false
namespace Go.Proofs
open Go.E
abbrev sumL (T : Tbl) (w : List Int) (i j : Nat) (S : Nat → Nat) (p : Int × List Int) : Nat → Nat := upd S p.1.toNat (min 2 (S p.1.toNat + waysN T w p.2 i j))
theorem sumP_lr (T : Tbl) (l : List GPr) (w : List Int) (i j : Nat) : sumP T l w i j = (l.map fun p => (p.left, p.right)).foldl (sumL T w i j) (fun _ => 0) := by
 unfold sumP
 rw [List.foldl_map]
def sides (g : Grammar) : List (Int × List Int) := g.prods.map fun p => (p.left, p.right)
theorem IsCount.eq {g : Grammar} {nn : Nat} {w : List Int} {T : Tbl} (h : IsCount g nn w T) {k i j : Nat} (hk : k < nn) (hi : i ≤ j) (hj : j ≤ w.length) : T k i j = (sides g).foldl (sumL T w i j) (fun _ => 0) k := by
 rw [← h.fix k i j hk hi hj, sumP_lr]; rfl
theorem sumN_one {f : Nat → Nat} {n a : Nat} (ha : a < n) (h : ∀ b, b < n → b ≠ a → f b = 0) : sumN f n = f a := by
 induction n with
 | zero => omega
 | succ n ih =>
   unfold sumN
   by_cases e : a = n
   · subst e; rw [sumN_zero fun b hb => h b (by omega) (by omega)]; omega
   · rw [ih (by omega) fun b hb hn => h b (by omega) hn, h n (by omega) (fun e2 => e e2.symm)]; omega
theorem sumN_ge {f : Nat → Nat} {n a : Nat} (ha : a < n) : f a ≤ sumN f n := by
 induction n with
 | zero => omega
 | succ n ih =>
   unfold sumN
   by_cases e : a = n
   · subst e; omega
   · have := ih (by omega); omega
theorem sumN_ge2 {f : Nat → Nat} {n a b : Nat} (hab : a < b) (hb : b < n) : f a + f b ≤ sumN f n := by
 induction n with
 | zero => omega
 | succ n ih =>
   unfold sumN
   by_cases e : b = n
   · subst e; have := sumN_ge (f := f) hab; omega
   · have := ih (by omega); omega
def ind (i c : Nat) : Nat → Nat := fun b => if b = i then c else 0
theorem ind_self (i c : Nat) : ind i c i = c := by simp [ind]
theorem ind_ne {i c b : Nat} (h : b ≠ i) : ind i c b = 0 := by simp [ind, h]
theorem waysN_def (T : Tbl) (w : List Int) (l : List Int) (i j : Nat) : waysN T w l i j = l.foldl (fun v s => stepN T w s v) (ind i 1) j := rfl
theorem step_tok (T : Tbl) (w : List Int) {t : Int} (v : Nat → Nat) (ht : t < 1000) (b : Nat) : stepN T w t v b = if 0 < b ∧ w[b - 1]? = some t then v (b - 1) else 0 := by
 unfold stepN; rw [if_pos ht]
theorem step_non (T : Tbl) (w : List Int) (v : Nat → Nat) (b : Nat) : stepN T w 1001 v b = min 2 (sumN (fun a => v a * T 1 a b) (b + 1)) := by
 unfold stepN; rw [if_neg (by omega)]; rfl
theorem tok_ind0 {T : Tbl} {w : List Int} {t : Int} {i c : Nat} (ht : t < 1000) (b : Nat) (hb : b ≠ i + 1) : stepN T w t (ind i c) b = 0 := by
 rw [step_tok T w _ ht]; split
 · exact ind_ne (by omega)
 · rfl
theorem non_ind {T : Tbl} {w : List Int} {i c b : Nat} (hb : i ≤ b) : stepN T w 1001 (ind i c) b = min 2 (c * T 1 i b) := by
 rw [step_non, sumN_one (a := i) (by omega) (fun a ha hn => by rw [ind_ne hn, Nat.zero_mul]), ind_self]
def AltW (w : List Int) (n : Nat) (x p : Int) : Prop := w.length = 2 * n - 1 ∧ ∀ k, k < 2 * n - 1 → w[k]? = some (if k % 2 = 0 then x else p)
theorem AltW.x {w : List Int} {n : Nat} {x p : Int} (h : AltW w n x p) {k : Nat} (hk : k < n) : w[2 * k]? = some x := by
 rw [h.2 (2 * k) (by omega), if_pos (by omega)]
theorem AltW.p {w : List Int} {n : Nat} {x p : Int} (h : AltW w n x p) {k : Nat} (hk : k + 1 < n) : w[2 * k + 1]? = some p := by
 rw [h.2 (2 * k + 1) (by omega), if_neg (by omega)]
abbrev gE : List (Int × List Int) := [(0, [1001]), (1, [1001, 3, 1001]), (1, [4])]
abbrev gR : List (Int × List Int) := [(0, [1001]), (1, [3, 4, 1001]), (1, [3])]
abbrev g1 : List (Int × List Int) := [(0, [1001]), (1, [3, 1001, 4]), (1, [])]
abbrev g2 : List (Int × List Int) := [(0, [1001]), (1, [3, 1001, 4]), (1, []), (1, [1001])]
abbrev g3 : List (Int × List Int) := [(0, [1001]), (1, [3, 1001, 4]), (1, [1001, 1001]), (1, [])]
theorem eq2 (T : Tbl) (w : List Int) (i j : Nat) (a b : List Int) : List.foldl (sumL T w i j) (fun _ => 0) [(0, [1001]), (1, a), (1, b)] 1 = min 2 (min 2 (waysN T w a i j) + waysN T w b i j) := by
 simp [List.foldl, sumL, upd]
theorem ways_t {T : Tbl} {w : List Int} {t : Int} {i j : Nat} (ht : t < 1000) : waysN T w [t] i j = if j = i + 1 ∧ w[i]? = some t then 1 else 0 := by
 rw [waysN_def]
 show stepN T w t (ind i 1) j = _
 by_cases hj : j = i + 1
 · subst hj
   rw [step_tok T w _ ht, Nat.add_sub_cancel, ind_self]
   by_cases h : w[i]? = some t
   · rw [if_pos ⟨by omega, h⟩, if_pos ⟨rfl, h⟩]
   · rw [if_neg (fun e => h e.2), if_neg (fun e => h e.2)]
 · rw [tok_ind0 ht j hj, if_neg (fun e => hj e.1)]
theorem both_many {g : Grammar} {w : List Int} {T : Tbl} {n : Nat} (hs : sides g = gE) (hT : IsCount g 2 w T) (hw : AltW w n 4 3) : ∀ m p, p + m < n → T 1 (2 * p) (2 * p + 2 * m + 1) = if m < 2 then 1 else 2 := by
 intro m
 induction m using Nat.strongRecOn with
 | ind m ih =>
   intro p hp
   have hl := hw.1
   rw [hT.eq (by omega) (by omega) (by omega), hs, eq2, ways_t (by omega)]
   have hv : ∀ a, a < 2 * p + 2 * m + 2 → stepN T w 3 (stepN T w 1001 (ind (2 * p) 1)) a = if 2 * p < a ∧ a % 2 = 0 then (if (a - 2 * p) / 2 - 1 < 2 ∧ (a - 2 * p) / 2 - 1 < m then 1 else min 2 (T 1 (2 * p) (a - 1))) else 0 := by
    intro a ha
    rw [step_tok T w _ (by omega)]
    by_cases h0 : 0 < a
    · rw [hw.2 (a - 1) (by omega)]
      by_cases h2 : a % 2 = 0
      · rw [if_pos ⟨h0, by rw [if_neg (by omega)]⟩]
        by_cases h3 : 2 * p < a
        · rw [if_pos ⟨h3, h2⟩, non_ind (by omega), Nat.one_mul]
          split
          · rename_i hc
            have := ih ((a - 2 * p) / 2 - 1) hc.2 p (by omega)
            rw [show 2 * p + 2 * ((a - 2 * p) / 2 - 1) + 1 = a - 1 by omega] at this
            rw [this, if_pos hc.1]; rfl
          · rfl
        · rw [if_neg (fun e => h3 e.1), step_non, sumN_zero fun b hb => by rw [ind_ne (by omega), Nat.zero_mul]]; rfl
      · rw [if_neg (by rw [if_pos (by omega)]; rintro ⟨_, e⟩; cases e), if_neg (fun e => h2 e.2)]
    · rw [if_neg (fun e => h0 e.1), if_neg (by omega)]
   have hwy : waysN T w [1001, 3, 1001] (2 * p) (2 * p + 2 * m + 1) = min 2 (sumN (fun a => stepN T w 3 (stepN T w 1001 (ind (2 * p) 1)) a * T 1 a (2 * p + 2 * m + 1)) (2 * p + 2 * m + 1 + 1)) := by
    show stepN T w 1001 (stepN T w 3 (stepN T w 1001 (ind (2 * p) 1))) (2 * p + 2 * m + 1) = _
    rw [step_non]
   rw [hwy]
   by_cases h0 : m = 0
   · subst h0
     rw [if_pos ⟨by omega, hw.x (by omega)⟩, sumN_zero fun a ha => ?_]
     · rfl
     · rw [hv a (by omega), if_neg (by omega), Nat.zero_mul]
   · rw [if_neg (by omega)]
     by_cases h1 : m = 1
     · subst h1
       have hx : T 1 (2 * (p + 1)) (2 * (p + 1) + 1) = 1 := ih 0 (by omega) (p + 1) (by omega)
       rw [sumN_one (a := 2 * p + 2) (by omega) fun b hb hn => ?_]
       · rw [hv (2 * p + 2) (by omega), if_pos ⟨by omega, by omega⟩, if_pos ⟨by omega, by omega⟩, show 2 * p + 2 = 2 * (p + 1) by omega, hx]
         rfl
       · rw [hv b (by omega), if_neg (by omega), Nat.zero_mul]
     · have hx := ih (m - 1) (by omega) (p + 1) (by omega)
       have hy := ih (m - 2) (by omega) (p + 2) (by omega)
       rw [show 2 * (p + 1) + 2 * (m - 1) + 1 = 2 * p + 2 * m + 1 by omega] at hx
       rw [show 2 * (p + 2) + 2 * (m - 2) + 1 = 2 * p + 2 * m + 1 by omega] at hy
       have hg := sumN_ge2 (f := fun a => stepN T w 3 (stepN T w 1001 (ind (2 * p) 1)) a * T 1 a (2 * p + 2 * m + 1)) (n := 2 * p + 2 * m + 1 + 1) (a := 2 * (p + 1)) (b := 2 * (p + 2)) (by omega) (by omega)
       rw [hv (2 * (p + 1)) (by omega), if_pos ⟨by omega, by omega⟩, if_pos ⟨by omega, by omega⟩, hv (2 * (p + 2)) (by omega), if_pos ⟨by omega, by omega⟩, if_pos ⟨by omega, by omega⟩, hx, hy] at hg
       have e1 : 1 ≤ (if m - 1 < 2 then 1 else 2) := by split <;> omega
       have e2 : 1 ≤ (if m - 2 < 2 then 1 else 2) := by split <;> omega
       rw [if_neg (by omega)]
       omega

def wsum (f : Int → Int) (l : List Int) : Int := (l.map f).sum
theorem wsum_take {f : Int → Int} {w : List Int} {b : Nat} {t : Int} (h : w[b]? = some t) : wsum f (w.take (b + 1)) = wsum f (w.take b) + f t := by
 unfold wsum
 rw [List.take_add_one, h]
 simp
def tabW (f : Int → Int) (c : Int) (w : List Int) : Tbl := fun k i j => if k = 0 then 2 else if wsum f (w.take j) - wsum f (w.take i) = c then 2 else 0
def symW (f : Int → Int) (c s : Int) : Int := if s < 1000 then f s else c
theorem ways_w {f : Int → Int} {c : Int} {w : List Int} {i : Nat} : ∀ (l : List Int) (v : Nat → Nat) (acc : Int), (∀ s ∈ l, s < 1000 ∨ s = 1001) → (∀ b, v b ≠ 0 → wsum f (w.take b) - wsum f (w.take i) = acc) →
 ∀ b, l.foldl (fun v s => stepN (tabW f c w) w s v) v b ≠ 0 → wsum f (w.take b) - wsum f (w.take i) = acc + (l.map (symW f c)).sum := by
 intro l
 induction l with
 | nil => intro v acc _ h b hb; rw [h b hb]; simp
 | cons s r ih =>
   intro v acc hl h b hb
   have := ih (stepN (tabW f c w) w s v) (acc + symW f c s) (fun x hx => hl x (List.mem_cons_of_mem _ hx)) (fun b hb => ?_) b hb
   · rw [this, List.map_cons, List.sum_cons]; omega
   · rcases hl s (by simp) with hs | rfl
     · rw [step_tok _ _ _ hs] at hb
       by_cases hc : 0 < b ∧ w[b - 1]? = some s
       · rw [if_pos hc] at hb
         have h1 := h _ hb
         have h2 := wsum_take (f := f) hc.2
         rw [show b - 1 + 1 = b by omega] at h2
         unfold symW; rw [if_pos hs]; omega
       · rw [if_neg hc] at hb; exact absurd rfl hb
     · rw [step_non] at hb
       have : ∃ a, a < b + 1 ∧ v a * tabW f c w 1 a b ≠ 0 := by
        refine Classical.byContradiction fun hn => hb ?_
        rw [sumN_zero fun a ha => Classical.byContradiction fun hz => hn ⟨a, ha, hz⟩]; rfl
       obtain ⟨a, ha, hz⟩ := this
       have hv : v a ≠ 0 := fun e => hz (by rw [e, Nat.zero_mul])
       have ht : tabW f c w 1 a b ≠ 0 := fun e => hz (by rw [e, Nat.mul_zero])
       have h1 := h a hv
       unfold tabW at ht
       rw [if_neg (by omega)] at ht
       by_cases hc : wsum f (w.take b) - wsum f (w.take a) = c
       · unfold symW; rw [if_neg (by omega)]; omega
       · rw [if_neg hc] at ht; exact absurd rfl ht
theorem weigh {g : Grammar} {w : List Int} {T : Tbl} {f : Int → Int} {c : Int} (hT : IsCount g 2 w T) (hs : ∀ p ∈ sides g, (∀ s ∈ p.2, s < 1000 ∨ s = 1001) ∧ (p.1 = 0 ∨ p.1 = 1 ∧ (p.2.map (symW f c)).sum = c)) (hw : wsum f w ≠ c) : T 1 0 w.length = 0 := by
 have hp : PreT g 2 w (tabW f c w) := by
  intro k i j hk hi hj
  by_cases h0 : k = 0
  · subst h0; exact sumP_le _ _ _ _ _ _
  · have h1 : k = 1 := by omega
    subst h1
    by_cases hc : wsum f (w.take j) - wsum f (w.take i) = c
    · have e : tabW f c w 1 i j = 2 := by unfold tabW; rw [if_neg (by omega), if_pos hc]
      rw [e]; exact sumP_le _ _ _ _ _ _
    · have e : sumP (tabW f c w) g.prods w i j 1 = 0 := by
       rw [sumP_lr]
       show (sides g).foldl (sumL (tabW f c w) w i j) (fun _ => 0) 1 = 0
       generalize sides g = l at hs
       have gen : ∀ (l : List (Int × List Int)) (S : Nat → Nat), (∀ p ∈ l, (∀ s ∈ p.2, s < 1000 ∨ s = 1001) ∧ (p.1 = 0 ∨ p.1 = 1 ∧ (p.2.map (symW f c)).sum = c)) → S 1 = 0 → l.foldl (sumL (tabW f c w) w i j) S 1 = 0 := by
        intro l
        induction l with
        | nil => intro S _ h; exact h
        | cons p r ih =>
          intro S hl h
          refine ih _ (fun q hq => hl q (List.mem_cons_of_mem _ hq)) ?_
          obtain ⟨h1, h2⟩ := hl p (by simp)
          rcases h2 with h2 | ⟨h2, h3⟩
          · unfold sumL upd; rw [if_neg (by rw [h2]; decide)]; exact h
          · have hw0 : waysN (tabW f c w) w p.2 i j = 0 := by
             refine Classical.byContradiction fun hne => hc ?_
             have := ways_w (f := f) (c := c) (w := w) (i := i) p.2 (ind i 1) 0 h1 (fun b hb => ?_) j hne
             · rw [this, h3]; omega
             · by_cases e : b = i
               · subst e; omega
               · exact absurd (ind_ne e) hb
            unfold sumL upd; rw [if_pos (by rw [h2]; rfl), hw0, h2]
            show min 2 (S (1 : Int).toNat + 0) = 0
            rw [show (1 : Int).toNat = 1 from rfl, h]; rfl
       exact gen l _ hs rfl
      rw [e]; exact Nat.zero_le _
 have := hT.min _ hp 1 0 w.length (by omega) (by omega) (by omega)
 have e : tabW f c w 1 0 w.length = 0 := by
  unfold tabW
  rw [if_neg (by omega), if_neg]
  rw [List.take_length]
  show ¬ (wsum f w - wsum f [] = c)
  unfold wsum at *
  simpa using hw
 omega

@[reducible] def e7br2 : List Ins := [
 ⟨(some 4), none, .load true 5 (.t 1), .r⟩,
 ⟨(some 5), none, .lit false 1 false (.int .i64 0) 5 [(0, (.c (.int .i64 4))), (1, (.c (.int .i64 3))), (2, (.c (.int .i64 4))), (3, (.c (.int .i64 3))), (4, (.c (.int .i64 4)))], .n⟩,
 ⟨(some 6), none, .call (.c (.fn 13 [])) [(.t 4), (.c (.int .i64 1001)), (.t 5)], .r⟩,
 ⟨(some 7), none, .bin .eql (.t 6) (.c (.int .i64 2)), .n⟩,
 ⟨(some 8), none, .mov (.t 7), .n⟩,
 ⟨(some 9), (some (8, true)), .load true 5 (.t 1), .r⟩,
 ⟨(some 10), (some (8, true)), .lit false 1 false (.int .i64 0) 3 [(0, (.c (.int .i64 4))), (1, (.c (.int .i64 3))), (2, (.c (.int .i64 4)))], .n⟩,
 ⟨(some 11), (some (8, true)), .call (.c (.fn 13 [])) [(.t 9), (.c (.int .i64 1001)), (.t 10)], .r⟩,
 ⟨(some 12), (some (8, true)), .bin .eql (.t 11) (.c (.int .i64 1)), .n⟩,
 ⟨(some 13), none, .pick (.t 8) (.t 12) (.c (.bool false)), .n⟩,
 ⟨(some 14), none, .mov (.t 13), .n⟩,
 ⟨(some 15), (some (14, true)), .load true 5 (.t 1), .r⟩,
 ⟨(some 16), (some (14, true)), .lit false 1 false (.int .i64 0) 2 [(0, (.c (.int .i64 4))), (1, (.c (.int .i64 4)))], .n⟩,
 ⟨(some 17), (some (14, true)), .call (.c (.fn 13 [])) [(.t 15), (.c (.int .i64 1001)), (.t 16)], .r⟩,
 ⟨(some 18), (some (14, true)), .bin .eql (.t 17) (.c (.int .i64 0)), .n⟩,
 ⟨(some 19), none, .pick (.t 14) (.t 18) (.c (.bool false)), .n⟩,
 ⟨(some 20), none, .mov (.t 19), .n⟩,
 ⟨(some 21), (some (20, true)), .load true 5 (.t 1), .r⟩,
 ⟨(some 22), (some (20, true)), .lit false 1 false (.int .i64 0) 1 [(0, (.c (.int .i64 4)))], .n⟩,
 ⟨(some 23), (some (20, true)), .call (.c (.fn 13 [])) [(.t 21), (.c (.int .i64 4)), (.t 22)], .r⟩,
 ⟨(some 24), (some (20, true)), .bin .eql (.t 23) (.c (.int .i64 1)), .n⟩,
 ⟨(some 25), none, .pick (.t 20) (.t 24) (.c (.bool false)), .n⟩,
 ⟨(some 26), none, .mov (.t 25), .n⟩,
 ⟨(some 27), (some (26, true)), .load true 5 (.t 1), .r⟩,
 ⟨(some 28), (some (26, true)), .mksl true 1 8 (.int .i64 0) (.c (.int .i64 25)) (.c (.int .i64 25)), .a⟩,
 ⟨(some 29), (some (26, true)), .call (.c (.fn 13 [])) [(.t 27), (.c (.int .i64 1001)), (.t 28)], .b⟩,
 ⟨(some 30), (some (26, true)), .bin .eql (.t 29) (.c (.int .i64 (-1))), .n⟩,
 ⟨(some 31), none, .pick (.t 26) (.t 30) (.c (.bool false)), .n⟩,
 ⟨(some 32), none, .mov (.t 31), .n⟩,
 ⟨(some 33), (some (32, true)), .load true 5 (.t 1), .r⟩,
 ⟨(some 34), (some (32, true)), .lit false 1 false (.int .i64 0) 1 [(0, (.c (.int .i64 5)))], .n⟩,
 ⟨(some 35), (some (32, true)), .call (.c (.fn 13 [])) [(.t 33), (.c (.int .i64 5)), (.t 34)], .r⟩,
 ⟨(some 36), (some (32, true)), .bin .eql (.t 35) (.c (.int .i64 0)), .n⟩,
 ⟨(some 37), none, .pick (.t 32) (.t 36) (.c (.bool false)), .n⟩,
 ⟨(some 0), none, .mov (.t 37), .n⟩]
@[reducible] def e7bn3 : EC := .seq (.reg e7br2) .ret
@[reducible] def e7bn4 : EC := .seq (.reg e7r1) e7bn3
@[reducible] def e7bn5 : EC := .seq (.reg e7r0) e7bn4
@[reducible] def e7b : EF := ⟨38, 0, [(.inl 0)], e7bn5⟩
theorem e7b_ok : compFn Try.prog { mu := fun t => [28].contains t, cl := fun r i => ([(2, 25, Cls.b)].find? fun x => x.1 == r && x.2.1 == i).map (·.2.2) } Try.f7 = some e7b := by kernel_rfl

set_option maxRecDepth 10000
theorem srcOf_fits {l : List (List UInt8)} (hl : l.length ≤ 100) (ht : ∀ t ∈ l, t.length ≤ 100) : (srcOf l).Fits := by
 have hr : ∀ r ∈ (srcOf l).rules, r = { left := [101], alts := l.map altOf } := fun r h => by simpa [srcOf] using h
 refine ⟨by simp [srcOf], by simp [srcOf], by simp [srcOf], fun d h => by simp [srcOf] at h, by simp [srcOf], fun r h => ?_⟩
 rw [hr r h]
 refine ⟨by simp, by simp only [List.length_map]; omega, fun a ha => ?_⟩
 obtain ⟨t, h1, rfl⟩ := List.mem_map.1 ha
 have := ht t h1
 refine ⟨by unfold altOf; simp only [List.length_map]; omega, fun p hp => ?_, by simp [altOf]⟩
 obtain ⟨c, _, rfl⟩ := List.mem_map.1 (by simpa [altOf] using hp)
 exact ⟨by simp [partOf], by simp [partOf]⟩
theorem srcOf_small {l : List (List UInt8)} (hl : l.length ≤ 100) (ht : ∀ t ∈ l, t.length ≤ 100) : Small (srcOf l) := by
 have hr : ∀ r ∈ (srcOf l).rules, r = { left := [101], alts := l.map altOf } := fun r h => by simpa [srcOf] using h
 refine ⟨by simp [srcOf], fun d h => by simp [srcOf] at h, fun d h => by simp [srcOf] at h, fun d h => by simp [srcOf] at h, by simp [srcOf], fun r h => ?_, fun r h a ha => ?_, fun r h a ha p hp hl => ?_, fun r h a ha hl => ?_⟩
 · rw [hr r h]; simp only [List.length_map]; omega
 · rw [hr r h] at ha
   obtain ⟨t, h1, rfl⟩ := List.mem_map.1 ha
   have := ht t h1
   unfold altOf; simp only [List.length_map]; omega
 · rw [hr r h] at ha
   obtain ⟨t, h1, rfl⟩ := List.mem_map.1 ha
   obtain ⟨c, _, rfl⟩ := List.mem_map.1 (by simpa [altOf] using hp)
   simp [partOf]
 · rw [hr r h] at ha
   obtain ⟨t, h1, rfl⟩ := List.mem_map.1 ha
   simp [altOf] at hl
theorem of_closed {l : List (List UInt8)} (hl : l.length ≤ 100) (ht : ∀ t ∈ l, t.length ≤ 100) : Pure Try.prog 16 [.sl 1 false (l.map V.str)] ((gramS (srcOf l)).V) :=
 yuccalaw14_of hl ht (srcOf_fits hl ht) fun _ => srcOf_small hl ht
def tE : List (List UInt8) := [[101, 43, 101], [120]]
def t1 : List (List UInt8) := [[40, 101, 41], []]
def t2 : List (List UInt8) := [[40, 101, 41], [], [101]]
def t3 : List (List UInt8) := [[40, 101, 41], [101, 101], []]
def okG (g : Grammar) (l : List (Int × List Int)) : Bool := decide (sides g = l) && decide (g.nons.length = 2) && decide (g.toks.length = 5) && decide (l.length ≤ 4) && l.all fun p => (decide (p.1 = 0) || decide (p.1 = 1)) && decide (p.2.length ≤ 3) && p.2.all fun s => decide (s < 1000) || decide (s = 1001)
theorem okG_cnt {g : Grammar} {l : List (Int × List Int)} (h : okG g l = true) : Cnt g 2 ∧ sides g = l ∧ g.toks.length = 5 := by
 unfold okG at h
 simp only [Bool.and_eq_true, decide_eq_true_eq, List.all_eq_true, Bool.or_eq_true] at h
 obtain ⟨⟨⟨⟨h1, h2⟩, h3⟩, h4⟩, h5⟩ := h
 have hm : ∀ p ∈ g.prods, (p.left, p.right) ∈ l := fun p hp => by rw [← h1]; exact List.mem_map.2 ⟨p, hp, rfl⟩
 refine ⟨⟨h2, by omega, ?_, fun p hp => ?_, fun p hp s hs => ?_, fun p hp => ?_⟩, h1, h3⟩
 · have : g.prods.length = l.length := by rw [← h1]; unfold sides; rw [List.length_map]
   omega
 · rcases (h5 _ (hm p hp)).1.1 with e | e
   · exact ⟨0, e, by omega⟩
   · exact ⟨1, e, by omega⟩
 · rcases (h5 _ (hm p hp)).2 s hs with e | e
   · exact Or.inl e
   · exact Or.inr ⟨1, e, by omega⟩
 · have := (h5 _ (hm p hp)).1.2
   dsimp only at this
   omega
theorem okE : okG (gramS (srcOf tE)) gE = true := by decide +kernel
theorem ok1 : okG (gramS (srcOf t1)) g1 = true := by decide +kernel
theorem ok2 : okG (gramS (srcOf t2)) g2 = true := by decide +kernel
theorem cnt_law {g : Grammar} {l : List (Int × List Int)} {w : List Int} (h : okG g l = true) (hw : w.length ≤ 24) {r : Nat} (hr : ∀ T, IsCount g 2 w T → T 1 0 w.length = r) : Pure Try.prog 13 [g.V, vi 1001, .sl 1 false (w.map (V.int .i64))] (vi r) := by
 obtain ⟨h1, h2, h3⟩ := okG_cnt h
 obtain ⟨x, hx, hp⟩ := many_Count (sy := 1001) (w := w) h1 (by omega) (by omega) (by omega)
 unfold cntP at hx
 rw [if_neg (by omega), if_neg (by omega), if_neg (by omega)] at hx
 obtain ⟨T, hT, rfl⟩ := hx
 rw [show ((1001 : Int) - 1000).toNat = 1 from rfl, hr T hT] at hp
 exact hp
theorem cnt_tok {g : Grammar} {l : List (Int × List Int)} {w : List Int} {s : Int} (h : okG g l = true) (hw : w.length ≤ 24) (hs : 0 ≤ s ∧ s < 5) : Pure Try.prog 13 [g.V, vi s, .sl 1 false (w.map (V.int .i64))] (vi (if w = [s] then 1 else 0)) := by
 obtain ⟨h1, h2, h3⟩ := okG_cnt h
 obtain ⟨x, hx, hp⟩ := many_Count (sy := s) (w := w) h1 (by omega) (by omega) (by omega)
 unfold cntP at hx
 rw [if_neg (by omega), if_pos (by omega)] at hx
 rw [hx] at hp
 exact hp
theorem cnt_none {g : Grammar} {l : List (Int × List Int)} {w : List Int} {s : Int} (h : okG g l = true) (hw : w.length ≤ 24) (hs : 5 ≤ s ∧ s < 1000) : Pure Try.prog 13 [g.V, vi s, .sl 1 false (w.map (V.int .i64))] (vi 0) := by
 obtain ⟨h1, h2, h3⟩ := okG_cnt h
 obtain ⟨x, hx, hp⟩ := many_Count (sy := s) (w := w) h1 (by omega) (by omega) (by omega)
 unfold cntP at hx
 rw [if_neg (by omega), if_neg (by omega), if_pos (by omega)] at hx
 rw [hx] at hp
 exact hp
theorem cnt_long {g : Grammar} {l : List (Int × List Int)} {w : List Int} {s : Int} (h : okG g l = true) (hw : 24 < w.length) (hwl : w.length ≤ 1000000) (hs : s < 9223372036854775808) : Pure Try.prog 13 [g.V, vi s, .sl 1 false (w.map (V.int .i64))] (vi (-1)) := by
 obtain ⟨h1, h2, h3⟩ := okG_cnt h
 obtain ⟨x, hx, hp⟩ := many_Count (sy := s) (w := w) h1 (by omega) (by omega) (by omega)
 unfold cntP at hx
 rw [if_pos (by omega)] at hx
 rw [hx] at hp
 exact hp
def wgtS (x p : Int) : Int → Int := fun t => if t = x then 1 else if t = p then -1 else 0
theorem cnt_E {w : List Int} {n : Nat} (hn : 1 ≤ n) (hw : AltW w n 4 3) (h24 : w.length ≤ 24) : Pure Try.prog 13 [(gramS (srcOf tE)).V, vi 1001, .sl 1 false (w.map (V.int .i64))] (vi ((if n ≤ 2 then 1 else 2 : Nat) : Int)) :=
 cnt_law okE h24 fun T hT => by
  have := both_many (okG_cnt okE).2.1 hT hw (n - 1) 0 (by omega)
  rw [hw.1, show 2 * n - 1 = 2 * 0 + 2 * (n - 1) + 1 by omega, this]
  by_cases h : n ≤ 2
  · rw [if_pos (by omega), if_pos h]
  · rw [if_neg (by omega), if_neg h]
theorem cnt_E0 {w : List Int} (h24 : w.length ≤ 24) (hw : wsum (wgtS 4 3) w ≠ 1) : Pure Try.prog 13 [(gramS (srcOf tE)).V, vi 1001, .sl 1 false (w.map (V.int .i64))] (vi ((0 : Nat) : Int)) :=
 cnt_law okE h24 fun T hT => weigh hT (by rw [(okG_cnt okE).2.1]; decide) hw

set_option maxHeartbeats 4000000
set_option maxRecDepth 20000
theorem er_mI {H : Nat → Option MObj} {id n : Nat} {w : List Int} {ro : Bool} (hH : H id = some (.own 1 (w.map (V.int .i64)) ro)) (hn : w.length = n) : Er true H (.msl id 1 0 n) (.sl 1 false (w.map (V.int .i64))) := by
 refine .msl id 1 0 n (w.map (V.int .i64)) ro _ rfl hH (by rw [List.length_map]; omega) (by rw [List.length_map]; exact hn) fun i c c' h1 h2 => ?_
 rw [Nat.zero_add, h2] at h1
 cases h1
 obtain ⟨x, _, rfl⟩ := List.mem_map.1 (List.mem_of_getElem? h2)
 exact .int _ _
theorem callQB3 {P : Program} [Glob P] {cls : Cls} {id : Nat} {s : St} {K : V → St → Prop} {f : FuncId} {x x' y y' z z' res : V} (hE : Er true s.H x x') (hE2 : Er true s.H y y') (hE3 : Er true s.H z z') (hp : Pure P f [x', y', z'] res) (hc : (cls == .r) = false) (hf : Flat res) (hk : K res s) : callQ P cls id s K f [x, y, z] :=
 Or.inl ⟨true, [x', y', z'], res, fun e => (by subst e; cases hc), ers_cons hE (ers_cons hE2 (ers_cons hE3 ers_nil)), hp, (fun _ => hf), hk⟩
theorem of_E : Pure Try.prog 16 [.sl 1 false [.str [101, 43, 101], .str [120]]] (gramS (srcOf tE)).V := of_closed (l := tE) (by decide) (by decide)
theorem wk1 : Pure Try.prog 13 [(gramS (srcOf tE)).V, vi 1001, .sl 1 false [vi 4, vi 3, vi 4, vi 3, vi 4]] (vi 2) := cnt_E (w := [4, 3, 4, 3, 4]) (n := 3) (by decide) ⟨rfl, by decide⟩ (by decide)
theorem wk2 : Pure Try.prog 13 [(gramS (srcOf tE)).V, vi 1001, .sl 1 false [vi 4, vi 3, vi 4]] (vi 1) := cnt_E (w := [4, 3, 4]) (n := 2) (by decide) ⟨rfl, by decide⟩ (by decide)
theorem wk3 : Pure Try.prog 13 [(gramS (srcOf tE)).V, vi 1001, .sl 1 false [vi 4, vi 4]] (vi 0) := cnt_E0 (w := [4, 4]) (by decide) (by decide)
theorem wk4 : Pure Try.prog 13 [(gramS (srcOf tE)).V, vi 4, .sl 1 false [vi 4]] (vi 1) := cnt_tok (w := [4]) okE (by decide) (by decide)
theorem wk5 : Pure Try.prog 13 [(gramS (srcOf tE)).V, vi 1001, .sl 1 false ((List.replicate 25 (0 : Int)).map (V.int .i64))] (vi (-1)) := cnt_long okE (by decide) (by decide) (by decide)
theorem wk6 : Pure Try.prog 13 [(gramS (srcOf tE)).V, vi 5, .sl 1 false [vi 5]] (vi 0) := cnt_none (w := [5]) okE (by decide) (by decide)
theorem rep25 : List.replicate 25 (V.int .i64 0) = (List.replicate 25 (0 : Int)).map (V.int .i64) := by rw [List.map_replicate]
theorem wakes_pure : Pure Try.prog 7 [] (.bool true) := by
 refine pure_intro Try.func7 e7_nm e7b_ok (by show 0 ≤ 38; decide) ?_
 show ewp _ e7bn5 _ _
 generalize hg : (gramS (srcOf tE)) = g
 have h0 := of_E; have h1 := wk1; have h2 := wk2; have h3 := wk3; have h4 := wk4; have h5 := wk5; have h6 := wk6
 rw [hg] at h0 h1 h2 h3 h4 h5 h6
 clear hg
 have hp : g.V.okCell = true := rfl
 repeat' with_reducible first
  | refine s_ ?_
  | simp -implicitDefEqProofs only [wZZ, seval, rep25]
  | (apply callQ1 (hp := h0); (focus (first | exact er_cl | exact er_sl)))
  | (apply callQ3 (hp := h1); (focus (first | exact er_cl | exact er_sl)); (focus (first | exact er_cl | exact er_sl)); (focus (first | exact er_cl | exact er_sl)))
  | (apply callQ3 (hp := h2); (focus (first | exact er_cl | exact er_sl)); (focus (first | exact er_cl | exact er_sl)); (focus (first | exact er_cl | exact er_sl)))
  | (apply callQ3 (hp := h3); (focus (first | exact er_cl | exact er_sl)); (focus (first | exact er_cl | exact er_sl)); (focus (first | exact er_cl | exact er_sl)))
  | (apply callQ3 (hp := h4); (focus (first | exact er_cl | exact er_sl)); (focus (first | exact er_cl | exact er_sl)); (focus (first | exact er_cl | exact er_sl)))
  | (apply fil_part; (exact wu_); (exact wu_); (exact wu_); (focus ((try simp -implicitDefEqProofs only [wY]); rfl)))
  | (apply ldQ_whole)
  | (apply stQ_whole; (exact wu_); (exact wu_))
  | (apply mkQ_T; (exact wf_); (exact wf_); (focus (unfold maxLen; first | omega | (simp only [wZ] <;> omega))))
 refine callQB3 (hp := h5) er_cl er_cl (er_mI (ro := false) ?_ rfl) rfl (Flat.int _ _) ?_
 · simp only [wM]
   repeat first | rw [if_pos trivial] | rw [if_pos rfl] | rw [if_neg (by omega)]
   rfl
 repeat' with_reducible first
  | refine s_ ?_
  | simp -implicitDefEqProofs only [wZZ, seval, rep25]
  | (apply callQ3 (hp := h6); (focus (first | exact er_cl | exact er_sl)); (focus (first | exact er_cl | exact er_sl)); (focus (first | exact er_cl | exact er_sl)))
  | (apply ldQ_whole)
 all_goals refine post1 rfl (Or.inr rfl) ?_
 all_goals (try simp -implicitDefEqProofs only [wL, seval])
 all_goals (first | refine er_bool ?_ | refine er_int ?_ | refine er_str ?_ | refine er_sl_eq ?_ | refine er_asl_eq ?_)
 all_goals (try (with_reducible rfl))
end Go.Proofs
