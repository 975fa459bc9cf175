/-
  Part of a proof that a law of the given program answers true: contracts of its functions, and the law. Holds for inputs of at most 1048576 values and letters in all.
-/
import Derived.Test.YtpnfbnlhjdnnpaaDoorXLC
import Derived.Test.YtpnfbnlhjdnnpaaDoorXKA
set_option linter.unusedSimpArgs false
set_option linter.unusedVariables false
namespace Go.Proofs
open Go.E
@[reducible] def chS (i : Nat) : List UInt8 := 110 :: digS i
@[reducible] def chA (i : Nat) : Alt := { parts := [{ sym := { name := chS (i + 1) } }, { sym := { name := [UInt8.ofNat (97 + i)], lit := true } }] }
@[reducible] def chZ : Alt := { parts := [{ sym := { name := [122], lit := true } }] }
def chR (e : List Bool) (i : Nat) : Rule := { left := chS i, alts := if e.getD i false then [chA i, {}] else [chA i] }
def chZR (n : Nat) : Rule := { left := chS n, alts := [chZ] }
def chainL (e : List Bool) (n : Nat) : List Rule := (List.range n).map (chR e)
def chainS (e : List Bool) (n : Nat) : Source := { rules := chainL e n ++ [chZR n] }
theorem chainL_succ (e : List Bool) (n : Nat) : chainL e (n + 1) = chainL e n ++ [chR e n] := by simp [chainL, List.range_succ]
def upM (P : List GPr) (m : Mk) : Mk := { m with prods := P ++ m.prods }
theorem failM_up (P : List GPr) (m : Mk) (a : Int) (n : List UInt8) : failM (upM P m) a n = upM P (failM m a n) := by
 unfold failM upM; dsimp only; split <;> rfl
theorem putM_up (P : List GPr) (m : Mk) (x : Sym) : putM (upM P m) x = (upM P (putM m x).1, (putM m x).2) := by
 unfold putM
 rw [failM_up]
 unfold upM; dsimp only
 split
 · rfl
 · split <;> rfl
theorem symM_up (P : List GPr) (m : Mk) (x : Sym) : symM (upM P m) x = (upM P (symM m x).1, (symM m x).2) := by
 unfold symM
 rw [putM_up, failM_up]
 unfold upM; dsimp only
 split
 · rfl
 · split
   · rfl
   · split <;> rfl
theorem altGo_up (P : List GPr) : ∀ (l : List Part) (m : Mk) (p : GPr), altGo l (upM P m, p) = (upM P (altGo l (m, p)).1, (altGo l (m, p)).2)
 | [], m, p => rfl
 | w :: r, m, p => by
   unfold altGo
   rw [symM_up]
   split
   · exact altGo_up P r _ _
   · split
     · rfl
     · have := altGo_up P r { m with inner := m.inner + 1, prods := m.prods ++ [{ left := m.lefts.length + (m.inner + 1), prec := -1, code := w.code, args := p.right, at_ := w.at_ }] } { p with right := p.right ++ [1000 + m.lefts.length + (m.inner + 1)] }
       rw [← this]
       simp only [upM, List.append_assoc]
theorem altM_up (P : List GPr) (m : Mk) (n : List UInt8) (a : Alt) (ha : a.prec.name = []) : altM (upM P m) n a = upM P (altM m n a) := by
 unfold altM
 have h := altGo_up P a.parts m { left := 1 + leftGo n m.lefts 0, prec := -1, at_ := a.at_ }
 dsimp only
 rw [show (upM P m).lefts = m.lefts from rfl, h]
 rw [if_neg (by simp [ha]), if_neg (by simp [ha])]
 simp only [upM, List.append_assoc]
def lettT (i : Nat) : Tok := { name := [UInt8.ofNat (97 + i)], lit := true, num := 97 + i }
def chM (n i : Nat) : Mk := { toks := ({} : Mk).toks ++ (List.range i).map lettT, given := [false, false, false] ++ List.replicate i true, lefts := (List.range (n + 1)).map chS }
def chF (n : Nat) : Mk := { toks := (chM n n).toks ++ [{ name := [122], lit := true, num := 122 }], given := (chM n n).given ++ [true], lefts := (List.range (n + 1)).map chS }
def prA (n i : Nat) : List GPr := (altM (chM n i) (chS i) (chA i)).prods
def prE (n i : Nat) : List GPr := (altM (chM n i) (chS i) {}).prods
def prZ (n : Nat) : List GPr := (altM (chM n n) (chS n) chZ).prods
theorem stA : ((List.range 13).all fun n => (List.range n).all fun i => decide (altM (chM n i) (chS i) (chA i) = { chM n (i + 1) with prods := prA n i }) && decide (altM (chM n (i + 1)) (chS i) {} = { chM n (i + 1) with prods := prE n i })) = true := by decide +kernel
theorem stZ : ((List.range 13).all fun n => decide (altM (chM n n) (chS n) chZ = { chF n with prods := prZ n }) && decide (lefGo (chainL [] n ++ [chZR n]) {} = chM n 0) && decide (madeN (chF n) = { madeN (chF n) with prods := [], e := 0 }) && decide ((madeN (chF n)).toks.length = 4 + n) && decide ((madeN (chF n)).nons.length = n + 2)
 && decide ((prZ n).map (fun p => (p.left, p.right)) = [((1 + n : Int), [3 + (n : Int)])]) && decide (leftGo (chS 0) (chM n 0).lefts 0 = 0)) = true := by decide +kernel
theorem stP : ((List.range 13).all fun n => (List.range n).all fun i => decide ((prA n i).map (fun p => (p.left, p.right)) = [((1 + i : Int), [1002 + (i : Int), 3 + (i : Int)])]) && decide ((prE n i).map (fun p => (p.left, p.right)) = [((1 + i : Int), [])])) = true := by decide +kernel
end Go.Proofs

namespace Go.Proofs
open Go.E
theorem stA' {n i : Nat} (hn : n ≤ 12) (hi : i < n) : altM (chM n i) (chS i) (chA i) = { chM n (i + 1) with prods := prA n i } ∧ altM (chM n (i + 1)) (chS i) {} = { chM n (i + 1) with prods := prE n i } := by
 have h := List.all_eq_true.1 (List.all_eq_true.1 stA n (List.mem_range.2 (by omega))) i (List.mem_range.2 hi)
 simpa using h
theorem stP' {n i : Nat} (hn : n ≤ 12) (hi : i < n) : (prA n i).map (fun p => (p.left, p.right)) = [((1 + i : Int), [1002 + (i : Int), 3 + (i : Int)])] ∧ (prE n i).map (fun p => (p.left, p.right)) = [((1 + i : Int), [])] := by
 have h := List.all_eq_true.1 (List.all_eq_true.1 stP n (List.mem_range.2 (by omega))) i (List.mem_range.2 hi)
 simpa only [Bool.and_eq_true, decide_eq_true_eq] using h
theorem rulGo_app : ∀ (l l' : List Rule) (m : Mk), rulGo (l ++ l') m = rulGo l' (rulGo l m)
 | [], l', m => rfl
 | r :: l, l', m => rulGo_app l l' _
theorem lefGo_cong : ∀ (l l' : List Rule) (m : Mk), l.map (fun r => (r.left, r.at_)) = l'.map (fun r => (r.left, r.at_)) → lefGo l m = lefGo l' m
 | [], [], m, _ => rfl
 | [], _ :: _, m, h => by simp at h
 | _ :: _, [], m, h => by simp at h
 | r :: l, r' :: l', m, h => by
   simp only [List.map_cons, List.cons.injEq, Prod.mk.injEq] at h
   unfold lefGo
   dsimp only
   rw [h.1.1, h.1.2]
   exact lefGo_cong l l' _ h.2
def prodsE (e : List Bool) (n : Nat) : Nat → List GPr
 | 0 => []
 | i + 1 => prodsE e n i ++ (prA n i ++ if e.getD i false then prE n i else [])
theorem prodsE_succ (e : List Bool) (n i : Nat) : prodsE e n (i + 1) = prodsE e n i ++ (prA n i ++ if e.getD i false then prE n i else []) := rfl
theorem up_ch (P Q : List GPr) (n i : Nat) : upM P { chM n i with prods := Q } = upM (P ++ Q) (chM n i) := by simp [upM, chM]
theorem rulGo_ch (e : List Bool) {n : Nat} (hn : n ≤ 12) (P : List GPr) : ∀ i, i ≤ n → rulGo (chainL e i) (upM P (chM n 0)) = upM (P ++ prodsE e n i) (chM n i)
 | 0, _ => by simp [chainL, rulGo, prodsE]
 | i + 1, h => by
   rw [chainL_succ, rulGo_app, rulGo_ch e hn P i (by omega)]
   show altsGo (chS i) (chR e i).alts _ = _
   have hs := stA' hn (i := i) (by omega)
   rw [prodsE_succ]
   unfold chR
   dsimp only
   split
   · rw [altsGo, altsGo, altsGo, altM_up _ _ _ _ rfl, hs.1, up_ch, altM_up _ _ _ _ rfl, hs.2, up_ch]
     simp only [List.append_assoc]
   · rw [altsGo, altsGo, altM_up _ _ _ _ rfl, hs.1, up_ch]
     simp only [List.append_assoc, List.append_nil]
theorem stZ' {n : Nat} (hn : n ≤ 12) : (((((altM (chM n n) (chS n) chZ = { chF n with prods := prZ n } ∧ lefGo (chainL [] n ++ [chZR n]) {} = chM n 0) ∧ madeN (chF n) = { madeN (chF n) with prods := [], e := 0 }) ∧ (madeN (chF n)).toks.length = 4 + n) ∧ (madeN (chF n)).nons.length = n + 2)
 ∧ (prZ n).map (fun p => (p.left, p.right)) = [((1 + n : Int), [3 + (n : Int)])]) ∧ leftGo (chS 0) (chM n 0).lefts 0 = 0 := by
 have h := List.all_eq_true.1 stZ n (List.mem_range.2 (by omega))
 simpa only [Bool.and_eq_true, decide_eq_true_eq] using h
def chP0 : List GPr := [{ left := 0, right := [1001], prec := -1 }]
theorem madeM_ch (e : List Bool) {n : Nat} (hn : n ≤ 12) : madeM (chainS e n) = upM (chP0 ++ prodsE e n n ++ prZ n) (chF n) := by
 obtain ⟨⟨⟨⟨⟨⟨z1, z2⟩, z3⟩, z4⟩, z5⟩, z6⟩, z7⟩ := stZ' hn
 have hl : lefGo (chainS e n).rules {} = chM n 0 := by
  rw [← z2]
  refine lefGo_cong _ _ _ ?_
  simp [chainS, chainL, chR, Function.comp_def]
 have hst : ((chainS e n).rules.headD {}).left = chS 0 := by
  cases n with
  | zero => rfl
  | succ n => simp [chainS, chainL, List.range_succ_eq_map, chR]
 unfold madeM
 simp only [show (chainS e n).decls = [] from rfl, decGo, unkGo, hl, hst, if_true, z7]
 show rulGo (chainL e n ++ [chZR n]) (upM chP0 (chM n 0)) = _
 rw [rulGo_app, rulGo_ch e hn _ n (Nat.le_refl _)]
 show altM _ (chS n) chZ = _
 rw [altM_up _ _ _ _ rfl, z1]
 simp [upM, chF]
theorem madeN_up (P : List GPr) (n : Nat) : madeN (upM P (chF n)) = upM P (madeN (chF n)) := rfl
def chainP (e : List Bool) (n : Nat) : Nat → List (Int × List Int)
 | 0 => [(0, [1001])]
 | i + 1 => chainP e n i ++ (((1 + i : Int), [1002 + (i : Int), 3 + (i : Int)]) :: (if e.getD i false then [((1 + i : Int), [])] else []))
theorem prods_ch (e : List Bool) {n : Nat} (hn : n ≤ 12) : ∀ i, i ≤ n → (chP0 ++ prodsE e n i).map (fun p => (p.left, p.right)) = chainP e n i
 | 0, _ => rfl
 | i + 1, h => by
   have hp := stP' hn (i := i) (by omega)
   rw [prodsE, chainP, ← List.append_assoc, List.map_append, prods_ch e hn i (by omega), List.map_append, hp.1]
   split
   · rw [hp.2]; rfl
   · rfl
theorem chainP_len (e : List Bool) (n : Nat) : ∀ i, (chainP e n i).length ≤ 1 + 2 * i
 | 0 => by simp [chainP]
 | i + 1 => by
   have := chainP_len e n i
   rw [chainP, List.length_append, List.length_cons]
   split <;> simp <;> omega
theorem chainP_right (e : List Bool) (n : Nat) : ∀ i, ∀ q ∈ chainP e n i, q.2.length ≤ 2
 | 0, q, h => by simp [chainP] at h; subst h; simp
 | i + 1, q, h => by
   rw [chainP, List.mem_append, List.mem_cons] at h
   rcases h with h | rfl | h
   · exact chainP_right e n i q h
   · simp
   · split at h
     · simp at h; subst h; simp
     · cases h
theorem chS_ok : ((List.range 14).all fun i => decide ((chS i).length ≤ 5) && nameS (chS i) && altB (chA i)) = true := by decide +kernel
theorem chS_ok' {i : Nat} (h : i ≤ 13) : ((chS i).length ≤ 5 ∧ nameS (chS i) = true) ∧ altB (chA i) = true := by
 have h := List.all_eq_true.1 chS_ok i (List.mem_range.2 (by omega))
 simpa only [Bool.and_eq_true, decide_eq_true_eq] using h
theorem rule_ch {e : List Bool} {n : Nat} {r : Rule} (h : r ∈ (chainS e n).rules) : (∃ i, i < n ∧ r = chR e i) ∨ r = chZR n := by
 simp only [chainS, chainL, List.mem_append, List.mem_map, List.mem_range, List.mem_singleton] at h
 rcases h with ⟨i, hi, rfl⟩ | h
 · exact Or.inl ⟨i, hi, rfl⟩
 · exact Or.inr h
theorem alt_ch {e : List Bool} {n : Nat} {r : Rule} (h : r ∈ (chainS e n).rules) : r.alts.length ≤ 2 ∧ (∃ i, i ≤ n ∧ r.left = chS i) ∧ ∀ a ∈ r.alts, a = {} ∨ a = chZ ∨ ∃ i, i < n ∧ a = chA i := by
 rcases rule_ch h with ⟨i, hi, rfl⟩ | rfl
 · refine ⟨by unfold chR; dsimp only; split <;> simp, ⟨i, by omega, rfl⟩, fun a ha => ?_⟩
   unfold chR at ha; dsimp only at ha
   split at ha
   · simp only [List.mem_cons, List.not_mem_nil, or_false] at ha
     rcases ha with rfl | rfl
     · exact Or.inr (Or.inr ⟨i, hi, rfl⟩)
     · exact Or.inl rfl
   · simp only [List.mem_cons, List.not_mem_nil, or_false] at ha
     subst ha
     exact Or.inr (Or.inr ⟨i, hi, rfl⟩)
 · refine ⟨by simp [chZR], ⟨n, by omega, rfl⟩, fun a ha => ?_⟩
   simp only [chZR, List.mem_cons, List.not_mem_nil, or_false] at ha
   exact Or.inr (Or.inl ha)
theorem may_ch (e : List Bool) {n : Nat} (hn : n ≤ 12) : mayB (chainS e n) = true := by
 unfold mayB
 simp only [Bool.and_eq_true, Bool.not_eq_true']
 refine ⟨⟨⟨rfl, rfl⟩, List.all_eq_true.2 fun r hr => ?_⟩, ?_⟩
 · obtain ⟨_, ⟨i, hi, hl⟩, ha⟩ := alt_ch hr
   have hne : r.alts ≠ [] := by
    rcases rule_ch hr with ⟨i, hi, rfl⟩ | rfl
    · unfold chR; dsimp only; split <;> simp
    · simp [chZR]
   unfold ruleB
   simp only [Bool.and_eq_true, Bool.not_eq_true', decide_eq_false_iff_not]
   refine ⟨⟨by rw [hl]; exact (chS_ok' (by omega)).1.2, hne⟩, List.all_eq_true.2 fun a hm => ?_⟩
   rcases ha a hm with rfl | rfl | ⟨j, hj, rfl⟩
   · decide +kernel
   · decide +kernel
   · exact (chS_ok' (by omega)).2
 · simp [chainS]
theorem part_ch {n : Nat} (hn : n ≤ 12) {a : Alt} (h : a = {} ∨ a = chZ ∨ ∃ i, i < n ∧ a = chA i) : (a.parts.length ≤ 2 ∧ a.prec = {}) ∧ ∀ w ∈ a.parts, w.code = [] ∧ w.sym.name.length ≤ 5 ∧ (w.sym.lit = true → w.sym.name ≠ []) := by
 rcases h with rfl | rfl | ⟨i, hi, rfl⟩
 · exact ⟨⟨by simp, rfl⟩, fun w hw => by cases hw⟩
 · refine ⟨⟨by simp, rfl⟩, fun w hw => ?_⟩
   simp only [List.mem_cons, List.not_mem_nil, or_false] at hw
   subst hw; exact ⟨rfl, by simp, by simp⟩
 · refine ⟨⟨by simp, rfl⟩, fun w hw => ?_⟩
   simp only [List.mem_cons, List.not_mem_nil, or_false] at hw
   rcases hw with rfl | rfl
   · exact ⟨rfl, (chS_ok' (i := i + 1) (by omega)).1.1, by simp⟩
   · exact ⟨rfl, by simp, by simp⟩
theorem rules_ch_len (e : List Bool) (n : Nat) : (chainS e n).rules.length = n + 1 := by simp [chainS, chainL]
theorem fits_ch (e : List Bool) {n : Nat} (hn : n ≤ 12) : (chainS e n).Fits := by
 refine ⟨by simp [chainS], by simp [chainS], by simp [chainS], fun d h => (by cases h), by rw [rules_ch_len]; omega, fun r hr => ?_⟩
 obtain ⟨h1, ⟨i, hi, hl⟩, ha⟩ := alt_ch hr
 refine ⟨by rw [hl]; have := (chS_ok' (i := i) (by omega)).1.1; omega, by omega, fun a hm => ?_⟩
 obtain ⟨⟨p1, p2⟩, p3⟩ := part_ch hn (ha a hm)
 refine ⟨by omega, fun p hp => ?_, by rw [p2]; simp⟩
 obtain ⟨q1, q2, _⟩ := p3 p hp
 exact ⟨by omega, by rw [q1]; simp⟩
theorem small_ch (e : List Bool) {n : Nat} (hn : n ≤ 12) : Small (chainS e n) where
 dl := by simp [chainS]
 ds := fun d h => (by cases h)
 dk := fun d h => (by cases h)
 dx := fun d h => (by cases h)
 rl := by rw [rules_ch_len]; omega
 ra := fun r hr => by have := (alt_ch hr).1; omega
 rp := fun r hr a ha => by have := (part_ch hn ((alt_ch hr).2.2 a ha)).1.1; omega
 rx := fun r hr a ha w hw => ((part_ch hn ((alt_ch hr).2.2 a ha)).2 w hw).2.2
 rq := fun r hr a ha => by rw [(part_ch hn ((alt_ch hr).2.2 a ha)).1.2]; simp
theorem gram_ch (e : List Bool) {n : Nat} (hn : n ≤ 12) : gramB (chainS e n) = true ∧ lrP (gramS (chainS e n)) = chainP e n n ++ [((1 + n : Int), [3 + (n : Int)])] ∧ (gramS (chainS e n)).toks.length = 4 + n ∧ (gramS (chainS e n)).nons.length = n + 2 := by
 obtain ⟨⟨⟨⟨⟨⟨z1, z2⟩, z3⟩, z4⟩, z5⟩, z6⟩, z7⟩ := stZ' hn
 have hm := madeM_ch e hn
 have hpr : ((chP0 ++ prodsE e n n ++ prZ n).map fun p => (p.left, p.right)) = chainP e n n ++ [((1 + n : Int), [3 + (n : Int)])] := by
  rw [List.map_append, prods_ch e hn n (Nat.le_refl _), z6]
 have hN : madeN (madeM (chainS e n)) = { madeN (chF n) with prods := chP0 ++ prodsE e n n ++ prZ n } := by
  rw [hm, madeN_up]
  have : (madeN (chF n)).prods = [] := by rw [z3]
  simp only [upM, this, List.append_nil]
 have hlen : (chP0 ++ prodsE e n n ++ prZ n).length ≤ 2 + 2 * n := by
  have h := congrArg List.length hpr
  rw [List.length_map, List.length_append] at h
  have := chainP_len e n n
  simp at h ⊢; omega
 have hlong : longB (madeN (madeM (chainS e n))) = false := by
  rw [hN]
  unfold longB
  simp only [Bool.or_eq_false_iff, decide_eq_false_iff_not]
  refine ⟨⟨⟨by rw [z4]; omega, by rw [z5]; omega⟩, by omega⟩, ?_⟩
  rw [List.any_eq_false]
  intro p hp
  have h2 : (p.left, p.right) ∈ chainP e n n ++ [((1 + n : Int), [3 + (n : Int)])] := by rw [← hpr]; exact List.mem_map_of_mem hp
  rcases List.mem_append.1 h2 with h2 | h2
  · have := chainP_right e n n _ h2
    simp only [decide_eq_true_eq] at *; omega
  · simp at h2
    simp [h2.2]
 have he : (madeM (chainS e n)).e = 0 := by rw [hm]; rfl
 have ho : ofS (chainS e n) = ({ toks := (madeN (madeM (chainS e n))).toks, nons := (madeN (madeM (chainS e n))).nons, prods := (madeN (madeM (chainS e n))).prods, pro := (chainS e n).pro, tail := (chainS e n).tail }, 0, 0, []) := by
  unfold ofS
  rw [if_pos (may_ch e hn), if_neg (by rw [he]; simp), if_neg (by rw [hlong]; simp)]
 have hg : gramB (chainS e n) = true := by unfold gramB; rw [ho]; rfl
 refine ⟨hg, ?_⟩
 rw [(gramS_eq hg).2.2.2, hN]
 exact ⟨hpr, z4, z5⟩
end Go.Proofs

namespace Go.Proofs
open Go.E
def EC (e : List Bool) (n k : Nat) : Bool := (decide (1 ≤ k) && decide (k ≤ n) && e.getD (k - 1) false) || (decide (k = 0) && decide (0 < n) && e.getD 0 false)
def S1 (e : List Bool) (n k y : Nat) : Bool := decide (y = 3 + n) || (decide (3 ≤ y) && decide (k - 1 ≤ y - 3) && decide (y - 2 < n) && e.getD (y - 2) false)
def SC (e : List Bool) (n k y : Nat) : Bool := decide (k ≤ n + 1) && S1 e n k y
theorem chainP_mem {e : List Bool} {n : Nat} : ∀ {i : Nat} {q : Int × List Int}, q ∈ chainP e n i ↔ q = (0, [1001]) ∨ ∃ j : Nat, j < i ∧ (q = ((1 + j : Int), [1002 + (j : Int), 3 + (j : Int)]) ∨ (e.getD j false = true ∧ q = ((1 + j : Int), [])))
 | 0, q => by simp [chainP]
 | i + 1, q => by
   rw [chainP, List.mem_append, List.mem_cons, chainP_mem (i := i)]
   constructor
   · rintro ((h | ⟨j, hj, h⟩) | h | h)
     · exact Or.inl h
     · exact Or.inr ⟨j, by omega, h⟩
     · exact Or.inr ⟨i, by omega, Or.inl h⟩
     · split at h
       · rename_i he
         exact Or.inr ⟨i, by omega, Or.inr ⟨he, by simpa using h⟩⟩
       · cases h
   · rintro (h | ⟨j, hj, h⟩)
     · exact Or.inl (Or.inl h)
     · by_cases hji : j < i
       · exact Or.inl (Or.inr ⟨j, hji, h⟩)
       · obtain rfl : j = i := by omega
         rcases h with h | ⟨he, h⟩
         · exact Or.inr (Or.inl h)
         · exact Or.inr (Or.inr (by rw [if_pos he]; simp [h]))
theorem lr_ch {e : List Bool} {n : Nat} (hn : n ≤ 12) {q : Int × List Int} : q ∈ lrP (gramS (chainS e n)) ↔ (q = (0, [1001]) ∨ ∃ j : Nat, j < n ∧ (q = ((1 + j : Int), [1002 + (j : Int), 3 + (j : Int)]) ∨ (e.getD j false = true ∧ q = ((1 + j : Int), [])))) ∨ q = ((1 + n : Int), [3 + (n : Int)]) := by
 rw [(gram_ch e hn).2.1, List.mem_append, chainP_mem, List.mem_singleton]
theorem tn1 (j : Nat) : (1002 + (j : Int) - 1000).toNat = j + 2 := by omega
theorem tn2 (j : Nat) : (1 + (j : Int)).toNat = j + 1 := by omega
theorem fits2 {F : Nat → Bool} (j : Nat) : fitsB false F [1002 + (j : Int), 3 + (j : Int)] = true → j < 900 → False := by
 intro h hj
 simp only [fitsB, List.all_cons, List.all_nil, Bool.and_eq_true] at h
 rw [if_pos (show (3 + (j : Int)) < 1000 by omega)] at h
 exact absurd h.2.1 (by simp)
theorem growC (e : List Bool) {n : Nat} (hn : n ≤ 12) : IsGrow (gramS (chainS e n)) false (EC e n) := by
 refine ⟨closedG_lr.2 fun q hq hf => ?_, fun F hF k hk => ?_⟩
 · rcases (lr_ch hn).1 hq with (rfl | ⟨j, hj, rfl | ⟨he, rfl⟩⟩) | rfl
   · have h1 : EC e n 1 = true := by simpa [fitsB] using hf
     show EC e n 0 = true
     simp [EC] at h1 ⊢
     obtain ⟨h2, h3⟩ := h1
     exact ⟨by omega, h3⟩
   · exact (fits2 j hf (by omega)).elim
   · dsimp only
     rw [tn2]
     simp only [EC, Nat.add_sub_cancel, he]
     simp; omega
   · simp only [fitsB, List.all_cons, List.all_nil] at hf
     rw [if_pos (show (3 + (n : Int)) < 1000 by omega)] at hf
     simp at hf
 · have hG := closedG_lr.1 hF
   have hj : ∀ j : Nat, j < n → e.getD j false = true → F (j + 1) = true := fun j hj he => by
    have := hG ((1 + j : Int), []) ((lr_ch hn).2 (Or.inl (Or.inr ⟨j, hj, Or.inr ⟨he, rfl⟩⟩))) (by simp [fitsB])
    dsimp only at this
    rwa [tn2] at this
   simp only [EC, Bool.or_eq_true, Bool.and_eq_true, decide_eq_true_eq] at hk
   rcases hk with ⟨⟨h1, h2⟩, h3⟩ | ⟨⟨rfl, h2⟩, h3⟩
   · have := hj (k - 1) (by omega) h3
     rwa [show k - 1 + 1 = k by omega] at this
   · have h1 := hj 0 h2 h3
     exact hG (0, [1001]) ((lr_ch hn).2 (Or.inl (Or.inl rfl))) (by simp [fitsB, h1])
theorem S1_step {e : List Bool} {n i y : Nat} (hi : i < n) : S1 e n (i + 1) y = true ↔ S1 e n (i + 2) y = true ∨ (y = 3 + i ∧ i + 1 < n ∧ e.getD (i + 1) false = true) := by
 simp only [S1, Bool.or_eq_true, Bool.and_eq_true, decide_eq_true_eq]
 constructor
 · rintro (h | ⟨⟨⟨h1, h2⟩, h3⟩, h4⟩)
   · exact Or.inl (Or.inl h)
   · by_cases hy : y = 3 + i
     · subst hy
       rw [show 3 + i - 2 = i + 1 by omega] at h4
       exact Or.inr ⟨rfl, by omega, h4⟩
     · exact Or.inl (Or.inr ⟨⟨⟨h1, by omega⟩, h3⟩, h4⟩)
 · rintro ((h | ⟨⟨⟨h1, h2⟩, h3⟩, h4⟩) | ⟨rfl, h2, h3⟩)
   · exact Or.inl h
   · exact Or.inr ⟨⟨⟨h1, by omega⟩, h3⟩, h4⟩
   · exact Or.inr ⟨⟨⟨by omega, by omega⟩, by omega⟩, by rw [show 3 + i - 2 = i + 1 by omega]; exact h3⟩
theorem S1_last {e : List Bool} {n y k : Nat} (hk : n ≤ k) : S1 e n (k + 1) y = true ↔ y = 3 + n := by
 simp only [S1, Bool.or_eq_true, Bool.and_eq_true, decide_eq_true_eq]
 constructor
 · rintro (h | ⟨⟨⟨h1, h2⟩, h3⟩, h4⟩)
   · exact h
   · omega
 · exact Or.inl
theorem lst2 {S : Nat → Nat → Bool} {E : Nat → Bool} {j y : Nat} (hj : j < 900) : (lstF S E [1002 + (j : Int), 3 + (j : Int)]).1 y = true ↔ S (j + 2) y = true ∨ (E (j + 2) = true ∧ y = 3 + j) := by
 unfold lstF
 have hin : ∀ a, lstA S E [3 + (j : Int)] a = (orS a (memS [3 + (j : Int)]), false) := fun a => by rw [lstA, if_pos (show (3 + (j : Int)) < 1000 by omega)]
 rw [lstA, if_neg (by omega), tn1, hin]
 by_cases hE : E (j + 2) = true
 · rw [if_pos hE]
   simp only [orS, memS, Bool.or_eq_true, Bool.false_or, Bool.and_eq_true, decide_eq_true_eq, List.mem_singleton, hE, true_and]
   constructor
   · rintro (h | h)
     · exact Or.inl h
     · right; omega
   · rintro (h | h)
     · exact Or.inl h
     · right; omega
 · rw [if_neg hE]
   simp [orS, hE]
theorem firstC (e : List Bool) {n : Nat} (hn : n ≤ 12) : IsFirst (gramS (chainS e n)) (EC e n) (SC e n) := by
 refine ⟨closedF_lr.2 fun q hq y hy => ?_, fun F hF k y hk => ?_, fun k y hk => ?_⟩
 · rcases (lr_ch hn).1 hq with (rfl | ⟨j, hj, rfl | ⟨he, rfl⟩⟩) | rfl
   · have h1 : SC e n 1 y = true := by
      simp only [lstF, lstA] at hy
      rw [if_neg (by decide)] at hy
      split at hy <;> simpa [orS] using hy
     show SC e n 0 y = true
     simp [SC, S1] at h1 ⊢
     exact h1
   · dsimp only at hy ⊢
     rw [tn2]
     have h2 := (lst2 (by omega)).1 hy
     simp only [SC, Bool.and_eq_true, decide_eq_true_eq] at h2 ⊢
     refine ⟨by omega, (S1_step hj).2 ?_⟩
     rcases h2 with h2 | ⟨h2, h3⟩
     · exact Or.inl h2.2
     · refine Or.inr ⟨h3, ?_⟩
       simp only [EC, Bool.or_eq_true, Bool.and_eq_true, decide_eq_true_eq] at h2
       rcases h2 with ⟨⟨_, a⟩, b⟩ | ⟨⟨a, _⟩, _⟩
       · exact ⟨by omega, b⟩
       · omega
   · simp [lstF, lstA] at hy
   · dsimp only at hy ⊢
     rw [tn2]
     simp only [lstF, lstA] at hy
     rw [if_pos (by omega)] at hy
     have hyn : y = 3 + n := by simp [orS, memS] at hy; omega
     simp [SC, S1, hyn]
 · have hG := closedF_lr.1 hF
   have key : ∀ t i, i + t = n → ∀ y, S1 e n (i + 1) y = true → F (i + 1) y = true := by
    intro t
    induction t with
    | zero =>
      intro i hi y hy
      obtain rfl : i = n := by omega
      have := hG ((1 + i : Int), [3 + (i : Int)]) ((lr_ch hn).2 (Or.inr rfl)) y (by
       have := (S1_last (Nat.le_refl _)).1 hy
       subst this
       simp only [lstF, lstA]
       rw [if_pos (by omega)]
       simp [orS, memS]; omega)
      dsimp only at this
      rwa [tn2] at this
    | succ t ih =>
      intro i hi y hy
      have h0 := hG ((1 + i : Int), [1002 + (i : Int), 3 + (i : Int)]) ((lr_ch hn).2 (Or.inl (Or.inr ⟨i, by omega, Or.inl rfl⟩))) y
      dsimp only at h0
      rw [tn2] at h0
      refine h0 ((lst2 (by omega)).2 ?_)
      rcases (S1_step (by omega)).1 hy with h | ⟨h1, h2, h3⟩
      · exact Or.inl (ih (i + 1) (by omega) y h)
      · refine Or.inr ⟨?_, h1⟩
        simp only [EC, Bool.or_eq_true, Bool.and_eq_true, decide_eq_true_eq]
        exact Or.inl ⟨⟨by omega, by omega⟩, h3⟩
   simp only [SC, Bool.and_eq_true, decide_eq_true_eq] at hk
   cases k with
   | succ k => exact key (n - k) k (by omega) y hk.2
   | zero =>
     have h1 := key n 0 (by omega) y (by have := hk.2; simp [S1] at this ⊢; exact this)
     exact hG (0, [1001]) ((lr_ch hn).2 (Or.inl (Or.inl rfl))) y (by
      simp only [lstF, lstA]
      rw [if_neg (by decide)]
      split <;> simp [orS] <;> exact h1)
 · simp only [SC, S1, Bool.or_eq_true, Bool.and_eq_true, decide_eq_true_eq] at hk
   omega
@[reducible] def wantL (e : List Bool) (n k : Nat) : List Int := lst (S1 e n (k + 1)) 1024
theorem wantL_last (e : List Bool) {n k : Nat} (hn : n ≤ 12) (hk : n ≤ k) : wantL e n k = [3 + (n : Int)] := by
 refine rise_ext (lst_rise _ _) (by simp [Rise]) fun x => ?_
 rw [lst_mem]
 constructor
 · rintro ⟨y, h1, h2, rfl⟩
   have := (S1_last hk).1 h2
   simp [this]
 · intro h
   simp only [List.mem_singleton] at h
   exact ⟨3 + n, by omega, (S1_last hk).2 rfl, by omega⟩
theorem wantL_step (e : List Bool) {n i : Nat} (hn : n ≤ 12) (hi : i < n) : wantL e n i = if i + 1 < n ∧ e.getD (i + 1) false = true then putL (wantL e n (i + 1)) (3 + (i : Int)) else wantL e n (i + 1) := by
 split
 · rename_i h
   refine rise_ext (lst_rise _ _) (putL_rise (lst_rise _ _)) fun x => ?_
   rw [putL_mem, lst_mem, lst_mem]
   constructor
   · rintro ⟨y, h1, h2, rfl⟩
     rcases (S1_step hi).1 h2 with h3 | ⟨h3, _⟩
     · exact Or.inl ⟨y, h1, h3, rfl⟩
     · exact Or.inr (by omega)
   · rintro (⟨y, h1, h2, rfl⟩ | rfl)
     · exact ⟨y, h1, (S1_step hi).2 (Or.inl h2), rfl⟩
     · exact ⟨3 + i, by omega, (S1_step hi).2 (Or.inr ⟨rfl, h⟩), by omega⟩
 · rename_i h
   refine lst_congr fun y hy => ?_
   rw [Bool.eq_iff_iff, S1_step hi]
   constructor
   · rintro (h1 | ⟨_, h1⟩)
     · exact h1
     · exact absurd h1 h
   · exact Or.inl
theorem wantL_len (e : List Bool) (n k : Nat) : (wantL e n k).length ≤ 1024 := by
 simp only [lst, List.length_map]
 exact Nat.le_trans (List.length_filter_le _ _) (by simp)
theorem ofL_ch (e : List Bool) {n k : Nat} (hk : k ≤ n) : (ofL (n + 2) (SC e n))[k + 1]? = some (wantL e n k) := by
 rw [ofL, List.getElem?_map, List.getElem?_range (by omega)]
 simp only [Option.map_some, Option.some.injEq]
 refine lst_congr fun y hy => ?_
 simp only [SC, decide_eq_true (show k + 1 ≤ n + 1 by omega), Bool.true_and]
end Go.Proofs
