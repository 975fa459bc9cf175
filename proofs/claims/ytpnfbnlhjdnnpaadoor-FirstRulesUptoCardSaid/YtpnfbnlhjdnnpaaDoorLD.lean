/-
  Part of a proof that a law of the given program answers true: contracts of its functions, and the law. Holds for inputs of at most 1048576 values and letters in all.
-/
import Derived.Test.YtpnfbnlhjdnnpaaDoorLC
import Derived.Test.YtpnfbnlhjdnnpaaDoorJB
import Derived.Test.YtpnfbnlhjdnnpaaDoorKA
set_option linter.unusedSimpArgs false
set_option linter.unusedVariables false
set_option maxHeartbeats 4000000
set_option maxRecDepth 20000
namespace Go.Proofs
open Go.E
theorem lstA_app (S : Nat → Nat → Bool) (E : Nat → Bool) : ∀ (l m : List Int) (a : Nat → Bool), lstA S E (l ++ m) a = if (lstA S E l a).2 = true then lstA S E m (lstA S E l a).1 else lstA S E l a
 | [], m, a => by simp [lstA]
 | x :: r, m, a => by
   show lstA S E (x :: (r ++ m)) a = _
   rw [lstA, lstA]
   by_cases hx : x < 1000
   · rw [if_pos hx, if_pos hx]; rfl
   · rw [if_neg hx, if_neg hx]
     by_cases hE : E (x - 1000).toNat = true
     · rw [if_pos hE, if_pos hE]; exact lstA_app S E r m _
     · rw [if_neg hE, if_neg hE]; rfl
theorem lstA_acc (S : Nat → Nat → Bool) (E : Nat → Bool) : ∀ (l : List Int) (a b : Nat → Bool), (∀ y, (lstA S E l (orS a b)).1 y = (a y || (lstA S E l b).1 y)) ∧ (lstA S E l (orS a b)).2 = (lstA S E l b).2
 | [], a, b => ⟨fun y => rfl, rfl⟩
 | x :: r, a, b => by
   have ho : ∀ c, orS (orS a b) c = orS a (orS b c) := fun c => by funext y; simp [orS, Bool.or_assoc]
   rw [lstA, lstA]
   by_cases hx : x < 1000
   · rw [if_pos hx, if_pos hx, ho]; exact ⟨fun y => rfl, rfl⟩
   · rw [if_neg hx, if_neg hx, ho]
     by_cases hE : E (x - 1000).toNat = true
     · rw [if_pos hE, if_pos hE]; exact lstA_acc S E r a _
     · rw [if_neg hE, if_neg hE]; exact ⟨fun y => rfl, rfl⟩
theorem lstA_from (S : Nat → Nat → Bool) (E : Nat → Bool) (l : List Int) (a : Nat → Bool) : (∀ y, (lstA S E l a).1 y = (a y || (lstF S E l).1 y)) ∧ (lstA S E l a).2 = (lstF S E l).2 := by
 have := lstA_acc S E l a (fun _ => false)
 have e : orS a (fun _ => false) = a := by funext y; simp [orS]
 rw [e] at this; exact this
theorem foldPut (bs : List Int) : ∀ (l : List Int), Rise l → Rise (bs.foldl putL l) ∧ ∀ x, x ∈ bs.foldl putL l ↔ x ∈ l ∨ x ∈ bs := by
 induction bs with
 | nil => intro l h; exact ⟨h, fun x => by simp⟩
 | cons b r ih =>
   intro l h
   obtain ⟨h1, h2⟩ := ih (putL l b) (putL_rise h)
   refine ⟨h1, fun x => ?_⟩
   rw [List.foldl_cons, h2, putL_mem, List.mem_cons, or_assoc]
theorem foldPut_len (bs : List Int) : ∀ (l : List Int), (bs.foldl putL l).length ≤ l.length + bs.length := by
 induction bs with
 | nil => intro l; simp
 | cons b r ih => intro l; have := ih (putL l b); have := putL_len l b; rw [List.foldl_cons, List.length_cons]; omega
theorem foldPut_lst (A B : Nat → Bool) : (lst B 1024).foldl putL (lst A 1024) = lst (fun y => A y || B y) 1024 := by
 obtain ⟨h1, h2⟩ := foldPut (lst B 1024) (lst A 1024) (lst_rise A 1024)
 refine rise_ext h1 (lst_rise _ _) fun x => ?_
 rw [h2, lst_mem, lst_mem, lst_mem]
 constructor
 · rintro (⟨y, a, b, c⟩ | ⟨y, a, b, c⟩)
   · exact ⟨y, a, by simp [b], c⟩
   · exact ⟨y, a, by simp [b], c⟩
 · rintro ⟨y, a, b, c⟩
   rw [Bool.or_eq_true] at b
   exact b.imp (fun b => ⟨y, a, b, c⟩) (fun b => ⟨y, a, b, c⟩)
theorem firstL_ok {nt nn : Nat} {S : Nat → Nat → Bool} {E : Nat → Bool} {l : List Int} (h : ∀ x ∈ l, symOkB nt nn x = true) : firstL nt nn S E l = (lst (lstF S E l).1 1024, (lstF S E l).2) := by
 unfold firstL; rw [if_pos (List.all_eq_true.2 h)]
theorem first_split {nt nn : Nat} {S : Nat → Nat → Bool} {E : Nat → Bool} {l m : List Int} (hl : ∀ x ∈ l, symOkB nt nn x = true) (hm : ∀ x ∈ m, symOkB nt nn x = true) :
 firstL nt nn S E (l ++ m) = (if (firstL nt nn S E l).2 = true then (firstL nt nn S E m).1.foldl putL (firstL nt nn S E l).1 else (firstL nt nn S E l).1, (firstL nt nn S E l).2 && (firstL nt nn S E m).2) := by
 rw [firstL_ok hl, firstL_ok hm, firstL_ok (fun x hx => (List.mem_append.1 hx).elim (hl x) (hm x))]
 dsimp only
 unfold lstF
 rw [lstA_app]
 obtain ⟨h1, h2⟩ := lstA_from S E m (lstA S E l fun _ => false).1
 by_cases hp : (lstA S E l fun _ => false).2 = true
 · rw [if_pos hp, if_pos hp, hp, h2, foldPut_lst]
   refine Prod.ext (lst_congr fun y _ => ?_) rfl
   exact h1 y
 · have hf : (lstA S E l fun _ => false).2 = false := by simpa using hp
   rw [if_neg hp, if_neg hp, hf]; rfl
theorem plainS_ok {nt nn : Nat} (h : 0 < nt + nn) (l : List Int) : ∀ x ∈ plainS nt nn l, symOkB nt nn x = true := fun x hx => by
 obtain ⟨y, _, rfl⟩ := List.mem_map.1 hx
 exact plainX_ok h y
theorem plainS_len (nt nn : Nat) (l : List Int) : (plainS nt nn l).length ≤ 6 := by unfold plainS; rw [List.length_map, List.length_take]; omega
theorem firstL_len (nt nn : Nat) (S : Nat → Nat → Bool) (E : Nat → Bool) (l : List Int) : (firstL nt nn S E l).1.length ≤ 1024 := by
 unfold firstL; split
 · exact lst_len _ _
 · simp
theorem gramI (x : GrI) : Pure Tryd.prog 11 [(sourceS x).V] (.tup [(gramS (sourceS x)).V, .bool true]) := by
 have := yuccaref16_Grammar (sourceS_fits x) (fun _ => sourceS_small x)
 rw [sourceS_ok x] at this
 exact this
end Go.Proofs
