/- Part of a proof that a law of the given program answers true. -/
import Derived.Test.YtkcegflhobejmaaGreatDoorS0
import Derived.Test.YtkcegflhobejmaaGreatDoorS1
import Derived.Test.YtkcegflhobejmaaGreatDoorS2
import Derived.Test.YtkcegflhobejmaaGreatDoorS3
import Derived.Test.YtkcegflhobejmaaGreatDoorS4
import Derived.Test.YtkcegflhobejmaaGreatDoorS5
import Derived.Test.YtkcegflhobejmaaGreatDoorS6
import Derived.Test.YtkcegflhobejmaaGreatDoorS7
import Derived.Test.YtkcegflhobejmaaGreatDoorS8
import Derived.Test.YtkcegflhobejmaaGreatDoorS9
import Derived.Test.YtkcegflhobejmaaGreatDoorSSA
set_option linter.unusedSimpArgs false
set_option linter.unusedVariables false
set_option maxRecDepth 100000
namespace Go.Proofs
open Go.E
theorem tabN_ok {F : List Fct} (hF : FOk Tryz.prog F) {n k : Int} (h : n % 10 = k) : TabOk Tryz.prog (tabN F n k) where
 T := tabX_ok tok
 X := fun f a r ob hx hg => by
  have hx : cond (Nat.beq f 24) (some (vi k, [(V.tup a, V.tup [vi n, vi 10])])) (fctX F f a) = some (r, ob) := hx
  cases hb : Nat.beq f 24 with
  | false => rw [hb] at hx; exact fctX_ok hF hx
  | true =>
    rw [hb] at hx; cases hx
    have e : V.tup a = V.tup [vi n, vi 10] := hg (V.tup a, V.tup [vi n, vi 10]) (List.mem_cons_self ..)
    cases e
    rw [beq_ok hb, ← h]
    exact yuccaref0_Within (i := n) (n := 10) (by omega) (by omega)
theorem sum_fin {F : List Fct} (hF : FOk Tryz.prog F) {n k : Int} (h : n % 10 = k) (hr : pureC (tabN F n k) 60 6 [vi n] = some (.bool true, [(.tup [vi n, vi 10], .tup [vi n, vi 10])])) : Pure Tryz.prog 6 [vi n] (.bool true) :=
 closed_pure (tabN_ok hF h) hr fun p hp => by simp at hp; subst hp; rfl
theorem yuccalaw17_LookSums {n : Int} : Pure Tryz.prog 6 [vi n] (.bool true) := by
 have h1 := Int.emod_nonneg n (show (10 : Int) ≠ 0 by omega)
 have h2 := Int.emod_lt_of_pos n (show (0 : Int) < 10 by omega)
 by_cases c0 : n % 10 = 0
 · exact sum_fin q0_0 c0 (sum0 n)
 by_cases c1 : n % 10 = 1
 · exact sum_fin q1_0 c1 (sum1 n)
 by_cases c2 : n % 10 = 2
 · exact sum_fin q2_1 c2 (sum2 n)
 by_cases c3 : n % 10 = 3
 · exact sum_fin q3_1 c3 (sum3 n)
 by_cases c4 : n % 10 = 4
 · exact sum_fin q4_1 c4 (sum4 n)
 by_cases c5 : n % 10 = 5
 · exact sum_fin q5_1 c5 (sum5 n)
 by_cases c6 : n % 10 = 6
 · exact sum_fin q6_4 c6 (sum6 n)
 by_cases c7 : n % 10 = 7
 · exact sum_fin q7_8 c7 (sum7 n)
 by_cases c8 : n % 10 = 8
 · exact sum_fin q8_17 c8 (sum8 n)
 by_cases c9 : n % 10 = 9
 · exact sum_fin q9_36 c9 (sum9 n)
 omega
end Go.Proofs
