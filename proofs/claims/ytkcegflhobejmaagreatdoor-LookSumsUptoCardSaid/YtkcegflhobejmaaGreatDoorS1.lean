/- Part of a proof that a law of the given program answers true. -/
import Derived.Test.YtkcegflhobejmaaGreatDoorSSA
set_option linter.unusedSimpArgs false
set_option linter.unusedVariables false
set_option maxRecDepth 100000
namespace Go.Proofs
open Go.E
def F1_0 : List Fct := [(10, [], .bool true)]
theorem q1_0 : FOk Tryz.prog F1_0 := fok_wk
theorem sum1 (n : Int) : pureC (tabN F1_0 n 1) 60 6 [vi n] = some (.bool true, [(.tup [vi n, vi 10], .tup [vi n, vi 10])]) := by kernel_rfl
end Go.Proofs
