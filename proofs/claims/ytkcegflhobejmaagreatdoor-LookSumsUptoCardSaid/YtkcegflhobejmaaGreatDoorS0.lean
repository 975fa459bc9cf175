/- Part of a proof that a law of the given program answers true. -/
import Derived.Test.YtkcegflhobejmaaGreatDoorSSA
set_option linter.unusedSimpArgs false
set_option linter.unusedVariables false
set_option maxRecDepth 100000
namespace Go.Proofs
open Go.E
def F0_0 : List Fct := [(10, [], .bool true)]
theorem q0_0 : FOk Tryz.prog F0_0 := fok_wk
theorem sum0 (n : Int) : pureC (tabN F0_0 n 0) 60 6 [vi n] = some (.bool true, [(.tup [vi n, vi 10], .tup [vi n, vi 10])]) := by kernel_rfl
end Go.Proofs
