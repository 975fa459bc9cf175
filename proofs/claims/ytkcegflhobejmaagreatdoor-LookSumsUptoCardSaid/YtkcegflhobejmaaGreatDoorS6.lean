/- Part of a proof that a law of the given program answers true. -/
import Derived.Test.YtkcegflhobejmaaGreatDoorSSA
set_option linter.unusedSimpArgs false
set_option linter.unusedVariables false
set_option maxRecDepth 100000
namespace Go.Proofs
open Go.E
def d6_0 : V := (.agg [(vi 2), (.sl 1 false [(vi 12)]), (vi 12), (.str []), (.sl 1 false [(vi 12)]), (vi 0)])
def d6_1 : V := (.agg [(.str [101, 114, 114, 111, 114]), (.bool false), (vi (-1)), (vi 0), (vi 0), (.str [])])
def d6_2 : V := (.sl 2 false [(.agg [(vi 10), (vi 1)]), (.agg [(vi 12), (vi 2)]), (.agg [(vi 1002), (vi 14)])])
def d6_3 : V := (.sl 2 false [(.agg [(vi 10), (vi 1)]), (.agg [(vi 12), (vi 2)]), (.agg [(vi 1002), (vi 15)])])
def d6_4 : V := (.sl 2 false [(.agg [(vi 10), (vi 1)]), (.agg [(vi 12), (vi 2)]), (.agg [(vi 1002), (vi 16)])])
def d6_5 : V := (.sl 2 false [(.agg [(vi 10), (vi 1)]), (.agg [(vi 12), (vi 2)]), (.agg [(vi 1002), (vi 17)])])
def d6_6 : V := (.sl 2 false [(.agg [(vi 10), (vi 1)]), (.agg [(vi 12), (vi 2)]), (.agg [(vi 1002), (vi 18)])])
def d6_7 : V := (.sl 2 false [(.agg [(vi 10), (vi 1)]), (.agg [(vi 12), (vi 2)]), (.agg [(vi 1002), (vi 19)])])
def d6_8 : V := (.sl 2 false [(.agg [(vi 10), (vi 1)]), (.agg [(vi 12), (vi 2)]), (.agg [(vi 1002), (vi 20)])])
def d6_9 : V := (.agg [(vi 1), (.sl 1 false [(vi 1002)]), (vi (-1)), (.str []), (.sl 1 false [(vi 1002)]), (vi 0)])
def d6_10 : V := (.sl 2 false [(.agg [(vi 10), (vi 1)]), (.agg [(vi 12), (vi 2)]), (.agg [(vi 1001), (vi 3)]), (.agg [(vi 1002), (vi 4)])])
def d6_11 : V := (.sl 2 false [(.agg [(vi 10), (vi 1)]), (.agg [(vi 12), (vi 2)]), (.agg [(vi 1001), (vi 5)]), (.agg [(vi 1002), (vi 4)])])
def d6_12 : V := (.agg [(vi 2), (.sl 1 false [(vi 10), (vi 1001), (vi 11)]), (vi 11), (.str []), (.sl 1 false [(vi 10), (vi 1001), (vi 11)]), (vi 0)])
def d6_13 : V := (.agg [(vi 1), (.sl 1 false [(vi 1001), (vi 3), (vi 1002)]), (vi 3), (.str []), (.sl 1 false [(vi 1001), (vi 3), (vi 1002)]), (vi 0)])
def d6_14 : V := (.agg [(vi 1), (.sl 1 false [(vi 1001), (vi 4), (vi 1002)]), (vi 4), (.str []), (.sl 1 false [(vi 1001), (vi 4), (vi 1002)]), (vi 0)])
def d6_15 : V := (.agg [(vi 1), (.sl 1 false [(vi 1001), (vi 5), (vi 1002)]), (vi 5), (.str []), (.sl 1 false [(vi 1001), (vi 5), (vi 1002)]), (vi 0)])
def d6_16 : V := (.agg [(vi 1), (.sl 1 false [(vi 1001), (vi 6), (vi 1002)]), (vi 6), (.str []), (.sl 1 false [(vi 1001), (vi 6), (vi 1002)]), (vi 0)])
def d6_17 : V := (.agg [(vi 1), (.sl 1 false [(vi 1001), (vi 7), (vi 1002)]), (vi 7), (.str []), (.sl 1 false [(vi 1001), (vi 7), (vi 1002)]), (vi 0)])
def d6_18 : V := (.agg [(vi 1), (.sl 1 false [(vi 1001), (vi 8), (vi 1002)]), (vi 8), (.str []), (.sl 1 false [(vi 1001), (vi 8), (vi 1002)]), (vi 0)])
def d6_19 : V := (.agg [(vi 1), (.sl 1 false [(vi 1001), (vi 9), (vi 1002)]), (vi 9), (.str []), (.sl 1 false [(vi 1001), (vi 9), (vi 1002)]), (vi 0)])
def d6_20 : V := (.sl 2 false [(.agg [(.str [36, 97, 99, 99, 101, 112, 116]), (.str [])]), (.agg [(.str [101]), (.str [])]), (.agg [(.str [102]), (.str [])])])
def d6_21 : V := (.agg [(.sl 2 false [(.agg [(vi 2), (vi 2)])]), d6_2])
def d6_22 : V := (.agg [(.sl 2 false [(.agg [(vi 3), (vi 2)])]), d6_3])
def d6_23 : V := (.agg [(.sl 2 false [(.agg [(vi 4), (vi 2)])]), d6_4])
def d6_24 : V := (.agg [(.sl 2 false [(.agg [(vi 5), (vi 2)])]), d6_5])
def d6_25 : V := (.agg [(.sl 2 false [(.agg [(vi 6), (vi 2)])]), d6_6])
def d6_26 : V := (.agg [(.sl 2 false [(.agg [(vi 7), (vi 2)])]), d6_7])
def d6_27 : V := (.agg [(.sl 2 false [(.agg [(vi 8), (vi 2)])]), d6_8])
def d6_28 : V := (.agg [(.sl 2 false [(.agg [(vi 0), (vi 0)])]), d6_10])
def d6_29 : V := (.agg [(.sl 2 false [(.agg [(vi 9), (vi 1)])]), d6_11])
def d6_30 : V := (.sl 2 false [(.agg [(vi 3), (vi 6)]), (.agg [(vi 4), (vi 7)]), (.agg [(vi 5), (vi 8)]), (.agg [(vi 6), (vi 9)]), (.agg [(vi 7), (vi 10)]), (.agg [(vi 8), (vi 11)]), (.agg [(vi 9), (vi 12)])])
def d6_31 : V := (.sl 2 false [(.agg [(vi 0), (vi 1)]), (.agg [(vi 2), (vi 1)]), (.agg [(vi 3), (vi 1)]), (.agg [(vi 4), (vi 1)]), (.agg [(vi 5), (vi 1)]), (.agg [(vi 6), (vi 1)]), (.agg [(vi 7), (vi 1)]), (.agg [(vi 8), (vi 1)])])
def d6_32 : V := (.sl 2 false [(.agg [(vi 2), (vi 1)]), (.agg [(vi 3), (vi 1)]), (.agg [(vi 4), (vi 1)]), (.agg [(vi 5), (vi 1)]), (.agg [(vi 6), (vi 1)]), (.agg [(vi 7), (vi 1)]), (.agg [(vi 8), (vi 1)]), (.agg [(vi 9), (vi 2)])])
def d6_33 : V := (.sl 2 false [(.agg [(vi 3), (vi 6)]), (.agg [(vi 4), (vi 7)]), (.agg [(vi 5), (vi 8)]), (.agg [(vi 6), (vi 9)]), (.agg [(vi 7), (vi 10)]), (.agg [(vi 8), (vi 11)]), (.agg [(vi 9), (vi 12)]), (.agg [(vi 11), (vi 13)])])
def d6_34 : V := (.agg [d6_31, d6_30])
def d6_35 : V := (.agg [d6_32, d6_33])
def d6_36 : V := (.sl 6 false [(.agg [(.str [36, 101, 110, 100]), (.bool false), (vi 0), (vi 0), (vi 0), (.str [])]), d6_1, (.agg [(.str [36, 117, 110, 107]), (.bool false), (vi (-1)), (vi 0), (vi 0), (.str [])]), (.agg [(.str [65]), (.bool true), (vi 65), (vi 0), (vi 0), (.str [])]), (.agg [(.str [66]), (.bool true), (vi 66), (vi 0), (vi 0), (.str [])]), (.agg [(.str [67]), (.bool true), (vi 67), (vi 0), (vi 0), (.str [])]), (.agg [(.str [68]), (.bool true), (vi 68), (vi 0), (vi 0), (.str [])]), (.agg [(.str [69]), (.bool true), (vi 69), (vi 0), (vi 0), (.str [])]), (.agg [(.str [70]), (.bool true), (vi 70), (vi 0), (vi 0), (.str [])]), (.agg [(.str [71]), (.bool true), (vi 71), (vi 0), (vi 0), (.str [])]), (.agg [(.str [40]), (.bool true), (vi 40), (vi 0), (vi 0), (.str [])]), (.agg [(.str [41]), (.bool true), (vi 41), (vi 0), (vi 0), (.str [])]), (.agg [(.str [120]), (.bool true), (vi 120), (vi 0), (vi 0), (.str [])])])
def d6_37 : V := (.sl 6 false [(.agg [(vi 0), (.sl 1 false [(vi 1001)]), (vi (-1)), (.str []), (.sl 1 false []), (vi 0)]), d6_9, d6_13, d6_14, d6_15, d6_16, d6_17, d6_18, d6_19, d6_12, d6_0])
def d6_38 : V := (.agg [d6_36, d6_20, d6_37, (.str []), (.str [])])
def d6_39 : V := (.sl 2 false [d6_28, d6_29, (.agg [(.sl 2 false [(.agg [(vi 10), (vi 1)])]), (.sl 2 false [])]), d6_34, (.agg [(.sl 2 false [(.agg [(vi 1), (vi 1)])]), (.sl 2 false [])]), d6_35, d6_21, d6_22, d6_23, d6_24, d6_25, d6_26, d6_27, (.agg [(.sl 2 false [(.agg [(vi 9), (vi 3)])]), (.sl 2 false [])]), (.agg [(.sl 2 false [(.agg [(vi 2), (vi 3)])]), (.sl 2 false [])]), (.agg [(.sl 2 false [(.agg [(vi 3), (vi 3)])]), (.sl 2 false [])]), (.agg [(.sl 2 false [(.agg [(vi 4), (vi 3)])]), (.sl 2 false [])]), (.agg [(.sl 2 false [(.agg [(vi 5), (vi 3)])]), (.sl 2 false [])]), (.agg [(.sl 2 false [(.agg [(vi 6), (vi 3)])]), (.sl 2 false [])]), (.agg [(.sl 2 false [(.agg [(vi 7), (vi 3)])]), (.sl 2 false [])]), (.agg [(.sl 2 false [(.agg [(vi 8), (vi 3)])]), (.sl 2 false [])])])
def F6_0 : List Fct := [(10, [], .bool true)]
theorem q6_0 : FOk Tryz.prog F6_0 := fok_wk
def F6_1 : List Fct := (84, [d6_38, (.sl 2 false [(.agg [(vi 0), (vi 0)])])], (.sl 2 false [(.agg [(vi 0), (vi 0)]), (.agg [(vi 1), (vi 0)]), (.agg [(vi 2), (vi 0)]), (.agg [(vi 3), (vi 0)]), (.agg [(vi 4), (vi 0)]), (.agg [(vi 5), (vi 0)]), (.agg [(vi 6), (vi 0)]), (.agg [(vi 7), (vi 0)]), (.agg [(vi 8), (vi 0)]), (.agg [(vi 9), (vi 0)]), (.agg [(vi 10), (vi 0)])])) :: F6_0
theorem q6_1 : FOk Tryz.prog F6_1 := fok_step tok (n := 60) q6_0 (by kernel_rfl)
def F6_2 : List Fct := (84, [d6_38, (.sl 2 false [(.agg [(vi 9), (vi 1)])])], (.sl 2 false [(.agg [(vi 1), (vi 0)]), (.agg [(vi 2), (vi 0)]), (.agg [(vi 3), (vi 0)]), (.agg [(vi 4), (vi 0)]), (.agg [(vi 5), (vi 0)]), (.agg [(vi 6), (vi 0)]), (.agg [(vi 7), (vi 0)]), (.agg [(vi 8), (vi 0)]), (.agg [(vi 9), (vi 0)]), (.agg [(vi 9), (vi 1)]), (.agg [(vi 10), (vi 0)])])) :: F6_1
theorem q6_2 : FOk Tryz.prog F6_2 := fok_step tok (n := 60) q6_1 (by kernel_rfl)
def F6_3 : List Fct := (50, [d6_38], (.tup [d6_39, (vi 0)])) :: F6_2
theorem q6_3 : FOk Tryz.prog F6_3 := fok_step tok (n := 60) q6_2 (by kernel_rfl)
def F6_4 : List Fct := (31, [d6_38, d6_39], (.sl 3 false [(.agg [(vi 2), (vi 10), (.sl 1 false [(vi 0), (vi 3), (vi 4), (vi 5), (vi 6), (vi 7), (vi 8), (vi 9), (vi 11)])]), (.agg [(vi 4), (vi 1), (.sl 1 false [(vi 0), (vi 3), (vi 4), (vi 5), (vi 6), (vi 7), (vi 8), (vi 9), (vi 11)])]), (.agg [(vi 13), (vi 9), (.sl 1 false [(vi 0), (vi 3), (vi 4), (vi 5), (vi 6), (vi 7), (vi 8), (vi 9), (vi 11)])]), (.agg [(vi 14), (vi 2), (.sl 1 false [(vi 0), (vi 3), (vi 4), (vi 5), (vi 6), (vi 7), (vi 8), (vi 9), (vi 11)])]), (.agg [(vi 15), (vi 3), (.sl 1 false [(vi 0), (vi 3), (vi 4), (vi 5), (vi 6), (vi 7), (vi 8), (vi 9), (vi 11)])]), (.agg [(vi 16), (vi 4), (.sl 1 false [(vi 0), (vi 3), (vi 4), (vi 5), (vi 6), (vi 7), (vi 8), (vi 9), (vi 11)])]), (.agg [(vi 17), (vi 5), (.sl 1 false [(vi 0), (vi 3), (vi 4), (vi 5), (vi 6), (vi 7), (vi 8), (vi 9), (vi 11)])]), (.agg [(vi 18), (vi 6), (.sl 1 false [(vi 0), (vi 3), (vi 4), (vi 5), (vi 6), (vi 7), (vi 8), (vi 9), (vi 11)])]), (.agg [(vi 19), (vi 7), (.sl 1 false [(vi 0), (vi 3), (vi 4), (vi 5), (vi 6), (vi 7), (vi 8), (vi 9), (vi 11)])]), (.agg [(vi 20), (vi 8), (.sl 1 false [(vi 0), (vi 3), (vi 4), (vi 5), (vi 6), (vi 7), (vi 8), (vi 9), (vi 11)])])])) :: F6_3
theorem q6_4 : FOk Tryz.prog F6_4 := fok_step tok (n := 60) q6_3 (by kernel_rfl)
theorem sum6 (n : Int) : pureC (tabN F6_4 n 6) 60 6 [vi n] = some (.bool true, [(.tup [vi n, vi 10], .tup [vi n, vi 10])]) := by kernel_rfl
end Go.Proofs
