/- Part of a proof that a law of the given program answers true. -/
import Derived.Test.YtkcegflhobejmaaGreatDoorSSA
set_option linter.unusedSimpArgs false
set_option linter.unusedVariables false
set_option maxRecDepth 100000
namespace Go.Proofs
open Go.E
def d7_0 : V := (.agg [(vi 2), (.sl 1 false [(vi 13)]), (vi 13), (.str []), (.sl 1 false [(vi 13)]), (vi 0)])
def d7_1 : V := (.agg [(.str [101, 114, 114, 111, 114]), (.bool false), (vi (-1)), (vi 0), (vi 0), (.str [])])
def d7_2 : V := (.sl 2 false [(.agg [(vi 11), (vi 1)]), (.agg [(vi 13), (vi 2)]), (.agg [(vi 1002), (vi 15)])])
def d7_3 : V := (.sl 2 false [(.agg [(vi 11), (vi 1)]), (.agg [(vi 13), (vi 2)]), (.agg [(vi 1002), (vi 16)])])
def d7_4 : V := (.sl 2 false [(.agg [(vi 11), (vi 1)]), (.agg [(vi 13), (vi 2)]), (.agg [(vi 1002), (vi 17)])])
def d7_5 : V := (.sl 2 false [(.agg [(vi 11), (vi 1)]), (.agg [(vi 13), (vi 2)]), (.agg [(vi 1002), (vi 18)])])
def d7_6 : V := (.sl 2 false [(.agg [(vi 11), (vi 1)]), (.agg [(vi 13), (vi 2)]), (.agg [(vi 1002), (vi 19)])])
def d7_7 : V := (.sl 2 false [(.agg [(vi 11), (vi 1)]), (.agg [(vi 13), (vi 2)]), (.agg [(vi 1002), (vi 20)])])
def d7_8 : V := (.sl 2 false [(.agg [(vi 11), (vi 1)]), (.agg [(vi 13), (vi 2)]), (.agg [(vi 1002), (vi 21)])])
def d7_9 : V := (.sl 2 false [(.agg [(vi 11), (vi 1)]), (.agg [(vi 13), (vi 2)]), (.agg [(vi 1002), (vi 22)])])
def d7_10 : V := (.sl 1 false [(vi 0), (vi 3), (vi 4), (vi 5), (vi 6), (vi 7), (vi 8), (vi 9), (vi 10), (vi 12)])
def d7_11 : V := (.agg [(vi 1), (.sl 1 false [(vi 1002)]), (vi (-1)), (.str []), (.sl 1 false [(vi 1002)]), (vi 0)])
def d7_12 : V := (.sl 2 false [(.agg [(vi 11), (vi 1)]), (.agg [(vi 13), (vi 2)]), (.agg [(vi 1001), (vi 3)]), (.agg [(vi 1002), (vi 4)])])
def d7_13 : V := (.sl 2 false [(.agg [(vi 11), (vi 1)]), (.agg [(vi 13), (vi 2)]), (.agg [(vi 1001), (vi 5)]), (.agg [(vi 1002), (vi 4)])])
def d7_14 : V := (.agg [(vi 2), (.sl 1 false [(vi 11), (vi 1001), (vi 12)]), (vi 12), (.str []), (.sl 1 false [(vi 11), (vi 1001), (vi 12)]), (vi 0)])
def d7_15 : V := (.agg [(vi 1), (.sl 1 false [(vi 1001), (vi 3), (vi 1002)]), (vi 3), (.str []), (.sl 1 false [(vi 1001), (vi 3), (vi 1002)]), (vi 0)])
def d7_16 : V := (.agg [(vi 1), (.sl 1 false [(vi 1001), (vi 4), (vi 1002)]), (vi 4), (.str []), (.sl 1 false [(vi 1001), (vi 4), (vi 1002)]), (vi 0)])
def d7_17 : V := (.agg [(vi 1), (.sl 1 false [(vi 1001), (vi 5), (vi 1002)]), (vi 5), (.str []), (.sl 1 false [(vi 1001), (vi 5), (vi 1002)]), (vi 0)])
def d7_18 : V := (.agg [(vi 1), (.sl 1 false [(vi 1001), (vi 6), (vi 1002)]), (vi 6), (.str []), (.sl 1 false [(vi 1001), (vi 6), (vi 1002)]), (vi 0)])
def d7_19 : V := (.agg [(vi 1), (.sl 1 false [(vi 1001), (vi 7), (vi 1002)]), (vi 7), (.str []), (.sl 1 false [(vi 1001), (vi 7), (vi 1002)]), (vi 0)])
def d7_20 : V := (.agg [(vi 1), (.sl 1 false [(vi 1001), (vi 8), (vi 1002)]), (vi 8), (.str []), (.sl 1 false [(vi 1001), (vi 8), (vi 1002)]), (vi 0)])
def d7_21 : V := (.agg [(vi 1), (.sl 1 false [(vi 1001), (vi 9), (vi 1002)]), (vi 9), (.str []), (.sl 1 false [(vi 1001), (vi 9), (vi 1002)]), (vi 0)])
def d7_22 : V := (.agg [(vi 1), (.sl 1 false [(vi 1001), (vi 10), (vi 1002)]), (vi 10), (.str []), (.sl 1 false [(vi 1001), (vi 10), (vi 1002)]), (vi 0)])
def d7_23 : V := (.sl 2 false [(.agg [(.str [36, 97, 99, 99, 101, 112, 116]), (.str [])]), (.agg [(.str [101]), (.str [])]), (.agg [(.str [102]), (.str [])])])
def d7_24 : V := (.agg [(.sl 2 false [(.agg [(vi 2), (vi 2)])]), d7_2])
def d7_25 : V := (.agg [(.sl 2 false [(.agg [(vi 3), (vi 2)])]), d7_3])
def d7_26 : V := (.agg [(.sl 2 false [(.agg [(vi 4), (vi 2)])]), d7_4])
def d7_27 : V := (.agg [(.sl 2 false [(.agg [(vi 5), (vi 2)])]), d7_5])
def d7_28 : V := (.agg [(.sl 2 false [(.agg [(vi 6), (vi 2)])]), d7_6])
def d7_29 : V := (.agg [(.sl 2 false [(.agg [(vi 7), (vi 2)])]), d7_7])
def d7_30 : V := (.agg [(.sl 2 false [(.agg [(vi 8), (vi 2)])]), d7_8])
def d7_31 : V := (.agg [(.sl 2 false [(.agg [(vi 9), (vi 2)])]), d7_9])
def d7_32 : V := (.agg [(.sl 2 false [(.agg [(vi 0), (vi 0)])]), d7_12])
def d7_33 : V := (.agg [(.sl 2 false [(.agg [(vi 10), (vi 1)])]), d7_13])
def d7_34 : V := (.sl 2 false [(.agg [(vi 3), (vi 6)]), (.agg [(vi 4), (vi 7)]), (.agg [(vi 5), (vi 8)]), (.agg [(vi 6), (vi 9)]), (.agg [(vi 7), (vi 10)]), (.agg [(vi 8), (vi 11)]), (.agg [(vi 9), (vi 12)]), (.agg [(vi 10), (vi 13)])])
def d7_35 : V := (.sl 2 false [(.agg [(vi 0), (vi 1)]), (.agg [(vi 2), (vi 1)]), (.agg [(vi 3), (vi 1)]), (.agg [(vi 4), (vi 1)]), (.agg [(vi 5), (vi 1)]), (.agg [(vi 6), (vi 1)]), (.agg [(vi 7), (vi 1)]), (.agg [(vi 8), (vi 1)]), (.agg [(vi 9), (vi 1)])])
def d7_36 : V := (.sl 2 false [(.agg [(vi 2), (vi 1)]), (.agg [(vi 3), (vi 1)]), (.agg [(vi 4), (vi 1)]), (.agg [(vi 5), (vi 1)]), (.agg [(vi 6), (vi 1)]), (.agg [(vi 7), (vi 1)]), (.agg [(vi 8), (vi 1)]), (.agg [(vi 9), (vi 1)]), (.agg [(vi 10), (vi 2)])])
def d7_37 : V := (.sl 2 false [(.agg [(vi 3), (vi 6)]), (.agg [(vi 4), (vi 7)]), (.agg [(vi 5), (vi 8)]), (.agg [(vi 6), (vi 9)]), (.agg [(vi 7), (vi 10)]), (.agg [(vi 8), (vi 11)]), (.agg [(vi 9), (vi 12)]), (.agg [(vi 10), (vi 13)]), (.agg [(vi 12), (vi 14)])])
def d7_38 : V := (.agg [d7_35, d7_34])
def d7_39 : V := (.agg [d7_36, d7_37])
def d7_40 : V := (.sl 6 false [(.agg [(.str [36, 101, 110, 100]), (.bool false), (vi 0), (vi 0), (vi 0), (.str [])]), d7_1, (.agg [(.str [36, 117, 110, 107]), (.bool false), (vi (-1)), (vi 0), (vi 0), (.str [])]), (.agg [(.str [65]), (.bool true), (vi 65), (vi 0), (vi 0), (.str [])]), (.agg [(.str [66]), (.bool true), (vi 66), (vi 0), (vi 0), (.str [])]), (.agg [(.str [67]), (.bool true), (vi 67), (vi 0), (vi 0), (.str [])]), (.agg [(.str [68]), (.bool true), (vi 68), (vi 0), (vi 0), (.str [])]), (.agg [(.str [69]), (.bool true), (vi 69), (vi 0), (vi 0), (.str [])]), (.agg [(.str [70]), (.bool true), (vi 70), (vi 0), (vi 0), (.str [])]), (.agg [(.str [71]), (.bool true), (vi 71), (vi 0), (vi 0), (.str [])]), (.agg [(.str [72]), (.bool true), (vi 72), (vi 0), (vi 0), (.str [])]), (.agg [(.str [40]), (.bool true), (vi 40), (vi 0), (vi 0), (.str [])]), (.agg [(.str [41]), (.bool true), (vi 41), (vi 0), (vi 0), (.str [])]), (.agg [(.str [120]), (.bool true), (vi 120), (vi 0), (vi 0), (.str [])])])
def d7_41 : V := (.sl 6 false [(.agg [(vi 0), (.sl 1 false [(vi 1001)]), (vi (-1)), (.str []), (.sl 1 false []), (vi 0)]), d7_11, d7_15, d7_16, d7_17, d7_18, d7_19, d7_20, d7_21, d7_22, d7_14, d7_0])
def d7_42 : V := (.agg [d7_40, d7_23, d7_41, (.str []), (.str [])])
def d7_43 : V := (.sl 2 false [d7_32, d7_33, (.agg [(.sl 2 false [(.agg [(vi 11), (vi 1)])]), (.sl 2 false [])]), d7_38, (.agg [(.sl 2 false [(.agg [(vi 1), (vi 1)])]), (.sl 2 false [])]), d7_39, d7_24, d7_25, d7_26, d7_27, d7_28, d7_29, d7_30, d7_31, (.agg [(.sl 2 false [(.agg [(vi 10), (vi 3)])]), (.sl 2 false [])]), (.agg [(.sl 2 false [(.agg [(vi 2), (vi 3)])]), (.sl 2 false [])]), (.agg [(.sl 2 false [(.agg [(vi 3), (vi 3)])]), (.sl 2 false [])]), (.agg [(.sl 2 false [(.agg [(vi 4), (vi 3)])]), (.sl 2 false [])]), (.agg [(.sl 2 false [(.agg [(vi 5), (vi 3)])]), (.sl 2 false [])]), (.agg [(.sl 2 false [(.agg [(vi 6), (vi 3)])]), (.sl 2 false [])]), (.agg [(.sl 2 false [(.agg [(vi 7), (vi 3)])]), (.sl 2 false [])]), (.agg [(.sl 2 false [(.agg [(vi 8), (vi 3)])]), (.sl 2 false [])]), (.agg [(.sl 2 false [(.agg [(vi 9), (vi 3)])]), (.sl 2 false [])])])
def F7_0 : List Fct := [(10, [], .bool true)]
theorem q7_0 : FOk Tryz.prog F7_0 := fok_wk
def F7_1 : List Fct := (84, [d7_42, (.sl 2 false [(.agg [(vi 0), (vi 0)])])], (.sl 2 false [(.agg [(vi 0), (vi 0)]), (.agg [(vi 1), (vi 0)]), (.agg [(vi 2), (vi 0)]), (.agg [(vi 3), (vi 0)]), (.agg [(vi 4), (vi 0)]), (.agg [(vi 5), (vi 0)]), (.agg [(vi 6), (vi 0)]), (.agg [(vi 7), (vi 0)]), (.agg [(vi 8), (vi 0)]), (.agg [(vi 9), (vi 0)]), (.agg [(vi 10), (vi 0)]), (.agg [(vi 11), (vi 0)])])) :: F7_0
theorem q7_1 : FOk Tryz.prog F7_1 := fok_step tok (n := 60) q7_0 (by kernel_rfl)
def F7_2 : List Fct := (84, [d7_42, (.sl 2 false [(.agg [(vi 10), (vi 1)])])], (.sl 2 false [(.agg [(vi 1), (vi 0)]), (.agg [(vi 2), (vi 0)]), (.agg [(vi 3), (vi 0)]), (.agg [(vi 4), (vi 0)]), (.agg [(vi 5), (vi 0)]), (.agg [(vi 6), (vi 0)]), (.agg [(vi 7), (vi 0)]), (.agg [(vi 8), (vi 0)]), (.agg [(vi 9), (vi 0)]), (.agg [(vi 10), (vi 0)]), (.agg [(vi 10), (vi 1)]), (.agg [(vi 11), (vi 0)])])) :: F7_1
theorem q7_2 : FOk Tryz.prog F7_2 := fok_step tok (n := 60) q7_1 (by kernel_rfl)
def F7_3 : List Fct := (84, [d7_42, (.sl 2 false [(.agg [(vi 2), (vi 2)])])], (.sl 2 false [(.agg [(vi 2), (vi 2)]), (.agg [(vi 10), (vi 0)]), (.agg [(vi 11), (vi 0)])])) :: F7_2
theorem q7_3 : FOk Tryz.prog F7_3 := fok_step tok (n := 60) q7_2 (by kernel_rfl)
def F7_4 : List Fct := (84, [d7_42, (.sl 2 false [(.agg [(vi 3), (vi 2)])])], (.sl 2 false [(.agg [(vi 3), (vi 2)]), (.agg [(vi 10), (vi 0)]), (.agg [(vi 11), (vi 0)])])) :: F7_3
theorem q7_4 : FOk Tryz.prog F7_4 := fok_step tok (n := 60) q7_3 (by kernel_rfl)
def F7_5 : List Fct := (84, [d7_42, (.sl 2 false [(.agg [(vi 4), (vi 2)])])], (.sl 2 false [(.agg [(vi 4), (vi 2)]), (.agg [(vi 10), (vi 0)]), (.agg [(vi 11), (vi 0)])])) :: F7_4
theorem q7_5 : FOk Tryz.prog F7_5 := fok_step tok (n := 60) q7_4 (by kernel_rfl)
def F7_6 : List Fct := (84, [d7_42, (.sl 2 false [(.agg [(vi 5), (vi 2)])])], (.sl 2 false [(.agg [(vi 5), (vi 2)]), (.agg [(vi 10), (vi 0)]), (.agg [(vi 11), (vi 0)])])) :: F7_5
theorem q7_6 : FOk Tryz.prog F7_6 := fok_step tok (n := 60) q7_5 (by kernel_rfl)
def F7_7 : List Fct := (50, [d7_42], (.tup [d7_43, (vi 0)])) :: F7_6
theorem q7_7 : FOk Tryz.prog F7_7 := fok_step tok (n := 60) q7_6 (by kernel_rfl)
def F7_8 : List Fct := (63, [(.iptr 9 (.agg [d7_40, d7_23, d7_41, (.str []), (.str []), d7_43, (.sl 2 false [(.agg [(vi 0), (vi 1001)]), (.agg [(vi 0), (vi 1002)]), (.agg [(vi 1), (vi 1001)]), (.agg [(vi 1), (vi 1002)]), (.agg [(vi 6), (vi 1002)]), (.agg [(vi 7), (vi 1002)]), (.agg [(vi 8), (vi 1002)]), (.agg [(vi 9), (vi 1002)]), (.agg [(vi 10), (vi 1002)]), (.agg [(vi 11), (vi 1002)]), (.agg [(vi 12), (vi 1002)]), (.agg [(vi 13), (vi 1002)])]), (.mp [(0, 1001, 0), (0, 1002, 1), (1, 1001, 2), (1, 1002, 3), (6, 1002, 4), (7, 1002, 5), (8, 1002, 6), (9, 1002, 7), (10, 1002, 8), (11, 1002, 9), (12, 1002, 10), (13, 1002, 11)]), (.sl 1 false [(.bool false), (.bool false), (.bool false)])]) 0)], (.sl 1 false [(.sl 1 false [(vi 0), (vi 3), (vi 4), (vi 5), (vi 6), (vi 7), (vi 8), (vi 9), (vi 10)]), (.sl 1 false [(vi 0), (vi 3), (vi 4), (vi 5), (vi 6), (vi 7), (vi 8), (vi 9), (vi 10)]), (.sl 1 false [(vi 3), (vi 4), (vi 5), (vi 6), (vi 7), (vi 8), (vi 9), (vi 10), (vi 12)]), (.sl 1 false [(vi 3), (vi 4), (vi 5), (vi 6), (vi 7), (vi 8), (vi 9), (vi 10), (vi 12)]), d7_10, d7_10, d7_10, d7_10, d7_10, d7_10, d7_10, d7_10])) :: F7_7
theorem q7_8 : FOk Tryz.prog F7_8 := fok_step tok (n := 60) q7_7 (by kernel_rfl)
theorem sum7 (n : Int) : pureC (tabN F7_8 n 7) 60 6 [vi n] = some (.bool true, [(.tup [vi n, vi 10], .tup [vi n, vi 10])]) := by kernel_rfl
end Go.Proofs
