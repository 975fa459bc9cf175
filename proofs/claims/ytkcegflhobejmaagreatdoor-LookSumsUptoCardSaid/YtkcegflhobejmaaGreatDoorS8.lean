/- Part of a proof that a law of the given program answers true. -/
import Derived.Test.YtkcegflhobejmaaGreatDoorSSA
set_option linter.unusedSimpArgs false
set_option linter.unusedVariables false
set_option maxRecDepth 100000
namespace Go.Proofs
open Go.E
def d8_0 : V := (.agg [(vi 2), (.sl 1 false [(vi 14)]), (vi 14), (.str []), (.sl 1 false [(vi 14)]), (vi 0)])
def d8_1 : V := (.agg [(.str [101, 114, 114, 111, 114]), (.bool false), (vi (-1)), (vi 0), (vi 0), (.str [])])
def d8_2 : V := (.sl 2 false [(.agg [(vi 12), (vi 1)]), (.agg [(vi 14), (vi 2)]), (.agg [(vi 1002), (vi 16)])])
def d8_3 : V := (.sl 2 false [(.agg [(vi 12), (vi 1)]), (.agg [(vi 14), (vi 2)]), (.agg [(vi 1002), (vi 17)])])
def d8_4 : V := (.sl 2 false [(.agg [(vi 12), (vi 1)]), (.agg [(vi 14), (vi 2)]), (.agg [(vi 1002), (vi 18)])])
def d8_5 : V := (.sl 2 false [(.agg [(vi 12), (vi 1)]), (.agg [(vi 14), (vi 2)]), (.agg [(vi 1002), (vi 19)])])
def d8_6 : V := (.sl 2 false [(.agg [(vi 12), (vi 1)]), (.agg [(vi 14), (vi 2)]), (.agg [(vi 1002), (vi 20)])])
def d8_7 : V := (.sl 2 false [(.agg [(vi 12), (vi 1)]), (.agg [(vi 14), (vi 2)]), (.agg [(vi 1002), (vi 21)])])
def d8_8 : V := (.sl 2 false [(.agg [(vi 12), (vi 1)]), (.agg [(vi 14), (vi 2)]), (.agg [(vi 1002), (vi 22)])])
def d8_9 : V := (.sl 2 false [(.agg [(vi 12), (vi 1)]), (.agg [(vi 14), (vi 2)]), (.agg [(vi 1002), (vi 23)])])
def d8_10 : V := (.sl 2 false [(.agg [(vi 12), (vi 1)]), (.agg [(vi 14), (vi 2)]), (.agg [(vi 1002), (vi 24)])])
def d8_11 : V := (.sl 1 false [(vi 0), (vi 3), (vi 4), (vi 5), (vi 6), (vi 7), (vi 8), (vi 9), (vi 10), (vi 11)])
def d8_12 : V := (.sl 1 false [(vi 3), (vi 4), (vi 5), (vi 6), (vi 7), (vi 8), (vi 9), (vi 10), (vi 11), (vi 13)])
def d8_13 : V := (.agg [(vi 1), (.sl 1 false [(vi 1002)]), (vi (-1)), (.str []), (.sl 1 false [(vi 1002)]), (vi 0)])
def d8_14 : V := (.sl 1 false [(vi 0), (vi 3), (vi 4), (vi 5), (vi 6), (vi 7), (vi 8), (vi 9), (vi 10), (vi 11), (vi 13)])
def d8_15 : V := (.sl 2 false [(.agg [(vi 12), (vi 1)]), (.agg [(vi 14), (vi 2)]), (.agg [(vi 1001), (vi 3)]), (.agg [(vi 1002), (vi 4)])])
def d8_16 : V := (.sl 2 false [(.agg [(vi 12), (vi 1)]), (.agg [(vi 14), (vi 2)]), (.agg [(vi 1001), (vi 5)]), (.agg [(vi 1002), (vi 4)])])
def d8_17 : V := (.agg [(vi 2), (.sl 1 false [(vi 12), (vi 1001), (vi 13)]), (vi 13), (.str []), (.sl 1 false [(vi 12), (vi 1001), (vi 13)]), (vi 0)])
def d8_18 : V := (.agg [(vi 1), (.sl 1 false [(vi 1001), (vi 3), (vi 1002)]), (vi 3), (.str []), (.sl 1 false [(vi 1001), (vi 3), (vi 1002)]), (vi 0)])
def d8_19 : V := (.agg [(vi 1), (.sl 1 false [(vi 1001), (vi 4), (vi 1002)]), (vi 4), (.str []), (.sl 1 false [(vi 1001), (vi 4), (vi 1002)]), (vi 0)])
def d8_20 : V := (.agg [(vi 1), (.sl 1 false [(vi 1001), (vi 5), (vi 1002)]), (vi 5), (.str []), (.sl 1 false [(vi 1001), (vi 5), (vi 1002)]), (vi 0)])
def d8_21 : V := (.agg [(vi 1), (.sl 1 false [(vi 1001), (vi 6), (vi 1002)]), (vi 6), (.str []), (.sl 1 false [(vi 1001), (vi 6), (vi 1002)]), (vi 0)])
def d8_22 : V := (.agg [(vi 1), (.sl 1 false [(vi 1001), (vi 7), (vi 1002)]), (vi 7), (.str []), (.sl 1 false [(vi 1001), (vi 7), (vi 1002)]), (vi 0)])
def d8_23 : V := (.agg [(vi 1), (.sl 1 false [(vi 1001), (vi 8), (vi 1002)]), (vi 8), (.str []), (.sl 1 false [(vi 1001), (vi 8), (vi 1002)]), (vi 0)])
def d8_24 : V := (.agg [(vi 1), (.sl 1 false [(vi 1001), (vi 9), (vi 1002)]), (vi 9), (.str []), (.sl 1 false [(vi 1001), (vi 9), (vi 1002)]), (vi 0)])
def d8_25 : V := (.agg [(vi 1), (.sl 1 false [(vi 1001), (vi 10), (vi 1002)]), (vi 10), (.str []), (.sl 1 false [(vi 1001), (vi 10), (vi 1002)]), (vi 0)])
def d8_26 : V := (.agg [(vi 1), (.sl 1 false [(vi 1001), (vi 11), (vi 1002)]), (vi 11), (.str []), (.sl 1 false [(vi 1001), (vi 11), (vi 1002)]), (vi 0)])
def d8_27 : V := (.sl 2 false [(.agg [(.str [36, 97, 99, 99, 101, 112, 116]), (.str [])]), (.agg [(.str [101]), (.str [])]), (.agg [(.str [102]), (.str [])])])
def d8_28 : V := (.agg [(.sl 2 false [(.agg [(vi 2), (vi 2)])]), d8_2])
def d8_29 : V := (.agg [(.sl 2 false [(.agg [(vi 3), (vi 2)])]), d8_3])
def d8_30 : V := (.agg [(.sl 2 false [(.agg [(vi 4), (vi 2)])]), d8_4])
def d8_31 : V := (.agg [(.sl 2 false [(.agg [(vi 5), (vi 2)])]), d8_5])
def d8_32 : V := (.agg [(.sl 2 false [(.agg [(vi 6), (vi 2)])]), d8_6])
def d8_33 : V := (.agg [(.sl 2 false [(.agg [(vi 7), (vi 2)])]), d8_7])
def d8_34 : V := (.agg [(.sl 2 false [(.agg [(vi 8), (vi 2)])]), d8_8])
def d8_35 : V := (.agg [(.sl 2 false [(.agg [(vi 9), (vi 2)])]), d8_9])
def d8_36 : V := (.agg [(.sl 2 false [(.agg [(vi 10), (vi 2)])]), d8_10])
def d8_37 : V := (.agg [(.sl 2 false [(.agg [(vi 0), (vi 0)])]), d8_15])
def d8_38 : V := (.agg [(.sl 2 false [(.agg [(vi 11), (vi 1)])]), d8_16])
def d8_39 : V := (.sl 2 false [(.agg [(vi 3), (vi 6)]), (.agg [(vi 4), (vi 7)]), (.agg [(vi 5), (vi 8)]), (.agg [(vi 6), (vi 9)]), (.agg [(vi 7), (vi 10)]), (.agg [(vi 8), (vi 11)]), (.agg [(vi 9), (vi 12)]), (.agg [(vi 10), (vi 13)]), (.agg [(vi 11), (vi 14)])])
def d8_40 : V := (.sl 2 false [(.agg [(vi 0), (vi 1)]), (.agg [(vi 2), (vi 1)]), (.agg [(vi 3), (vi 1)]), (.agg [(vi 4), (vi 1)]), (.agg [(vi 5), (vi 1)]), (.agg [(vi 6), (vi 1)]), (.agg [(vi 7), (vi 1)]), (.agg [(vi 8), (vi 1)]), (.agg [(vi 9), (vi 1)]), (.agg [(vi 10), (vi 1)])])
def d8_41 : V := (.sl 2 false [(.agg [(vi 2), (vi 1)]), (.agg [(vi 3), (vi 1)]), (.agg [(vi 4), (vi 1)]), (.agg [(vi 5), (vi 1)]), (.agg [(vi 6), (vi 1)]), (.agg [(vi 7), (vi 1)]), (.agg [(vi 8), (vi 1)]), (.agg [(vi 9), (vi 1)]), (.agg [(vi 10), (vi 1)]), (.agg [(vi 11), (vi 2)])])
def d8_42 : V := (.sl 2 false [(.agg [(vi 3), (vi 6)]), (.agg [(vi 4), (vi 7)]), (.agg [(vi 5), (vi 8)]), (.agg [(vi 6), (vi 9)]), (.agg [(vi 7), (vi 10)]), (.agg [(vi 8), (vi 11)]), (.agg [(vi 9), (vi 12)]), (.agg [(vi 10), (vi 13)]), (.agg [(vi 11), (vi 14)]), (.agg [(vi 13), (vi 15)])])
def d8_43 : V := (.agg [d8_40, d8_39])
def d8_44 : V := (.agg [d8_41, d8_42])
def d8_45 : V := (.sl 6 false [(.agg [(.str [36, 101, 110, 100]), (.bool false), (vi 0), (vi 0), (vi 0), (.str [])]), d8_1, (.agg [(.str [36, 117, 110, 107]), (.bool false), (vi (-1)), (vi 0), (vi 0), (.str [])]), (.agg [(.str [65]), (.bool true), (vi 65), (vi 0), (vi 0), (.str [])]), (.agg [(.str [66]), (.bool true), (vi 66), (vi 0), (vi 0), (.str [])]), (.agg [(.str [67]), (.bool true), (vi 67), (vi 0), (vi 0), (.str [])]), (.agg [(.str [68]), (.bool true), (vi 68), (vi 0), (vi 0), (.str [])]), (.agg [(.str [69]), (.bool true), (vi 69), (vi 0), (vi 0), (.str [])]), (.agg [(.str [70]), (.bool true), (vi 70), (vi 0), (vi 0), (.str [])]), (.agg [(.str [71]), (.bool true), (vi 71), (vi 0), (vi 0), (.str [])]), (.agg [(.str [72]), (.bool true), (vi 72), (vi 0), (vi 0), (.str [])]), (.agg [(.str [73]), (.bool true), (vi 73), (vi 0), (vi 0), (.str [])]), (.agg [(.str [40]), (.bool true), (vi 40), (vi 0), (vi 0), (.str [])]), (.agg [(.str [41]), (.bool true), (vi 41), (vi 0), (vi 0), (.str [])]), (.agg [(.str [120]), (.bool true), (vi 120), (vi 0), (vi 0), (.str [])])])
def d8_46 : V := (.sl 6 false [(.agg [(vi 0), (.sl 1 false [(vi 1001)]), (vi (-1)), (.str []), (.sl 1 false []), (vi 0)]), d8_13, d8_18, d8_19, d8_20, d8_21, d8_22, d8_23, d8_24, d8_25, d8_26, d8_17, d8_0])
def d8_47 : V := (.agg [d8_45, d8_27, d8_46, (.str []), (.str [])])
def d8_48 : V := (.sl 2 false [d8_37, d8_38, (.agg [(.sl 2 false [(.agg [(vi 12), (vi 1)])]), (.sl 2 false [])]), d8_43, (.agg [(.sl 2 false [(.agg [(vi 1), (vi 1)])]), (.sl 2 false [])]), d8_44, d8_28, d8_29, d8_30, d8_31, d8_32, d8_33, d8_34, d8_35, d8_36, (.agg [(.sl 2 false [(.agg [(vi 11), (vi 3)])]), (.sl 2 false [])]), (.agg [(.sl 2 false [(.agg [(vi 2), (vi 3)])]), (.sl 2 false [])]), (.agg [(.sl 2 false [(.agg [(vi 3), (vi 3)])]), (.sl 2 false [])]), (.agg [(.sl 2 false [(.agg [(vi 4), (vi 3)])]), (.sl 2 false [])]), (.agg [(.sl 2 false [(.agg [(vi 5), (vi 3)])]), (.sl 2 false [])]), (.agg [(.sl 2 false [(.agg [(vi 6), (vi 3)])]), (.sl 2 false [])]), (.agg [(.sl 2 false [(.agg [(vi 7), (vi 3)])]), (.sl 2 false [])]), (.agg [(.sl 2 false [(.agg [(vi 8), (vi 3)])]), (.sl 2 false [])]), (.agg [(.sl 2 false [(.agg [(vi 9), (vi 3)])]), (.sl 2 false [])]), (.agg [(.sl 2 false [(.agg [(vi 10), (vi 3)])]), (.sl 2 false [])])])
def F8_0 : List Fct := [(10, [], .bool true)]
theorem q8_0 : FOk Tryz.prog F8_0 := fok_wk
def F8_1 : List Fct := (84, [d8_47, (.sl 2 false [(.agg [(vi 0), (vi 0)])])], (.sl 2 false [(.agg [(vi 0), (vi 0)]), (.agg [(vi 1), (vi 0)]), (.agg [(vi 2), (vi 0)]), (.agg [(vi 3), (vi 0)]), (.agg [(vi 4), (vi 0)]), (.agg [(vi 5), (vi 0)]), (.agg [(vi 6), (vi 0)]), (.agg [(vi 7), (vi 0)]), (.agg [(vi 8), (vi 0)]), (.agg [(vi 9), (vi 0)]), (.agg [(vi 10), (vi 0)]), (.agg [(vi 11), (vi 0)]), (.agg [(vi 12), (vi 0)])])) :: F8_0
theorem q8_1 : FOk Tryz.prog F8_1 := fok_step tok (n := 60) q8_0 (by kernel_rfl)
def F8_2 : List Fct := (84, [d8_47, (.sl 2 false [(.agg [(vi 11), (vi 1)])])], (.sl 2 false [(.agg [(vi 1), (vi 0)]), (.agg [(vi 2), (vi 0)]), (.agg [(vi 3), (vi 0)]), (.agg [(vi 4), (vi 0)]), (.agg [(vi 5), (vi 0)]), (.agg [(vi 6), (vi 0)]), (.agg [(vi 7), (vi 0)]), (.agg [(vi 8), (vi 0)]), (.agg [(vi 9), (vi 0)]), (.agg [(vi 10), (vi 0)]), (.agg [(vi 11), (vi 0)]), (.agg [(vi 11), (vi 1)]), (.agg [(vi 12), (vi 0)])])) :: F8_1
theorem q8_2 : FOk Tryz.prog F8_2 := fok_step tok (n := 60) q8_1 (by kernel_rfl)
def F8_3 : List Fct := (84, [d8_47, (.sl 2 false [(.agg [(vi 2), (vi 2)])])], (.sl 2 false [(.agg [(vi 2), (vi 2)]), (.agg [(vi 11), (vi 0)]), (.agg [(vi 12), (vi 0)])])) :: F8_2
theorem q8_3 : FOk Tryz.prog F8_3 := fok_step tok (n := 60) q8_2 (by kernel_rfl)
def F8_4 : List Fct := (84, [d8_47, (.sl 2 false [(.agg [(vi 3), (vi 2)])])], (.sl 2 false [(.agg [(vi 3), (vi 2)]), (.agg [(vi 11), (vi 0)]), (.agg [(vi 12), (vi 0)])])) :: F8_3
theorem q8_4 : FOk Tryz.prog F8_4 := fok_step tok (n := 60) q8_3 (by kernel_rfl)
def F8_5 : List Fct := (84, [d8_47, (.sl 2 false [(.agg [(vi 4), (vi 2)])])], (.sl 2 false [(.agg [(vi 4), (vi 2)]), (.agg [(vi 11), (vi 0)]), (.agg [(vi 12), (vi 0)])])) :: F8_4
theorem q8_5 : FOk Tryz.prog F8_5 := fok_step tok (n := 60) q8_4 (by kernel_rfl)
def F8_6 : List Fct := (84, [d8_47, (.sl 2 false [(.agg [(vi 5), (vi 2)])])], (.sl 2 false [(.agg [(vi 5), (vi 2)]), (.agg [(vi 11), (vi 0)]), (.agg [(vi 12), (vi 0)])])) :: F8_5
theorem q8_6 : FOk Tryz.prog F8_6 := fok_step tok (n := 60) q8_5 (by kernel_rfl)
def F8_7 : List Fct := (84, [d8_47, (.sl 2 false [(.agg [(vi 6), (vi 2)])])], (.sl 2 false [(.agg [(vi 6), (vi 2)]), (.agg [(vi 11), (vi 0)]), (.agg [(vi 12), (vi 0)])])) :: F8_6
theorem q8_7 : FOk Tryz.prog F8_7 := fok_step tok (n := 60) q8_6 (by kernel_rfl)
def F8_8 : List Fct := (84, [d8_47, (.sl 2 false [(.agg [(vi 7), (vi 2)])])], (.sl 2 false [(.agg [(vi 7), (vi 2)]), (.agg [(vi 11), (vi 0)]), (.agg [(vi 12), (vi 0)])])) :: F8_7
theorem q8_8 : FOk Tryz.prog F8_8 := fok_step tok (n := 60) q8_7 (by kernel_rfl)
def F8_9 : List Fct := (84, [d8_47, (.sl 2 false [(.agg [(vi 8), (vi 2)])])], (.sl 2 false [(.agg [(vi 8), (vi 2)]), (.agg [(vi 11), (vi 0)]), (.agg [(vi 12), (vi 0)])])) :: F8_8
theorem q8_9 : FOk Tryz.prog F8_9 := fok_step tok (n := 60) q8_8 (by kernel_rfl)
def F8_10 : List Fct := (84, [d8_47, (.sl 2 false [(.agg [(vi 9), (vi 2)])])], (.sl 2 false [(.agg [(vi 9), (vi 2)]), (.agg [(vi 11), (vi 0)]), (.agg [(vi 12), (vi 0)])])) :: F8_9
theorem q8_10 : FOk Tryz.prog F8_10 := fok_step tok (n := 60) q8_9 (by kernel_rfl)
def F8_11 : List Fct := (84, [d8_47, (.sl 2 false [(.agg [(vi 10), (vi 2)])])], (.sl 2 false [(.agg [(vi 10), (vi 2)]), (.agg [(vi 11), (vi 0)]), (.agg [(vi 12), (vi 0)])])) :: F8_10
theorem q8_11 : FOk Tryz.prog F8_11 := fok_step tok (n := 60) q8_10 (by kernel_rfl)
def F8_12 : List Fct := (86, [d8_47, (.sl 2 false [(.agg [(vi 0), (vi 0)])]), (vi 1001)], d8_40) :: F8_11
theorem q8_12 : FOk Tryz.prog F8_12 := fok_step tok (n := 60) q8_11 (by kernel_rfl)
def F8_13 : List Fct := (84, [d8_47, d8_40], d8_40) :: F8_12
theorem q8_13 : FOk Tryz.prog F8_13 := fok_step tok (n := 60) q8_12 (by kernel_rfl)
def F8_14 : List Fct := (86, [d8_47, (.sl 2 false [(.agg [(vi 11), (vi 1)])]), (vi 1001)], d8_41) :: F8_13
theorem q8_14 : FOk Tryz.prog F8_14 := fok_step tok (n := 60) q8_13 (by kernel_rfl)
def F8_15 : List Fct := (84, [d8_47, d8_41], d8_41) :: F8_14
theorem q8_15 : FOk Tryz.prog F8_15 := fok_step tok (n := 60) q8_14 (by kernel_rfl)
def F8_16 : List Fct := (50, [d8_47], (.tup [d8_48, (vi 0)])) :: F8_15
theorem q8_16 : FOk Tryz.prog F8_16 := fok_step tok (n := 60) q8_15 (by kernel_rfl)
def F8_17 : List Fct := (63, [(.iptr 9 (.agg [d8_45, d8_27, d8_46, (.str []), (.str []), d8_48, (.sl 2 false [(.agg [(vi 0), (vi 1001)]), (.agg [(vi 0), (vi 1002)]), (.agg [(vi 1), (vi 1001)]), (.agg [(vi 1), (vi 1002)]), (.agg [(vi 6), (vi 1002)]), (.agg [(vi 7), (vi 1002)]), (.agg [(vi 8), (vi 1002)]), (.agg [(vi 9), (vi 1002)]), (.agg [(vi 10), (vi 1002)]), (.agg [(vi 11), (vi 1002)]), (.agg [(vi 12), (vi 1002)]), (.agg [(vi 13), (vi 1002)]), (.agg [(vi 14), (vi 1002)])]), (.mp [(0, 1001, 0), (0, 1002, 1), (1, 1001, 2), (1, 1002, 3), (6, 1002, 4), (7, 1002, 5), (8, 1002, 6), (9, 1002, 7), (10, 1002, 8), (11, 1002, 9), (12, 1002, 10), (13, 1002, 11), (14, 1002, 12)]), (.sl 1 false [(.bool false), (.bool false), (.bool false)])]) 0)], (.sl 1 false [d8_11, d8_11, d8_12, d8_12, d8_14, d8_14, d8_14, d8_14, d8_14, d8_14, d8_14, d8_14, d8_14])) :: F8_16
theorem q8_17 : FOk Tryz.prog F8_17 := fok_step tok (n := 60) q8_16 (by kernel_rfl)
theorem sum8 (n : Int) : pureC (tabN F8_17 n 8) 60 6 [vi n] = some (.bool true, [(.tup [vi n, vi 10], .tup [vi n, vi 10])]) := by kernel_rfl
end Go.Proofs
