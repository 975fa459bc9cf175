/- Part of a proof that a law of the given program answers true. -/
import Derived.Test.YtkcegflhobejmaaGreatDoorSSA
set_option linter.unusedSimpArgs false
set_option linter.unusedVariables false
set_option maxRecDepth 100000
namespace Go.Proofs
open Go.E
def d9_0 : V := (.agg [(vi 2), (.sl 1 false [(vi 15)]), (vi 15), (.str []), (.sl 1 false [(vi 15)]), (vi 0)])
def d9_1 : V := (.agg [(.str [101, 114, 114, 111, 114]), (.bool false), (vi (-1)), (vi 0), (vi 0), (.str [])])
def d9_2 : V := (.sl 2 false [(.agg [(vi 13), (vi 1)]), (.agg [(vi 15), (vi 2)]), (.agg [(vi 1002), (vi 17)])])
def d9_3 : V := (.sl 2 false [(.agg [(vi 13), (vi 1)]), (.agg [(vi 15), (vi 2)]), (.agg [(vi 1002), (vi 18)])])
def d9_4 : V := (.sl 2 false [(.agg [(vi 13), (vi 1)]), (.agg [(vi 15), (vi 2)]), (.agg [(vi 1002), (vi 19)])])
def d9_5 : V := (.sl 2 false [(.agg [(vi 13), (vi 1)]), (.agg [(vi 15), (vi 2)]), (.agg [(vi 1002), (vi 20)])])
def d9_6 : V := (.sl 2 false [(.agg [(vi 13), (vi 1)]), (.agg [(vi 15), (vi 2)]), (.agg [(vi 1002), (vi 21)])])
def d9_7 : V := (.sl 2 false [(.agg [(vi 13), (vi 1)]), (.agg [(vi 15), (vi 2)]), (.agg [(vi 1002), (vi 22)])])
def d9_8 : V := (.sl 2 false [(.agg [(vi 13), (vi 1)]), (.agg [(vi 15), (vi 2)]), (.agg [(vi 1002), (vi 23)])])
def d9_9 : V := (.sl 2 false [(.agg [(vi 13), (vi 1)]), (.agg [(vi 15), (vi 2)]), (.agg [(vi 1002), (vi 24)])])
def d9_10 : V := (.sl 2 false [(.agg [(vi 13), (vi 1)]), (.agg [(vi 15), (vi 2)]), (.agg [(vi 1002), (vi 25)])])
def d9_11 : V := (.sl 2 false [(.agg [(vi 13), (vi 1)]), (.agg [(vi 15), (vi 2)]), (.agg [(vi 1002), (vi 26)])])
def d9_12 : V := (.agg [(vi 1), (.sl 1 false [(vi 1002)]), (vi (-1)), (.str []), (.sl 1 false [(vi 1002)]), (vi 0)])
def d9_13 : V := (.sl 1 false [(vi 0), (vi 3), (vi 4), (vi 5), (vi 6), (vi 7), (vi 8), (vi 9), (vi 10), (vi 11), (vi 12)])
def d9_14 : V := (.sl 1 false [(vi 3), (vi 4), (vi 5), (vi 6), (vi 7), (vi 8), (vi 9), (vi 10), (vi 11), (vi 12), (vi 14)])
def d9_15 : V := (.sl 1 false [(vi 0), (vi 3), (vi 4), (vi 5), (vi 6), (vi 7), (vi 8), (vi 9), (vi 10), (vi 11), (vi 12), (vi 14)])
def d9_16 : V := (.sl 2 false [(.agg [(vi 13), (vi 1)]), (.agg [(vi 15), (vi 2)]), (.agg [(vi 1001), (vi 3)]), (.agg [(vi 1002), (vi 4)])])
def d9_17 : V := (.sl 2 false [(.agg [(vi 13), (vi 1)]), (.agg [(vi 15), (vi 2)]), (.agg [(vi 1001), (vi 5)]), (.agg [(vi 1002), (vi 4)])])
def d9_18 : V := (.agg [(vi 2), (.sl 1 false [(vi 13), (vi 1001), (vi 14)]), (vi 14), (.str []), (.sl 1 false [(vi 13), (vi 1001), (vi 14)]), (vi 0)])
def d9_19 : V := (.agg [(vi 1), (.sl 1 false [(vi 1001), (vi 3), (vi 1002)]), (vi 3), (.str []), (.sl 1 false [(vi 1001), (vi 3), (vi 1002)]), (vi 0)])
def d9_20 : V := (.agg [(vi 1), (.sl 1 false [(vi 1001), (vi 4), (vi 1002)]), (vi 4), (.str []), (.sl 1 false [(vi 1001), (vi 4), (vi 1002)]), (vi 0)])
def d9_21 : V := (.agg [(vi 1), (.sl 1 false [(vi 1001), (vi 5), (vi 1002)]), (vi 5), (.str []), (.sl 1 false [(vi 1001), (vi 5), (vi 1002)]), (vi 0)])
def d9_22 : V := (.agg [(vi 1), (.sl 1 false [(vi 1001), (vi 6), (vi 1002)]), (vi 6), (.str []), (.sl 1 false [(vi 1001), (vi 6), (vi 1002)]), (vi 0)])
def d9_23 : V := (.agg [(vi 1), (.sl 1 false [(vi 1001), (vi 7), (vi 1002)]), (vi 7), (.str []), (.sl 1 false [(vi 1001), (vi 7), (vi 1002)]), (vi 0)])
def d9_24 : V := (.agg [(vi 1), (.sl 1 false [(vi 1001), (vi 8), (vi 1002)]), (vi 8), (.str []), (.sl 1 false [(vi 1001), (vi 8), (vi 1002)]), (vi 0)])
def d9_25 : V := (.agg [(vi 1), (.sl 1 false [(vi 1001), (vi 9), (vi 1002)]), (vi 9), (.str []), (.sl 1 false [(vi 1001), (vi 9), (vi 1002)]), (vi 0)])
def d9_26 : V := (.agg [(vi 1), (.sl 1 false [(vi 1001), (vi 10), (vi 1002)]), (vi 10), (.str []), (.sl 1 false [(vi 1001), (vi 10), (vi 1002)]), (vi 0)])
def d9_27 : V := (.agg [(vi 1), (.sl 1 false [(vi 1001), (vi 11), (vi 1002)]), (vi 11), (.str []), (.sl 1 false [(vi 1001), (vi 11), (vi 1002)]), (vi 0)])
def d9_28 : V := (.agg [(vi 1), (.sl 1 false [(vi 1001), (vi 12), (vi 1002)]), (vi 12), (.str []), (.sl 1 false [(vi 1001), (vi 12), (vi 1002)]), (vi 0)])
def d9_29 : V := (.sl 2 false [(.agg [(.str [36, 97, 99, 99, 101, 112, 116]), (.str [])]), (.agg [(.str [101]), (.str [])]), (.agg [(.str [102]), (.str [])])])
def d9_30 : V := (.agg [(.sl 2 false [(.agg [(vi 2), (vi 2)])]), d9_2])
def d9_31 : V := (.agg [(.sl 2 false [(.agg [(vi 3), (vi 2)])]), d9_3])
def d9_32 : V := (.agg [(.sl 2 false [(.agg [(vi 4), (vi 2)])]), d9_4])
def d9_33 : V := (.agg [(.sl 2 false [(.agg [(vi 5), (vi 2)])]), d9_5])
def d9_34 : V := (.agg [(.sl 2 false [(.agg [(vi 6), (vi 2)])]), d9_6])
def d9_35 : V := (.agg [(.sl 2 false [(.agg [(vi 7), (vi 2)])]), d9_7])
def d9_36 : V := (.agg [(.sl 2 false [(.agg [(vi 8), (vi 2)])]), d9_8])
def d9_37 : V := (.agg [(.sl 2 false [(.agg [(vi 9), (vi 2)])]), d9_9])
def d9_38 : V := (.agg [(.sl 2 false [(.agg [(vi 10), (vi 2)])]), d9_10])
def d9_39 : V := (.agg [(.sl 2 false [(.agg [(vi 11), (vi 2)])]), d9_11])
def d9_40 : V := (.agg [(.sl 2 false [(.agg [(vi 0), (vi 0)])]), d9_16])
def d9_41 : V := (.agg [(.sl 2 false [(.agg [(vi 12), (vi 1)])]), d9_17])
def d9_42 : V := (.sl 2 false [(.agg [(vi 3), (vi 6)]), (.agg [(vi 4), (vi 7)]), (.agg [(vi 5), (vi 8)]), (.agg [(vi 6), (vi 9)]), (.agg [(vi 7), (vi 10)]), (.agg [(vi 8), (vi 11)]), (.agg [(vi 9), (vi 12)]), (.agg [(vi 10), (vi 13)]), (.agg [(vi 11), (vi 14)]), (.agg [(vi 12), (vi 15)])])
def d9_43 : V := (.sl 2 false [(.agg [(vi 0), (vi 1)]), (.agg [(vi 2), (vi 1)]), (.agg [(vi 3), (vi 1)]), (.agg [(vi 4), (vi 1)]), (.agg [(vi 5), (vi 1)]), (.agg [(vi 6), (vi 1)]), (.agg [(vi 7), (vi 1)]), (.agg [(vi 8), (vi 1)]), (.agg [(vi 9), (vi 1)]), (.agg [(vi 10), (vi 1)]), (.agg [(vi 11), (vi 1)])])
def d9_44 : V := (.sl 2 false [(.agg [(vi 2), (vi 1)]), (.agg [(vi 3), (vi 1)]), (.agg [(vi 4), (vi 1)]), (.agg [(vi 5), (vi 1)]), (.agg [(vi 6), (vi 1)]), (.agg [(vi 7), (vi 1)]), (.agg [(vi 8), (vi 1)]), (.agg [(vi 9), (vi 1)]), (.agg [(vi 10), (vi 1)]), (.agg [(vi 11), (vi 1)]), (.agg [(vi 12), (vi 2)])])
def d9_45 : V := (.sl 2 false [(.agg [(vi 3), (vi 6)]), (.agg [(vi 4), (vi 7)]), (.agg [(vi 5), (vi 8)]), (.agg [(vi 6), (vi 9)]), (.agg [(vi 7), (vi 10)]), (.agg [(vi 8), (vi 11)]), (.agg [(vi 9), (vi 12)]), (.agg [(vi 10), (vi 13)]), (.agg [(vi 11), (vi 14)]), (.agg [(vi 12), (vi 15)]), (.agg [(vi 14), (vi 16)])])
def d9_46 : V := (.agg [d9_43, d9_42])
def d9_47 : V := (.agg [d9_44, d9_45])
def d9_48 : V := (.sl 6 false [(.agg [(.str [36, 101, 110, 100]), (.bool false), (vi 0), (vi 0), (vi 0), (.str [])]), d9_1, (.agg [(.str [36, 117, 110, 107]), (.bool false), (vi (-1)), (vi 0), (vi 0), (.str [])]), (.agg [(.str [65]), (.bool true), (vi 65), (vi 0), (vi 0), (.str [])]), (.agg [(.str [66]), (.bool true), (vi 66), (vi 0), (vi 0), (.str [])]), (.agg [(.str [67]), (.bool true), (vi 67), (vi 0), (vi 0), (.str [])]), (.agg [(.str [68]), (.bool true), (vi 68), (vi 0), (vi 0), (.str [])]), (.agg [(.str [69]), (.bool true), (vi 69), (vi 0), (vi 0), (.str [])]), (.agg [(.str [70]), (.bool true), (vi 70), (vi 0), (vi 0), (.str [])]), (.agg [(.str [71]), (.bool true), (vi 71), (vi 0), (vi 0), (.str [])]), (.agg [(.str [72]), (.bool true), (vi 72), (vi 0), (vi 0), (.str [])]), (.agg [(.str [73]), (.bool true), (vi 73), (vi 0), (vi 0), (.str [])]), (.agg [(.str [74]), (.bool true), (vi 74), (vi 0), (vi 0), (.str [])]), (.agg [(.str [40]), (.bool true), (vi 40), (vi 0), (vi 0), (.str [])]), (.agg [(.str [41]), (.bool true), (vi 41), (vi 0), (vi 0), (.str [])]), (.agg [(.str [120]), (.bool true), (vi 120), (vi 0), (vi 0), (.str [])])])
def d9_49 : V := (.sl 6 false [(.agg [(vi 0), (.sl 1 false [(vi 1001)]), (vi (-1)), (.str []), (.sl 1 false []), (vi 0)]), d9_12, d9_19, d9_20, d9_21, d9_22, d9_23, d9_24, d9_25, d9_26, d9_27, d9_28, d9_18, d9_0])
def d9_50 : V := (.agg [d9_48, d9_29, d9_49, (.str []), (.str [])])
def d9_51 : V := (.sl 2 false [d9_40, d9_41, (.agg [(.sl 2 false [(.agg [(vi 13), (vi 1)])]), (.sl 2 false [])]), d9_46, (.agg [(.sl 2 false [(.agg [(vi 1), (vi 1)])]), (.sl 2 false [])]), d9_47, d9_30, d9_31, d9_32, d9_33, d9_34, d9_35, d9_36, d9_37, d9_38, d9_39, (.agg [(.sl 2 false [(.agg [(vi 12), (vi 3)])]), (.sl 2 false [])]), (.agg [(.sl 2 false [(.agg [(vi 2), (vi 3)])]), (.sl 2 false [])]), (.agg [(.sl 2 false [(.agg [(vi 3), (vi 3)])]), (.sl 2 false [])]), (.agg [(.sl 2 false [(.agg [(vi 4), (vi 3)])]), (.sl 2 false [])]), (.agg [(.sl 2 false [(.agg [(vi 5), (vi 3)])]), (.sl 2 false [])]), (.agg [(.sl 2 false [(.agg [(vi 6), (vi 3)])]), (.sl 2 false [])]), (.agg [(.sl 2 false [(.agg [(vi 7), (vi 3)])]), (.sl 2 false [])]), (.agg [(.sl 2 false [(.agg [(vi 8), (vi 3)])]), (.sl 2 false [])]), (.agg [(.sl 2 false [(.agg [(vi 9), (vi 3)])]), (.sl 2 false [])]), (.agg [(.sl 2 false [(.agg [(vi 10), (vi 3)])]), (.sl 2 false [])]), (.agg [(.sl 2 false [(.agg [(vi 11), (vi 3)])]), (.sl 2 false [])])])
def F9_0 : List Fct := [(10, [], .bool true)]
theorem q9_0 : FOk Tryz.prog F9_0 := fok_wk
def F9_1 : List Fct := (84, [d9_50, (.sl 2 false [(.agg [(vi 0), (vi 0)])])], (.sl 2 false [(.agg [(vi 0), (vi 0)]), (.agg [(vi 1), (vi 0)]), (.agg [(vi 2), (vi 0)]), (.agg [(vi 3), (vi 0)]), (.agg [(vi 4), (vi 0)]), (.agg [(vi 5), (vi 0)]), (.agg [(vi 6), (vi 0)]), (.agg [(vi 7), (vi 0)]), (.agg [(vi 8), (vi 0)]), (.agg [(vi 9), (vi 0)]), (.agg [(vi 10), (vi 0)]), (.agg [(vi 11), (vi 0)]), (.agg [(vi 12), (vi 0)]), (.agg [(vi 13), (vi 0)])])) :: F9_0
theorem q9_1 : FOk Tryz.prog F9_1 := fok_step tok (n := 60) q9_0 (by kernel_rfl)
def F9_2 : List Fct := (84, [d9_50, (.sl 2 false [(.agg [(vi 12), (vi 1)])])], (.sl 2 false [(.agg [(vi 1), (vi 0)]), (.agg [(vi 2), (vi 0)]), (.agg [(vi 3), (vi 0)]), (.agg [(vi 4), (vi 0)]), (.agg [(vi 5), (vi 0)]), (.agg [(vi 6), (vi 0)]), (.agg [(vi 7), (vi 0)]), (.agg [(vi 8), (vi 0)]), (.agg [(vi 9), (vi 0)]), (.agg [(vi 10), (vi 0)]), (.agg [(vi 11), (vi 0)]), (.agg [(vi 12), (vi 0)]), (.agg [(vi 12), (vi 1)]), (.agg [(vi 13), (vi 0)])])) :: F9_1
theorem q9_2 : FOk Tryz.prog F9_2 := fok_step tok (n := 60) q9_1 (by kernel_rfl)
def F9_3 : List Fct := (84, [d9_50, (.sl 2 false [(.agg [(vi 2), (vi 2)])])], (.sl 2 false [(.agg [(vi 2), (vi 2)]), (.agg [(vi 12), (vi 0)]), (.agg [(vi 13), (vi 0)])])) :: F9_2
theorem q9_3 : FOk Tryz.prog F9_3 := fok_step tok (n := 60) q9_2 (by kernel_rfl)
def F9_4 : List Fct := (84, [d9_50, (.sl 2 false [(.agg [(vi 3), (vi 2)])])], (.sl 2 false [(.agg [(vi 3), (vi 2)]), (.agg [(vi 12), (vi 0)]), (.agg [(vi 13), (vi 0)])])) :: F9_3
theorem q9_4 : FOk Tryz.prog F9_4 := fok_step tok (n := 60) q9_3 (by kernel_rfl)
def F9_5 : List Fct := (84, [d9_50, (.sl 2 false [(.agg [(vi 4), (vi 2)])])], (.sl 2 false [(.agg [(vi 4), (vi 2)]), (.agg [(vi 12), (vi 0)]), (.agg [(vi 13), (vi 0)])])) :: F9_4
theorem q9_5 : FOk Tryz.prog F9_5 := fok_step tok (n := 60) q9_4 (by kernel_rfl)
def F9_6 : List Fct := (84, [d9_50, (.sl 2 false [(.agg [(vi 5), (vi 2)])])], (.sl 2 false [(.agg [(vi 5), (vi 2)]), (.agg [(vi 12), (vi 0)]), (.agg [(vi 13), (vi 0)])])) :: F9_5
theorem q9_6 : FOk Tryz.prog F9_6 := fok_step tok (n := 60) q9_5 (by kernel_rfl)
def F9_7 : List Fct := (84, [d9_50, (.sl 2 false [(.agg [(vi 6), (vi 2)])])], (.sl 2 false [(.agg [(vi 6), (vi 2)]), (.agg [(vi 12), (vi 0)]), (.agg [(vi 13), (vi 0)])])) :: F9_6
theorem q9_7 : FOk Tryz.prog F9_7 := fok_step tok (n := 60) q9_6 (by kernel_rfl)
def F9_8 : List Fct := (84, [d9_50, (.sl 2 false [(.agg [(vi 7), (vi 2)])])], (.sl 2 false [(.agg [(vi 7), (vi 2)]), (.agg [(vi 12), (vi 0)]), (.agg [(vi 13), (vi 0)])])) :: F9_7
theorem q9_8 : FOk Tryz.prog F9_8 := fok_step tok (n := 60) q9_7 (by kernel_rfl)
def F9_9 : List Fct := (84, [d9_50, (.sl 2 false [(.agg [(vi 8), (vi 2)])])], (.sl 2 false [(.agg [(vi 8), (vi 2)]), (.agg [(vi 12), (vi 0)]), (.agg [(vi 13), (vi 0)])])) :: F9_8
theorem q9_9 : FOk Tryz.prog F9_9 := fok_step tok (n := 60) q9_8 (by kernel_rfl)
def F9_10 : List Fct := (84, [d9_50, (.sl 2 false [(.agg [(vi 9), (vi 2)])])], (.sl 2 false [(.agg [(vi 9), (vi 2)]), (.agg [(vi 12), (vi 0)]), (.agg [(vi 13), (vi 0)])])) :: F9_9
theorem q9_10 : FOk Tryz.prog F9_10 := fok_step tok (n := 60) q9_9 (by kernel_rfl)
def F9_11 : List Fct := (84, [d9_50, (.sl 2 false [(.agg [(vi 10), (vi 2)])])], (.sl 2 false [(.agg [(vi 10), (vi 2)]), (.agg [(vi 12), (vi 0)]), (.agg [(vi 13), (vi 0)])])) :: F9_10
theorem q9_11 : FOk Tryz.prog F9_11 := fok_step tok (n := 60) q9_10 (by kernel_rfl)
def F9_12 : List Fct := (84, [d9_50, (.sl 2 false [(.agg [(vi 11), (vi 2)])])], (.sl 2 false [(.agg [(vi 11), (vi 2)]), (.agg [(vi 12), (vi 0)]), (.agg [(vi 13), (vi 0)])])) :: F9_11
theorem q9_12 : FOk Tryz.prog F9_12 := fok_step tok (n := 60) q9_11 (by kernel_rfl)
def F9_13 : List Fct := (86, [d9_50, (.sl 2 false [(.agg [(vi 0), (vi 0)])]), (vi 1001)], d9_43) :: F9_12
theorem q9_13 : FOk Tryz.prog F9_13 := fok_step tok (n := 60) q9_12 (by kernel_rfl)
def F9_14 : List Fct := (84, [d9_50, d9_43], d9_43) :: F9_13
theorem q9_14 : FOk Tryz.prog F9_14 := fok_step tok (n := 60) q9_13 (by kernel_rfl)
def F9_15 : List Fct := (86, [d9_50, (.sl 2 false [(.agg [(vi 12), (vi 1)])]), (vi 1001)], d9_44) :: F9_14
theorem q9_15 : FOk Tryz.prog F9_15 := fok_step tok (n := 60) q9_14 (by kernel_rfl)
def F9_16 : List Fct := (84, [d9_50, d9_44], d9_44) :: F9_15
theorem q9_16 : FOk Tryz.prog F9_16 := fok_step tok (n := 60) q9_15 (by kernel_rfl)
def F9_17 : List Fct := (86, [d9_50, (.sl 2 false [(.agg [(vi 0), (vi 0)])]), (vi 13)], (.sl 2 false [(.agg [(vi 12), (vi 1)])])) :: F9_16
theorem q9_17 : FOk Tryz.prog F9_17 := fok_step tok (n := 60) q9_16 (by kernel_rfl)
def F9_18 : List Fct := (86, [d9_50, (.sl 2 false [(.agg [(vi 0), (vi 0)])]), (vi 15)], (.sl 2 false [(.agg [(vi 13), (vi 1)])])) :: F9_17
theorem q9_18 : FOk Tryz.prog F9_18 := fok_step tok (n := 60) q9_17 (by kernel_rfl)
def F9_19 : List Fct := (86, [d9_50, (.sl 2 false [(.agg [(vi 0), (vi 0)])]), (vi 1002)], (.sl 2 false [(.agg [(vi 1), (vi 1)])])) :: F9_18
theorem q9_19 : FOk Tryz.prog F9_19 := fok_step tok (n := 60) q9_18 (by kernel_rfl)
def F9_20 : List Fct := (86, [d9_50, (.sl 2 false [(.agg [(vi 12), (vi 1)])]), (vi 13)], (.sl 2 false [(.agg [(vi 12), (vi 1)])])) :: F9_19
theorem q9_20 : FOk Tryz.prog F9_20 := fok_step tok (n := 60) q9_19 (by kernel_rfl)
def F9_21 : List Fct := (86, [d9_50, (.sl 2 false [(.agg [(vi 12), (vi 1)])]), (vi 15)], (.sl 2 false [(.agg [(vi 13), (vi 1)])])) :: F9_20
theorem q9_21 : FOk Tryz.prog F9_21 := fok_step tok (n := 60) q9_20 (by kernel_rfl)
def F9_22 : List Fct := (86, [d9_50, (.sl 2 false [(.agg [(vi 12), (vi 1)])]), (vi 1002)], (.sl 2 false [(.agg [(vi 1), (vi 1)])])) :: F9_21
theorem q9_22 : FOk Tryz.prog F9_22 := fok_step tok (n := 60) q9_21 (by kernel_rfl)
def F9_23 : List Fct := (86, [d9_50, d9_44, (vi 3)], (.sl 2 false [(.agg [(vi 2), (vi 2)])])) :: F9_22
theorem q9_23 : FOk Tryz.prog F9_23 := fok_step tok (n := 60) q9_22 (by kernel_rfl)
def F9_24 : List Fct := (86, [d9_50, d9_43, (vi 3)], (.sl 2 false [(.agg [(vi 2), (vi 2)])])) :: F9_23
theorem q9_24 : FOk Tryz.prog F9_24 := fok_step tok (n := 60) q9_23 (by kernel_rfl)
def F9_25 : List Fct := (86, [d9_50, d9_44, (vi 4)], (.sl 2 false [(.agg [(vi 3), (vi 2)])])) :: F9_24
theorem q9_25 : FOk Tryz.prog F9_25 := fok_step tok (n := 60) q9_24 (by kernel_rfl)
def F9_26 : List Fct := (86, [d9_50, d9_43, (vi 4)], (.sl 2 false [(.agg [(vi 3), (vi 2)])])) :: F9_25
theorem q9_26 : FOk Tryz.prog F9_26 := fok_step tok (n := 60) q9_25 (by kernel_rfl)
def F9_27 : List Fct := (86, [d9_50, d9_44, (vi 5)], (.sl 2 false [(.agg [(vi 4), (vi 2)])])) :: F9_26
theorem q9_27 : FOk Tryz.prog F9_27 := fok_step tok (n := 60) q9_26 (by kernel_rfl)
def F9_28 : List Fct := (86, [d9_50, d9_43, (vi 5)], (.sl 2 false [(.agg [(vi 4), (vi 2)])])) :: F9_27
theorem q9_28 : FOk Tryz.prog F9_28 := fok_step tok (n := 60) q9_27 (by kernel_rfl)
def F9_29 : List Fct := (86, [d9_50, d9_44, (vi 6)], (.sl 2 false [(.agg [(vi 5), (vi 2)])])) :: F9_28
theorem q9_29 : FOk Tryz.prog F9_29 := fok_step tok (n := 60) q9_28 (by kernel_rfl)
def F9_30 : List Fct := (86, [d9_50, d9_43, (vi 6)], (.sl 2 false [(.agg [(vi 5), (vi 2)])])) :: F9_29
theorem q9_30 : FOk Tryz.prog F9_30 := fok_step tok (n := 60) q9_29 (by kernel_rfl)
def F9_31 : List Fct := (86, [d9_50, d9_44, (vi 7)], (.sl 2 false [(.agg [(vi 6), (vi 2)])])) :: F9_30
theorem q9_31 : FOk Tryz.prog F9_31 := fok_step tok (n := 60) q9_30 (by kernel_rfl)
def F9_32 : List Fct := (86, [d9_50, d9_43, (vi 7)], (.sl 2 false [(.agg [(vi 6), (vi 2)])])) :: F9_31
theorem q9_32 : FOk Tryz.prog F9_32 := fok_step tok (n := 60) q9_31 (by kernel_rfl)
def F9_33 : List Fct := (86, [d9_50, d9_44, (vi 8)], (.sl 2 false [(.agg [(vi 7), (vi 2)])])) :: F9_32
theorem q9_33 : FOk Tryz.prog F9_33 := fok_step tok (n := 60) q9_32 (by kernel_rfl)
def F9_34 : List Fct := (50, [d9_50], (.tup [d9_51, (vi 0)])) :: F9_33
theorem q9_34 : FOk Tryz.prog F9_34 := fok_step tok (n := 60) q9_33 (by kernel_rfl)
def F9_35 : List Fct := (63, [(.iptr 9 (.agg [d9_48, d9_29, d9_49, (.str []), (.str []), d9_51, (.sl 2 false [(.agg [(vi 0), (vi 1001)]), (.agg [(vi 0), (vi 1002)]), (.agg [(vi 1), (vi 1001)]), (.agg [(vi 1), (vi 1002)]), (.agg [(vi 6), (vi 1002)]), (.agg [(vi 7), (vi 1002)]), (.agg [(vi 8), (vi 1002)]), (.agg [(vi 9), (vi 1002)]), (.agg [(vi 10), (vi 1002)]), (.agg [(vi 11), (vi 1002)]), (.agg [(vi 12), (vi 1002)]), (.agg [(vi 13), (vi 1002)]), (.agg [(vi 14), (vi 1002)]), (.agg [(vi 15), (vi 1002)])]), (.mp [(0, 1001, 0), (0, 1002, 1), (1, 1001, 2), (1, 1002, 3), (6, 1002, 4), (7, 1002, 5), (8, 1002, 6), (9, 1002, 7), (10, 1002, 8), (11, 1002, 9), (12, 1002, 10), (13, 1002, 11), (14, 1002, 12), (15, 1002, 13)]), (.sl 1 false [(.bool false), (.bool false), (.bool false)])]) 0)], (.sl 1 false [d9_13, d9_13, d9_14, d9_14, d9_15, d9_15, d9_15, d9_15, d9_15, d9_15, d9_15, d9_15, d9_15, d9_15])) :: F9_34
theorem q9_35 : FOk Tryz.prog F9_35 := fok_step tok (n := 60) q9_34 (by kernel_rfl)
def F9_36 : List Fct := (31, [d9_50, d9_51], (.sl 3 false [(.agg [(vi 2), (vi 13), d9_15]), (.agg [(vi 4), (vi 1), d9_15]), (.agg [(vi 16), (vi 12), d9_15]), (.agg [(vi 17), (vi 2), d9_15]), (.agg [(vi 18), (vi 3), d9_15]), (.agg [(vi 19), (vi 4), d9_15]), (.agg [(vi 20), (vi 5), d9_15]), (.agg [(vi 21), (vi 6), d9_15]), (.agg [(vi 22), (vi 7), d9_15]), (.agg [(vi 23), (vi 8), d9_15]), (.agg [(vi 24), (vi 9), d9_15]), (.agg [(vi 25), (vi 10), d9_15]), (.agg [(vi 26), (vi 11), d9_15])])) :: F9_35
theorem q9_36 : FOk Tryz.prog F9_36 := fok_step tok (n := 60) q9_35 (by kernel_rfl)
theorem sum9 (n : Int) : pureC (tabN F9_36 n 9) 60 6 [vi n] = some (.bool true, [(.tup [vi n, vi 10], .tup [vi n, vi 10])]) := by kernel_rfl
end Go.Proofs
