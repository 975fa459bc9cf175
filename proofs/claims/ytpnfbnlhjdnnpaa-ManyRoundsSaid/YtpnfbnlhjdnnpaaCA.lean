/-
  Part of a proof that a law of the given program answers true: contracts of its functions, and the law. Holds for inputs of at most 1048576 values and letters in all.
-/
import Derived.Test.YtpnfbnlhjdnnpaaEC
import Derived.Test.YtpnfbnlhjdnnpaaProg
import Derived.KernelRfl
namespace Go.Proofs
open Go.E

/-- Nothing lies in the program's own variables that is looked at. -/
instance : Glob Try.prog where
  G := fun _ => .iptr 0 (.agg []) 0
end Go.Proofs

set_option linter.unusedSimpArgs false
set_option linter.unusedVariables false
set_option maxRecDepth 100000
namespace Go.Proofs
open Go.E
/- gosem.cut.init -/
@[reducible] def e2r0 : List Ins := [
  ⟨(some 0), none, .call (.c (.fn 1 [])) [], .any⟩]
@[reducible] def e2 : EF := ⟨1, 0, [], (.reg e2r0)⟩
theorem e2_ok : compFn Try.prog {} Try.f2 = some e2 := by kernel_rfl
theorem e2_nm : (Try.f2.name == "runtime.NumGoroutine") = false := by kernel_rfl
/- yucca/yuccalaw14.ManyTells -/
@[reducible] def e3r0 : List Ins := [
  ⟨(some 4), none, .box 4 (.t 0), .any⟩,
  ⟨(some 5), none, .box 5 (.t 1), .any⟩,
  ⟨(some 8), none, .mov (.c (.bool false)), .any⟩]
@[reducible] def e3r1 : List Ins := [
  ⟨(some 15), none, .call (.c (.fn 7 [])) [], .any⟩,
  ⟨(some 16), none, .un .not (.t 15), .any⟩]
@[reducible] def e3r2 : List Ins := [
  ⟨(some 8), none, .mov (.c (.bool false)), .any⟩]
@[reducible] def e3n3 : EC := .seq (.reg e3r2) .ret
@[reducible] def e3n4 : EC := .cond (.t 16) e3n3 .skip
@[reducible] def e3n5 : EC := .seq (.reg e3r1) e3n4
@[reducible] def e3r6 : List Ins := [
  ⟨(some 17), none, .load true 4 (.t 4), .r⟩,
  ⟨(some 18), none, .call (.c (.fn 8 [])) [(.t 17)], .r⟩,
  ⟨(some 19), none, .load true 5 (.t 5), .r⟩,
  ⟨(some 20), none, .call (.c (.fn 9 [])) [(.t 19)], .r⟩,
  ⟨(some 21), none, .lit false 4 true (.agg [(.str []), (.sl 4 true []), (.sl 3 true []), (.str [])]) 2 [(0, (.t 18)), (1, (.t 20))], .n⟩,
  ⟨(some 9), none, .mov (.t 21), .n⟩]
@[reducible] def e3r7 : List Ins := [
  ⟨(some 10), none, .mov (.c (.int .i64 0)), .any⟩]
@[reducible] def e3r8 : List Ins := [
  ⟨(some 22), none, .mov (.t 10), .any⟩,
  ⟨(some 23), none, .mov (.t 9), .any⟩,
  ⟨(some 24), none, .len (.t 23), .any⟩,
  ⟨(some 25), none, .bin .lss (.t 22) (.t 24), .any⟩]
@[reducible] def e3n9 : EC := .cond (.t 25) .skip (.exit 0)
@[reducible] def e3n10 : EC := .seq (.reg e3r8) e3n9
@[reducible] def e3r11 : List Ins := [
  ⟨(some 29), none, .mov (.t 9), .any⟩,
  ⟨(some 30), none, .mov (.t 10), .any⟩,
  ⟨(some 31), none, .iaddr 4 (.t 29) (.t 30), .any⟩,
  ⟨(some 32), none, .load true 4 (.t 31), .any⟩,
  ⟨(some 33), none, .call (.c (.fn 10 [])) [(.t 32)], .any⟩,
  ⟨(some 28), none, .mov (.t 33), .any⟩,
  ⟨(some 34), none, .ext (.t 28) 0, .any⟩,
  ⟨(some 35), none, .ext (.t 28) 1, .any⟩,
  ⟨(some 11), none, .alloc 5 (.agg [(.sl 6 true []), (.sl 2 true []), (.sl 6 true []), (.str []), (.str [])]), .any⟩,
  ⟨none, none, .store 5 (.t 11) (.t 34), .any⟩,
  ⟨(some 12), none, .mov (.t 35), .any⟩]
@[reducible] def e3r12 : List Ins := [
  ⟨(some 36), none, .mov (.t 12), .any⟩,
  ⟨(some 37), none, .un .not (.t 36), .any⟩]
@[reducible] def e3n13 : EC := .cond (.t 37) (.exit 1) .skip
@[reducible] def e3n14 : EC := .seq (.reg e3r12) e3n13
@[reducible] def e3r15 : List Ins := [
  ⟨(some 38), none, .load true 5 (.t 11), .any⟩,
  ⟨(some 39), none, .mov (.t 3), .any⟩,
  ⟨(some 40), none, .call (.c (.fn 11 [])) [(.t 38), (.t 39), (.c (.int .i64 26))], .any⟩,
  ⟨(some 41), none, .mov (.t 3), .any⟩,
  ⟨(some 42), none, .call (.c (.fn 12 [])) [(.t 41), (.c (.int .i64 9))], .any⟩,
  ⟨(some 13), none, .mov (.t 40), .any⟩,
  ⟨(some 14), none, .mov (.t 42), .any⟩]
@[reducible] def e3r16 : List Ins := [
  ⟨(some 43), none, .load true 5 (.t 11), .r⟩,
  ⟨(some 44), none, .mov (.t 2), .n⟩,
  ⟨(some 45), none, .mov (.t 14), .n⟩,
  ⟨(some 46), none, .call (.c (.fn 13 [])) [(.t 43), (.t 44), (.t 45)], .r⟩,
  ⟨(some 47), none, .load true 5 (.t 11), .r⟩,
  ⟨(some 48), none, .mov (.t 2), .n⟩,
  ⟨(some 49), none, .mov (.t 14), .n⟩,
  ⟨(some 50), none, .call (.c (.fn 14 [])) [(.t 47), (.t 48), (.t 49)], .r⟩,
  ⟨(some 51), none, .bin .neq (.t 46) (.t 50), .n⟩,
  ⟨(some 52), none, .mov (.t 51), .n⟩,
  ⟨(some 53), (some (52, false)), .load true 5 (.t 11), .r⟩,
  ⟨(some 54), (some (52, false)), .mov (.t 2), .n⟩,
  ⟨(some 55), (some (52, false)), .faddr 1 (.t 11), .n⟩,
  ⟨(some 56), (some (52, false)), .load false 1 (.t 55), .r⟩,
  ⟨(some 57), (some (52, false)), .len (.t 56), .n⟩,
  ⟨(some 58), (some (52, false)), .call (.c (.fn 15 [])) [(.t 54), (.t 57)], .r⟩,
  ⟨(some 59), (some (52, false)), .bin .add (.c (.int .i64 1000)) (.t 58), .n⟩,
  ⟨(some 60), (some (52, false)), .mov (.t 13), .n⟩,
  ⟨(some 61), (some (52, false)), .call (.c (.fn 13 [])) [(.t 53), (.t 59), (.t 60)], .r⟩,
  ⟨(some 62), (some (52, false)), .load true 5 (.t 11), .r⟩,
  ⟨(some 63), (some (52, false)), .mov (.t 2), .n⟩,
  ⟨(some 64), (some (52, false)), .faddr 1 (.t 11), .n⟩,
  ⟨(some 65), (some (52, false)), .load false 1 (.t 64), .r⟩,
  ⟨(some 66), (some (52, false)), .len (.t 65), .n⟩,
  ⟨(some 67), (some (52, false)), .call (.c (.fn 15 [])) [(.t 63), (.t 66)], .r⟩,
  ⟨(some 68), (some (52, false)), .bin .add (.c (.int .i64 1000)) (.t 67), .n⟩,
  ⟨(some 69), (some (52, false)), .mov (.t 13), .n⟩,
  ⟨(some 70), (some (52, false)), .call (.c (.fn 14 [])) [(.t 62), (.t 68), (.t 69)], .r⟩,
  ⟨(some 71), (some (52, false)), .bin .neq (.t 61) (.t 70), .n⟩,
  ⟨(some 72), none, .pick (.t 52) (.c (.bool true)) (.t 71), .n⟩,
  ⟨(some 73), none, .mov (.t 72), .n⟩,
  ⟨(some 74), (some (73, false)), .load true 5 (.t 11), .r⟩,
  ⟨(some 75), (some (73, false)), .mov (.t 2), .n⟩,
  ⟨(some 76), (some (73, false)), .faddr 0 (.t 11), .n⟩,
  ⟨(some 77), (some (73, false)), .load false 1 (.t 76), .r⟩,
  ⟨(some 78), (some (73, false)), .len (.t 77), .n⟩,
  ⟨(some 79), (some (73, false)), .call (.c (.fn 15 [])) [(.t 75), (.t 78)], .r⟩,
  ⟨(some 80), (some (73, false)), .mov (.t 13), .n⟩,
  ⟨(some 81), (some (73, false)), .call (.c (.fn 13 [])) [(.t 74), (.t 79), (.t 80)], .r⟩,
  ⟨(some 82), (some (73, false)), .load true 5 (.t 11), .r⟩,
  ⟨(some 83), (some (73, false)), .mov (.t 2), .n⟩,
  ⟨(some 84), (some (73, false)), .faddr 0 (.t 11), .n⟩,
  ⟨(some 85), (some (73, false)), .load false 1 (.t 84), .r⟩,
  ⟨(some 86), (some (73, false)), .len (.t 85), .n⟩,
  ⟨(some 87), (some (73, false)), .call (.c (.fn 15 [])) [(.t 83), (.t 86)], .r⟩,
  ⟨(some 88), (some (73, false)), .mov (.t 13), .n⟩,
  ⟨(some 89), (some (73, false)), .call (.c (.fn 14 [])) [(.t 82), (.t 87), (.t 88)], .r⟩,
  ⟨(some 90), (some (73, false)), .bin .neq (.t 81) (.t 89), .n⟩,
  ⟨(some 91), none, .pick (.t 73) (.c (.bool true)) (.t 90), .n⟩]
@[reducible] def e3r17 : List Ins := [
  ⟨(some 8), none, .mov (.c (.bool false)), .any⟩]
@[reducible] def e3n18 : EC := .seq (.reg e3r17) .ret
@[reducible] def e3n19 : EC := .cond (.t 91) e3n18 .skip
@[reducible] def e3n20 : EC := .seq (.reg e3r16) e3n19
@[reducible] def e3n21 : EC := .seq (.reg e3r15) e3n20
@[reducible] def e3n22 : EC := .seq e3n14 e3n21
@[reducible] def e3n23 : EC := .seq (.reg e3r11) e3n22
@[reducible] def e3n24 : EC := .block 1 e3n23
@[reducible] def e3r25 : List Ins := [
  ⟨(some 26), none, .mov (.t 10), .any⟩,
  ⟨(some 27), none, .bin .add (.t 26) (.c (.int .i64 1)), .any⟩,
  ⟨(some 10), none, .mov (.t 27), .any⟩]
@[reducible] def e3n26 : EC := .seq e3n24 (.reg e3r25)
@[reducible] def e3n27 : EC := .seq e3n10 e3n26
@[reducible] def e3n28 : EC := .loop e3n27
@[reducible] def e3n29 : EC := .block 0 e3n28
@[reducible] def e3n30 : EC := .seq (.reg e3r7) e3n29
@[reducible] def e3r31 : List Ins := [
  ⟨(some 8), none, .mov (.c (.bool true)), .any⟩]
@[reducible] def e3n32 : EC := .seq (.reg e3r31) .ret
@[reducible] def e3n33 : EC := .seq e3n30 e3n32
@[reducible] def e3n34 : EC := .seq (.reg e3r6) e3n33
@[reducible] def e3n35 : EC := .seq e3n5 e3n34
@[reducible] def e3n36 : EC := .seq (.reg e3r0) e3n35
@[reducible] def e3 : EF := ⟨92, 4, [(.inl 8)], e3n36⟩
theorem e3_ok : compFn Try.prog {} Try.f3 = some e3 := by kernel_rfl
theorem e3_nm : (Try.f3.name == "runtime.NumGoroutine") = false := by kernel_rfl
/- yucca/yuccalaw14.ManySums -/
@[reducible] def e4r0 : List Ins := [
  ⟨(some 6), none, .mov (.c (.bool false)), .any⟩]
@[reducible] def e4r1 : List Ins := [
  ⟨(some 17), none, .call (.c (.fn 7 [])) [], .any⟩,
  ⟨(some 18), none, .un .not (.t 17), .any⟩]
@[reducible] def e4r2 : List Ins := [
  ⟨(some 6), none, .mov (.c (.bool false)), .any⟩]
@[reducible] def e4n3 : EC := .seq (.reg e4r2) .ret
@[reducible] def e4n4 : EC := .cond (.t 18) e4n3 .skip
@[reducible] def e4n5 : EC := .seq (.reg e4r1) e4n4
@[reducible] def e4r6 : List Ins := [
  ⟨(some 19), none, .mov (.t 0), .any⟩,
  ⟨(some 20), none, .call (.c (.fn 15 [])) [(.t 19), (.c (.int .i64 12))], .any⟩,
  ⟨(some 21), none, .bin .add (.c (.int .i64 1)) (.t 20), .any⟩,
  ⟨(some 0), none, .mov (.t 21), .any⟩]
@[reducible] def e4r7 : List Ins := [
  ⟨(some 22), none, .lit true 1 false (.int .i64 0) 1 [(0, (.c (.int .i64 4)))], .any⟩,
  ⟨(some 7), none, .mov (.t 22), .any⟩]
@[reducible] def e4r8 : List Ins := [
  ⟨(some 8), none, .mov (.c (.int .i64 1)), .any⟩]
@[reducible] def e4r9 : List Ins := [
  ⟨(some 23), none, .mov (.t 8), .any⟩,
  ⟨(some 24), none, .mov (.t 0), .any⟩,
  ⟨(some 25), none, .bin .lss (.t 23) (.t 24), .any⟩]
@[reducible] def e4n10 : EC := .cond (.t 25) .skip (.exit 0)
@[reducible] def e4n11 : EC := .seq (.reg e4r9) e4n10
@[reducible] def e4r12 : List Ins := [
  ⟨(some 28), none, .mov (.t 7), .any⟩,
  ⟨(some 29), none, .lit false 1 false (.int .i64 0) 2 [(0, (.c (.int .i64 3))), (1, (.c (.int .i64 4)))], .any⟩,
  ⟨(some 30), none, .append true 1 8 (.t 28) (.t 29), .any⟩,
  ⟨(some 7), none, .mov (.t 30), .any⟩]
@[reducible] def e4n13 : EC := .block 1 (.reg e4r12)
@[reducible] def e4r14 : List Ins := [
  ⟨(some 26), none, .mov (.t 8), .any⟩,
  ⟨(some 27), none, .bin .add (.t 26) (.c (.int .i64 1)), .any⟩,
  ⟨(some 8), none, .mov (.t 27), .any⟩]
@[reducible] def e4n15 : EC := .seq e4n13 (.reg e4r14)
@[reducible] def e4n16 : EC := .seq e4n11 e4n15
@[reducible] def e4n17 : EC := .loop e4n16
@[reducible] def e4n18 : EC := .block 0 e4n17
@[reducible] def e4n19 : EC := .seq (.reg e4r8) e4n18
@[reducible] def e4r20 : List Ins := [
  ⟨(some 31), none, .lit false 1 false (.str []) 2 [(0, (.c (.str [101, 43, 101]))), (1, (.c (.str [120])))], .any⟩,
  ⟨(some 32), none, .call (.c (.fn 16 [])) [(.t 31)], .any⟩,
  ⟨(some 33), none, .lit false 1 false (.str []) 2 [(0, (.c (.str [101, 43, 120]))), (1, (.c (.str [120])))], .any⟩,
  ⟨(some 34), none, .call (.c (.fn 16 [])) [(.t 33)], .any⟩,
  ⟨(some 9), none, .alloc 5 (.agg [(.sl 6 true []), (.sl 2 true []), (.sl 6 true []), (.str []), (.str [])]), .any⟩,
  ⟨(some 10), none, .alloc 5 (.agg [(.sl 6 true []), (.sl 2 true []), (.sl 6 true []), (.str []), (.str [])]), .any⟩,
  ⟨none, none, .store 5 (.t 9) (.t 32), .any⟩,
  ⟨none, none, .store 5 (.t 10) (.t 34), .any⟩]
@[reducible] def e4r21 : List Ins := [
  ⟨(some 35), none, .mov (.t 2), .any⟩,
  ⟨(some 36), none, .un .not (.t 35), .any⟩]
@[reducible] def e4r22 : List Ins := [
  ⟨(some 37), none, .lit false 1 false (.str []) 2 [(0, (.c (.str [120, 43, 101]))), (1, (.c (.str [120])))], .any⟩,
  ⟨(some 38), none, .call (.c (.fn 16 [])) [(.t 37)], .any⟩,
  ⟨none, none, .store 5 (.t 10) (.t 38), .any⟩]
@[reducible] def e4r23 : List Ins := [
  ⟨(some 11), none, .mov (.c (.int .i64 0)), .any⟩]
@[reducible] def e4r24 : List Ins := [
  ⟨(some 39), none, .mov (.t 11), .any⟩,
  ⟨(some 40), none, .mov (.t 7), .any⟩,
  ⟨(some 41), none, .len (.t 40), .any⟩,
  ⟨(some 42), none, .bin .lss (.t 39) (.t 41), .any⟩]
@[reducible] def e4n25 : EC := .cond (.t 42) .skip (.exit 2)
@[reducible] def e4n26 : EC := .seq (.reg e4r24) e4n25
@[reducible] def e4r27 : List Ins := [
  ⟨(some 45), none, .mov (.t 7), .any⟩,
  ⟨(some 46), none, .mov (.t 11), .any⟩,
  ⟨(some 47), none, .mov (.t 7), .any⟩,
  ⟨(some 48), none, .mov (.t 11), .any⟩,
  ⟨(some 49), none, .iaddr 1 (.t 47) (.t 48), .any⟩,
  ⟨(some 50), none, .load false 1 (.t 49), .any⟩,
  ⟨(some 51), none, .bin .sub (.c (.int .i64 7)) (.t 50), .any⟩,
  ⟨(some 52), none, .iaddr 1 (.t 45) (.t 46), .any⟩,
  ⟨none, none, .store 1 (.t 52) (.t 51), .any⟩]
@[reducible] def e4n28 : EC := .block 3 (.reg e4r27)
@[reducible] def e4r29 : List Ins := [
  ⟨(some 43), none, .mov (.t 11), .any⟩,
  ⟨(some 44), none, .bin .add (.t 43) (.c (.int .i64 1)), .any⟩,
  ⟨(some 11), none, .mov (.t 44), .any⟩]
@[reducible] def e4n30 : EC := .seq e4n28 (.reg e4r29)
@[reducible] def e4n31 : EC := .seq e4n26 e4n30
@[reducible] def e4n32 : EC := .loop e4n31
@[reducible] def e4n33 : EC := .block 2 e4n32
@[reducible] def e4n34 : EC := .seq (.reg e4r23) e4n33
@[reducible] def e4n35 : EC := .seq (.reg e4r22) e4n34
@[reducible] def e4n36 : EC := .cond (.t 36) e4n35 .skip
@[reducible] def e4n37 : EC := .seq (.reg e4r21) e4n36
@[reducible] def e4r38 : List Ins := [
  ⟨(some 53), none, .mov (.t 7), .any⟩,
  ⟨(some 12), none, .mov (.t 53), .any⟩]
@[reducible] def e4r39 : List Ins := [
  ⟨(some 54), none, .mov (.t 2), .any⟩,
  ⟨(some 55), none, .un .not (.t 54), .any⟩]
@[reducible] def e4r40 : List Ins := [
  ⟨(some 12), none, .mov (.c (.sl 1 true [])), .any⟩]
@[reducible] def e4r41 : List Ins := [
  ⟨(some 13), none, .mov (.c (.int .i64 0)), .any⟩]
@[reducible] def e4r42 : List Ins := [
  ⟨(some 56), none, .mov (.t 13), .any⟩,
  ⟨(some 57), none, .mov (.t 7), .any⟩,
  ⟨(some 58), none, .len (.t 57), .any⟩,
  ⟨(some 59), none, .bin .lss (.t 56) (.t 58), .any⟩]
@[reducible] def e4n43 : EC := .cond (.t 59) .skip (.exit 4)
@[reducible] def e4n44 : EC := .seq (.reg e4r42) e4n43
@[reducible] def e4r45 : List Ins := [
  ⟨(some 62), none, .mov (.t 12), .any⟩,
  ⟨(some 63), none, .mov (.t 7), .any⟩,
  ⟨(some 64), none, .mov (.t 13), .any⟩,
  ⟨(some 65), none, .iaddr 1 (.t 63) (.t 64), .any⟩,
  ⟨(some 66), none, .load false 1 (.t 65), .any⟩,
  ⟨(some 67), none, .bin .sub (.c (.int .i64 7)) (.t 66), .any⟩,
  ⟨(some 68), none, .lit false 1 false (.int .i64 0) 1 [(0, (.t 67))], .any⟩,
  ⟨(some 69), none, .append false 1 8 (.t 62) (.t 68), .any⟩,
  ⟨(some 12), none, .mov (.t 69), .any⟩]
@[reducible] def e4n46 : EC := .block 5 (.reg e4r45)
@[reducible] def e4r47 : List Ins := [
  ⟨(some 60), none, .mov (.t 13), .any⟩,
  ⟨(some 61), none, .bin .add (.t 60) (.c (.int .i64 1)), .any⟩,
  ⟨(some 13), none, .mov (.t 61), .any⟩]
@[reducible] def e4n48 : EC := .seq e4n46 (.reg e4r47)
@[reducible] def e4n49 : EC := .seq e4n44 e4n48
@[reducible] def e4n50 : EC := .loop e4n49
@[reducible] def e4n51 : EC := .block 4 e4n50
@[reducible] def e4n52 : EC := .seq (.reg e4r41) e4n51
@[reducible] def e4n53 : EC := .seq (.reg e4r40) e4n52
@[reducible] def e4n54 : EC := .cond (.t 55) e4n53 .skip
@[reducible] def e4n55 : EC := .seq (.reg e4r39) e4n54
@[reducible] def e4r56 : List Ins := [
  ⟨(some 14), none, .mov (.c (.int .i64 1)), .any⟩]
@[reducible] def e4r57 : List Ins := [
  ⟨(some 70), none, .mov (.t 0), .any⟩,
  ⟨(some 71), none, .bin .gtr (.t 70) (.c (.int .i64 2)), .any⟩]
@[reducible] def e4r58 : List Ins := [
  ⟨(some 14), none, .mov (.c (.int .i64 2)), .any⟩]
@[reducible] def e4n59 : EC := .cond (.t 71) (.reg e4r58) .skip
@[reducible] def e4n60 : EC := .seq (.reg e4r57) e4n59
@[reducible] def e4r61 : List Ins := [
  ⟨(some 72), none, .load true 5 (.t 9), .any⟩,
  ⟨(some 73), none, .mov (.t 12), .any⟩,
  ⟨(some 74), none, .call (.c (.fn 13 [])) [(.t 72), (.c (.int .i64 1001)), (.t 73)], .any⟩,
  ⟨(some 75), none, .mov (.t 14), .any⟩,
  ⟨(some 76), none, .bin .neq (.t 74) (.t 75), .any⟩,
  ⟨(some 77), none, .mov (.t 76), .any⟩,
  ⟨(some 78), (some (77, false)), .load true 5 (.t 10), .any⟩,
  ⟨(some 79), (some (77, false)), .mov (.t 7), .any⟩,
  ⟨(some 80), (some (77, false)), .call (.c (.fn 13 [])) [(.t 78), (.c (.int .i64 1001)), (.t 79)], .any⟩,
  ⟨(some 81), (some (77, false)), .bin .neq (.t 80) (.c (.int .i64 1)), .any⟩,
  ⟨(some 82), none, .pick (.t 77) (.c (.bool true)) (.t 81), .any⟩]
@[reducible] def e4r62 : List Ins := [
  ⟨(some 6), none, .mov (.c (.bool false)), .any⟩]
@[reducible] def e4n63 : EC := .seq (.reg e4r62) .ret
@[reducible] def e4n64 : EC := .cond (.t 82) e4n63 .skip
@[reducible] def e4n65 : EC := .seq (.reg e4r61) e4n64
@[reducible] def e4r66 : List Ins := [
  ⟨(some 83), none, .mov (.t 1), .any⟩,
  ⟨(some 84), none, .mov (.t 7), .any⟩,
  ⟨(some 85), none, .len (.t 84), .any⟩,
  ⟨(some 86), none, .call (.c (.fn 15 [])) [(.t 83), (.t 85)], .any⟩,
  ⟨(some 15), none, .mov (.t 86), .any⟩]
@[reducible] def e4r67 : List Ins := [
  ⟨(some 87), none, .lit false 1 false (.int .i64 0) 0 [], .n⟩,
  ⟨(some 88), none, .mov (.t 7), .n⟩,
  ⟨(some 89), none, .mov (.t 15), .n⟩,
  ⟨(some 90), none, .slc 1 (.t 88) none (some (.t 89)) none, .n⟩,
  ⟨(some 91), none, .append false 1 8 (.t 87) (.t 90), .t⟩,
  ⟨(some 92), none, .mov (.t 7), .n⟩,
  ⟨(some 93), none, .mov (.t 15), .n⟩,
  ⟨(some 94), none, .bin .add (.t 93) (.c (.int .i64 1)), .n⟩,
  ⟨(some 95), none, .slc 1 (.t 92) (some (.t 94)) none none, .n⟩,
  ⟨(some 96), none, .append false 1 8 (.t 91) (.t 95), .t⟩,
  ⟨(some 16), none, .mov (.t 96), .n⟩]
@[reducible] def e4r68 : List Ins := [
  ⟨(some 97), none, .load true 5 (.t 10), .any⟩,
  ⟨(some 98), none, .mov (.t 16), .any⟩,
  ⟨(some 99), none, .call (.c (.fn 13 [])) [(.t 97), (.c (.int .i64 1001)), (.t 98)], .any⟩,
  ⟨(some 100), none, .bin .eql (.t 99) (.c (.int .i64 0)), .any⟩,
  ⟨(some 6), none, .mov (.t 100), .any⟩]
@[reducible] def e4n69 : EC := .seq (.reg e4r68) .ret
@[reducible] def e4n70 : EC := .seq (.reg e4r67) e4n69
@[reducible] def e4n71 : EC := .seq (.reg e4r66) e4n70
@[reducible] def e4n72 : EC := .seq e4n65 e4n71
@[reducible] def e4n73 : EC := .seq e4n60 e4n72
@[reducible] def e4n74 : EC := .seq (.reg e4r56) e4n73
@[reducible] def e4n75 : EC := .seq e4n55 e4n74
@[reducible] def e4n76 : EC := .seq (.reg e4r38) e4n75
@[reducible] def e4n77 : EC := .seq e4n37 e4n76
@[reducible] def e4n78 : EC := .seq (.reg e4r20) e4n77
@[reducible] def e4n79 : EC := .seq e4n19 e4n78
@[reducible] def e4n80 : EC := .seq (.reg e4r7) e4n79
@[reducible] def e4n81 : EC := .seq (.reg e4r6) e4n80
@[reducible] def e4n82 : EC := .seq e4n5 e4n81
@[reducible] def e4n83 : EC := .seq (.reg e4r0) e4n82
@[reducible] def e4 : EF := ⟨101, 3, [(.inl 6)], e4n83⟩
theorem e4_ok : compFn Try.prog { mu := fun t => [22, 30].contains t } Try.f4 = some e4 := by kernel_rfl
theorem e4_nm : (Try.f4.name == "runtime.NumGoroutine") = false := by kernel_rfl
/- yucca/yuccalaw14.ManyRounds -/
@[reducible] def e5r0 : List Ins := [
  ⟨(some 4), none, .mov (.c (.bool false)), .any⟩]
@[reducible] def e5r1 : List Ins := [
  ⟨(some 9), none, .call (.c (.fn 7 [])) [], .any⟩,
  ⟨(some 10), none, .un .not (.t 9), .any⟩]
@[reducible] def e5r2 : List Ins := [
  ⟨(some 4), none, .mov (.c (.bool false)), .any⟩]
@[reducible] def e5n3 : EC := .seq (.reg e5r2) .ret
@[reducible] def e5n4 : EC := .cond (.t 10) e5n3 .skip
@[reducible] def e5n5 : EC := .seq (.reg e5r1) e5n4
@[reducible] def e5r6 : List Ins := [
  ⟨(some 11), none, .mov (.t 0), .any⟩,
  ⟨(some 12), none, .call (.c (.fn 15 [])) [(.t 11), (.c (.int .i64 12))], .any⟩,
  ⟨(some 13), none, .mov (.t 1), .any⟩,
  ⟨(some 14), none, .call (.c (.fn 15 [])) [(.t 13), (.c (.int .i64 3))], .any⟩,
  ⟨(some 0), none, .mov (.t 12), .any⟩,
  ⟨(some 1), none, .mov (.t 14), .any⟩]
@[reducible] def e5r7 : List Ins := [
  ⟨(some 5), none, .mov (.c (.sl 1 true [])), .any⟩]
@[reducible] def e5r8 : List Ins := [
  ⟨(some 6), none, .mov (.c (.int .i64 0)), .any⟩]
@[reducible] def e5r9 : List Ins := [
  ⟨(some 15), none, .mov (.t 6), .any⟩,
  ⟨(some 16), none, .mov (.t 0), .any⟩,
  ⟨(some 17), none, .bin .lss (.t 15) (.t 16), .any⟩]
@[reducible] def e5n10 : EC := .cond (.t 17) .skip (.exit 0)
@[reducible] def e5n11 : EC := .seq (.reg e5r9) e5n10
@[reducible] def e5r12 : List Ins := [
  ⟨(some 20), none, .mov (.t 5), .any⟩,
  ⟨(some 21), none, .lit false 1 false (.int .i64 0) 1 [(0, (.c (.int .i64 3)))], .any⟩,
  ⟨(some 22), none, .append false 1 8 (.t 20) (.t 21), .any⟩,
  ⟨(some 5), none, .mov (.t 22), .any⟩]
@[reducible] def e5n13 : EC := .block 1 (.reg e5r12)
@[reducible] def e5r14 : List Ins := [
  ⟨(some 18), none, .mov (.t 6), .any⟩,
  ⟨(some 19), none, .bin .add (.t 18) (.c (.int .i64 1)), .any⟩,
  ⟨(some 6), none, .mov (.t 19), .any⟩]
@[reducible] def e5n15 : EC := .seq e5n13 (.reg e5r14)
@[reducible] def e5n16 : EC := .seq e5n11 e5n15
@[reducible] def e5n17 : EC := .loop e5n16
@[reducible] def e5n18 : EC := .block 0 e5n17
@[reducible] def e5n19 : EC := .seq (.reg e5r8) e5n18
@[reducible] def e5r20 : List Ins := [
  ⟨(some 7), none, .mov (.c (.int .i64 0)), .any⟩]
@[reducible] def e5r21 : List Ins := [
  ⟨(some 23), none, .mov (.t 7), .any⟩,
  ⟨(some 24), none, .mov (.t 0), .any⟩,
  ⟨(some 25), none, .mov (.t 1), .any⟩,
  ⟨(some 26), none, .bin .add (.t 24) (.t 25), .any⟩,
  ⟨(some 27), none, .bin .lss (.t 23) (.t 26), .any⟩,
  ⟨(some 28), none, .mov (.t 27), .any⟩,
  ⟨(some 29), (some (28, true)), .mov (.t 5), .any⟩,
  ⟨(some 30), (some (28, true)), .len (.t 29), .any⟩,
  ⟨(some 31), (some (28, true)), .bin .lss (.t 30) (.c (.int .i64 24)), .any⟩,
  ⟨(some 32), none, .pick (.t 28) (.t 31) (.c (.bool false)), .any⟩]
@[reducible] def e5n22 : EC := .cond (.t 32) .skip (.exit 2)
@[reducible] def e5n23 : EC := .seq (.reg e5r21) e5n22
@[reducible] def e5r24 : List Ins := [
  ⟨(some 35), none, .mov (.t 5), .any⟩,
  ⟨(some 36), none, .lit false 1 false (.int .i64 0) 1 [(0, (.c (.int .i64 4)))], .any⟩,
  ⟨(some 37), none, .append false 1 8 (.t 35) (.t 36), .any⟩,
  ⟨(some 5), none, .mov (.t 37), .any⟩]
@[reducible] def e5n25 : EC := .block 3 (.reg e5r24)
@[reducible] def e5r26 : List Ins := [
  ⟨(some 33), none, .mov (.t 7), .any⟩,
  ⟨(some 34), none, .bin .add (.t 33) (.c (.int .i64 1)), .any⟩,
  ⟨(some 7), none, .mov (.t 34), .any⟩]
@[reducible] def e5n27 : EC := .seq e5n25 (.reg e5r26)
@[reducible] def e5n28 : EC := .seq e5n23 e5n27
@[reducible] def e5n29 : EC := .loop e5n28
@[reducible] def e5n30 : EC := .block 2 e5n29
@[reducible] def e5n31 : EC := .seq (.reg e5r20) e5n30
@[reducible] def e5r32 : List Ins := [
  ⟨(some 8), none, .mov (.c (.int .i64 0)), .any⟩]
@[reducible] def e5r33 : List Ins := [
  ⟨(some 38), none, .mov (.t 5), .any⟩,
  ⟨(some 39), none, .len (.t 38), .any⟩,
  ⟨(some 40), none, .mov (.t 0), .any⟩,
  ⟨(some 41), none, .bin .mul (.c (.int .i64 2)) (.t 40), .any⟩,
  ⟨(some 42), none, .bin .eql (.t 39) (.t 41), .any⟩]
@[reducible] def e5r34 : List Ins := [
  ⟨(some 8), none, .mov (.c (.int .i64 1)), .any⟩]
@[reducible] def e5n35 : EC := .cond (.t 42) (.reg e5r34) .skip
@[reducible] def e5n36 : EC := .seq (.reg e5r33) e5n35
@[reducible] def e5r37 : List Ins := [
  ⟨(some 43), none, .lit false 1 false (.str []) 2 [(0, (.c (.str [40, 101, 41]))), (1, (.c (.str [])))], .any⟩,
  ⟨(some 44), none, .call (.c (.fn 16 [])) [(.t 43)], .any⟩,
  ⟨(some 45), none, .mov (.t 5), .any⟩,
  ⟨(some 46), none, .call (.c (.fn 13 [])) [(.t 44), (.c (.int .i64 1001)), (.t 45)], .any⟩,
  ⟨(some 47), none, .mov (.t 8), .any⟩,
  ⟨(some 48), none, .bin .neq (.t 46) (.t 47), .any⟩]
@[reducible] def e5r38 : List Ins := [
  ⟨(some 4), none, .mov (.c (.bool false)), .any⟩]
@[reducible] def e5n39 : EC := .seq (.reg e5r38) .ret
@[reducible] def e5n40 : EC := .cond (.t 48) e5n39 .skip
@[reducible] def e5n41 : EC := .seq (.reg e5r37) e5n40
@[reducible] def e5r42 : List Ins := [
  ⟨(some 49), none, .lit false 1 false (.str []) 3 [(0, (.c (.str [40, 101, 41]))), (1, (.c (.str []))), (2, (.c (.str [101])))], .any⟩,
  ⟨(some 50), none, .call (.c (.fn 16 [])) [(.t 49)], .any⟩,
  ⟨(some 51), none, .mov (.t 5), .any⟩,
  ⟨(some 52), none, .call (.c (.fn 13 [])) [(.t 50), (.c (.int .i64 1001)), (.t 51)], .any⟩,
  ⟨(some 53), none, .mov (.t 8), .any⟩,
  ⟨(some 54), none, .bin .mul (.c (.int .i64 2)) (.t 53), .any⟩,
  ⟨(some 55), none, .bin .eql (.t 52) (.t 54), .any⟩,
  ⟨(some 56), none, .mov (.t 55), .any⟩,
  ⟨(some 57), (some (56, true)), .lit false 1 false (.str []) 3 [(0, (.c (.str [40, 101, 41]))), (1, (.c (.str [101, 101]))), (2, (.c (.str [])))], .any⟩,
  ⟨(some 58), (some (56, true)), .call (.c (.fn 16 [])) [(.t 57)], .any⟩,
  ⟨(some 59), (some (56, true)), .mov (.t 5), .any⟩,
  ⟨(some 60), (some (56, true)), .call (.c (.fn 13 [])) [(.t 58), (.c (.int .i64 1001)), (.t 59)], .any⟩,
  ⟨(some 61), (some (56, true)), .mov (.t 8), .any⟩,
  ⟨(some 62), (some (56, true)), .bin .mul (.c (.int .i64 2)) (.t 61), .any⟩,
  ⟨(some 63), (some (56, true)), .bin .eql (.t 60) (.t 62), .any⟩,
  ⟨(some 64), none, .pick (.t 56) (.t 63) (.c (.bool false)), .any⟩,
  ⟨(some 4), none, .mov (.t 64), .any⟩]
@[reducible] def e5n43 : EC := .seq (.reg e5r42) .ret
@[reducible] def e5n44 : EC := .seq e5n41 e5n43
@[reducible] def e5n45 : EC := .seq e5n36 e5n44
@[reducible] def e5n46 : EC := .seq (.reg e5r32) e5n45
@[reducible] def e5n47 : EC := .seq e5n31 e5n46
@[reducible] def e5n48 : EC := .seq e5n19 e5n47
@[reducible] def e5n49 : EC := .seq (.reg e5r7) e5n48
@[reducible] def e5n50 : EC := .seq (.reg e5r6) e5n49
@[reducible] def e5n51 : EC := .seq e5n5 e5n50
@[reducible] def e5n52 : EC := .seq (.reg e5r0) e5n51
@[reducible] def e5 : EF := ⟨65, 2, [(.inl 4)], e5n52⟩
theorem e5_ok : compFn Try.prog {} Try.f5 = some e5 := by kernel_rfl
theorem e5_nm : (Try.f5.name == "runtime.NumGoroutine") = false := by kernel_rfl
/- yucca/yuccalaw14.ManyTrees -/
@[reducible] def e6r0 : List Ins := [
  ⟨(some 3), none, .box 4 (.t 0), .any⟩,
  ⟨(some 6), none, .mov (.c (.bool false)), .any⟩]
@[reducible] def e6r1 : List Ins := [
  ⟨(some 15), none, .call (.c (.fn 7 [])) [], .any⟩,
  ⟨(some 16), none, .un .not (.t 15), .any⟩]
@[reducible] def e6r2 : List Ins := [
  ⟨(some 6), none, .mov (.c (.bool false)), .any⟩]
@[reducible] def e6n3 : EC := .seq (.reg e6r2) .ret
@[reducible] def e6n4 : EC := .cond (.t 16) e6n3 .skip
@[reducible] def e6n5 : EC := .seq (.reg e6r1) e6n4
@[reducible] def e6r6 : List Ins := [
  ⟨(some 18), none, .load true 4 (.t 3), .any⟩,
  ⟨(some 19), none, .call (.c (.fn 8 [])) [(.t 18)], .any⟩,
  ⟨(some 20), none, .call (.c (.fn 10 [])) [(.t 19)], .any⟩,
  ⟨(some 17), none, .mov (.t 20), .any⟩,
  ⟨(some 21), none, .ext (.t 17) 0, .any⟩,
  ⟨(some 22), none, .ext (.t 17) 1, .any⟩,
  ⟨(some 7), none, .alloc 5 (.agg [(.sl 6 true []), (.sl 2 true []), (.sl 6 true []), (.str []), (.str [])]), .any⟩,
  ⟨none, none, .store 5 (.t 7) (.t 21), .any⟩,
  ⟨(some 8), none, .mov (.t 22), .any⟩]
@[reducible] def e6r7 : List Ins := [
  ⟨(some 23), none, .mov (.t 8), .any⟩,
  ⟨(some 24), none, .un .not (.t 23), .any⟩]
@[reducible] def e6r8 : List Ins := [
  ⟨(some 6), none, .mov (.c (.bool true)), .any⟩]
@[reducible] def e6n9 : EC := .seq (.reg e6r8) .ret
@[reducible] def e6n10 : EC := .cond (.t 24) e6n9 .skip
@[reducible] def e6n11 : EC := .seq (.reg e6r7) e6n10
@[reducible] def e6r12 : List Ins := [
  ⟨(some 26), none, .load true 5 (.t 7), .r⟩,
  ⟨(some 27), none, .mov (.t 1), .n⟩,
  ⟨(some 28), none, .call (.c (.fn 12 [])) [(.t 27), (.c (.int .i64 20))], .r⟩,
  ⟨(some 29), none, .call (.c (.fn 17 [])) [(.t 26), (.t 28)], .r⟩,
  ⟨(some 25), none, .mov (.t 29), .n⟩,
  ⟨(some 30), none, .ext (.t 25) 0, .n⟩,
  ⟨(some 31), none, .ext (.t 25) 1, .n⟩,
  ⟨(some 9), none, .alloc 4 (.agg [(.int .i64 0), (.int .i64 0), (.int .i64 0), (.sl 4 true [])]), .a⟩,
  ⟨none, none, .store 4 (.t 9) (.t 30), .w⟩,
  ⟨(some 10), none, .mov (.t 31), .n⟩]
@[reducible] def e6r13 : List Ins := [
  ⟨(some 33), none, .load true 5 (.t 7), .r⟩,
  ⟨(some 34), none, .mov (.t 2), .n⟩,
  ⟨(some 35), none, .call (.c (.fn 12 [])) [(.t 34), (.c (.int .i64 20))], .r⟩,
  ⟨(some 36), none, .call (.c (.fn 17 [])) [(.t 33), (.t 35)], .r⟩,
  ⟨(some 32), none, .mov (.t 36), .n⟩,
  ⟨(some 37), none, .ext (.t 32) 0, .n⟩,
  ⟨(some 38), none, .ext (.t 32) 1, .n⟩,
  ⟨(some 11), none, .alloc 4 (.agg [(.int .i64 0), (.int .i64 0), (.int .i64 0), (.sl 4 true [])]), .a⟩,
  ⟨none, none, .store 4 (.t 11) (.t 37), .w⟩,
  ⟨(some 12), none, .mov (.t 38), .n⟩]
@[reducible] def e6r14 : List Ins := [
  ⟨(some 39), none, .mov (.t 10), .any⟩,
  ⟨(some 40), none, .un .not (.t 39), .any⟩,
  ⟨(some 41), none, .mov (.t 40), .any⟩,
  ⟨(some 42), (some (41, false)), .mov (.t 12), .any⟩,
  ⟨(some 43), (some (41, false)), .un .not (.t 42), .any⟩,
  ⟨(some 44), none, .pick (.t 41) (.c (.bool true)) (.t 43), .any⟩,
  ⟨(some 45), none, .mov (.t 44), .any⟩,
  ⟨(some 46), (some (45, false)), .load true 4 (.t 9), .any⟩,
  ⟨(some 47), (some (45, false)), .call (.c (.fn 18 [])) [(.t 46)], .any⟩,
  ⟨(some 48), (some (45, false)), .bin .gtr (.t 47) (.c (.int .i64 3000)), .any⟩,
  ⟨(some 49), none, .pick (.t 45) (.c (.bool true)) (.t 48), .any⟩,
  ⟨(some 50), none, .mov (.t 49), .any⟩,
  ⟨(some 51), (some (50, false)), .load true 4 (.t 11), .any⟩,
  ⟨(some 52), (some (50, false)), .call (.c (.fn 18 [])) [(.t 51)], .any⟩,
  ⟨(some 53), (some (50, false)), .bin .gtr (.t 52) (.c (.int .i64 3000)), .any⟩,
  ⟨(some 54), none, .pick (.t 50) (.c (.bool true)) (.t 53), .any⟩]
@[reducible] def e6r15 : List Ins := [
  ⟨(some 6), none, .mov (.c (.bool true)), .any⟩]
@[reducible] def e6n16 : EC := .seq (.reg e6r15) .ret
@[reducible] def e6n17 : EC := .cond (.t 54) e6n16 .skip
@[reducible] def e6n18 : EC := .seq (.reg e6r14) e6n17
@[reducible] def e6r19 : List Ins := [
  ⟨(some 55), none, .load true 4 (.t 9), .any⟩,
  ⟨(some 56), none, .call (.c (.fn 19 [])) [(.t 55)], .any⟩,
  ⟨(some 13), none, .mov (.t 56), .any⟩]
@[reducible] def e6r20 : List Ins := [
  ⟨(some 57), none, .load true 5 (.t 7), .any⟩,
  ⟨(some 58), none, .faddr 0 (.t 9), .any⟩,
  ⟨(some 59), none, .load false 1 (.t 58), .any⟩,
  ⟨(some 60), none, .mov (.t 13), .any⟩,
  ⟨(some 61), none, .call (.c (.fn 13 [])) [(.t 57), (.t 59), (.t 60)], .any⟩,
  ⟨(some 14), none, .mov (.t 61), .any⟩]
@[reducible] def e6r21 : List Ins := [
  ⟨(some 62), none, .mov (.t 13), .any⟩,
  ⟨(some 63), none, .len (.t 62), .any⟩,
  ⟨(some 64), none, .bin .gtr (.t 63) (.c (.int .i64 24)), .any⟩]
@[reducible] def e6r22 : List Ins := [
  ⟨(some 65), none, .mov (.t 14), .any⟩,
  ⟨(some 66), none, .bin .eql (.t 65) (.c (.int .i64 (-1))), .any⟩,
  ⟨(some 6), none, .mov (.t 66), .any⟩]
@[reducible] def e6n23 : EC := .seq (.reg e6r22) .ret
@[reducible] def e6n24 : EC := .cond (.t 64) e6n23 .skip
@[reducible] def e6n25 : EC := .seq (.reg e6r21) e6n24
@[reducible] def e6r26 : List Ins := [
  ⟨(some 67), none, .mov (.t 13), .any⟩,
  ⟨(some 68), none, .load true 4 (.t 11), .any⟩,
  ⟨(some 69), none, .call (.c (.fn 19 [])) [(.t 68)], .any⟩,
  ⟨(some 70), none, .call (.c (.fn 20 [])) [(.t 67), (.t 69)], .any⟩,
  ⟨(some 71), none, .un .not (.t 70), .any⟩,
  ⟨(some 72), none, .mov (.t 71), .any⟩,
  ⟨(some 73), (some (72, false)), .load true 4 (.t 9), .any⟩,
  ⟨(some 74), (some (72, false)), .load true 4 (.t 11), .any⟩,
  ⟨(some 75), (some (72, false)), .call (.c (.fn 21 [])) [(.t 73), (.t 74)], .any⟩,
  ⟨(some 76), none, .pick (.t 72) (.c (.bool true)) (.t 75), .any⟩]
@[reducible] def e6r27 : List Ins := [
  ⟨(some 77), none, .mov (.t 14), .any⟩,
  ⟨(some 78), none, .bin .geq (.t 77) (.c (.int .i64 1)), .any⟩,
  ⟨(some 6), none, .mov (.t 78), .any⟩]
@[reducible] def e6n28 : EC := .seq (.reg e6r27) .ret
@[reducible] def e6n29 : EC := .cond (.t 76) e6n28 .skip
@[reducible] def e6n30 : EC := .seq (.reg e6r26) e6n29
@[reducible] def e6r31 : List Ins := [
  ⟨(some 79), none, .mov (.t 14), .any⟩,
  ⟨(some 80), none, .bin .eql (.t 79) (.c (.int .i64 2)), .any⟩,
  ⟨(some 6), none, .mov (.t 80), .any⟩]
@[reducible] def e6n32 : EC := .seq (.reg e6r31) .ret
@[reducible] def e6n33 : EC := .seq e6n30 e6n32
@[reducible] def e6n34 : EC := .seq e6n25 e6n33
@[reducible] def e6n35 : EC := .seq (.reg e6r20) e6n34
@[reducible] def e6n36 : EC := .seq (.reg e6r19) e6n35
@[reducible] def e6n37 : EC := .seq e6n18 e6n36
@[reducible] def e6n38 : EC := .seq (.reg e6r13) e6n37
@[reducible] def e6n39 : EC := .seq (.reg e6r12) e6n38
@[reducible] def e6n40 : EC := .seq e6n11 e6n39
@[reducible] def e6n41 : EC := .seq (.reg e6r6) e6n40
@[reducible] def e6n42 : EC := .seq e6n5 e6n41
@[reducible] def e6n43 : EC := .seq (.reg e6r0) e6n42
@[reducible] def e6 : EF := ⟨81, 3, [(.inl 6)], e6n43⟩
theorem e6_ok : compFn Try.prog {} Try.f6 = some e6 := by kernel_rfl
theorem e6_nm : (Try.f6.name == "runtime.NumGoroutine") = false := by kernel_rfl
/- yucca/yuccalaw14.wakes -/
@[reducible] def e7r0 : List Ins := [
  ⟨(some 0), none, .mov (.c (.bool false)), .any⟩]
@[reducible] def e7r1 : List Ins := [
  ⟨(some 2), none, .lit false 1 false (.str []) 2 [(0, (.c (.str [101, 43, 101]))), (1, (.c (.str [120])))], .any⟩,
  ⟨(some 3), none, .call (.c (.fn 16 [])) [(.t 2)], .any⟩,
  ⟨(some 1), none, .alloc 5 (.agg [(.sl 6 true []), (.sl 2 true []), (.sl 6 true []), (.str []), (.str [])]), .any⟩,
  ⟨none, none, .store 5 (.t 1) (.t 3), .any⟩]
@[reducible] def e7r2 : List Ins := [
  ⟨(some 4), none, .load true 5 (.t 1), .r⟩,
  ⟨(some 5), none, .lit false 1 false (.int .i64 0) 5 [(0, (.c (.int .i64 4))), (1, (.c (.int .i64 3))), (2, (.c (.int .i64 4))), (3, (.c (.int .i64 3))), (4, (.c (.int .i64 4)))], .n⟩,
  ⟨(some 6), none, .call (.c (.fn 13 [])) [(.t 4), (.c (.int .i64 1001)), (.t 5)], .r⟩,
  ⟨(some 7), none, .bin .eql (.t 6) (.c (.int .i64 2)), .n⟩,
  ⟨(some 8), none, .mov (.t 7), .n⟩,
  ⟨(some 9), (some (8, true)), .load true 5 (.t 1), .r⟩,
  ⟨(some 10), (some (8, true)), .lit false 1 false (.int .i64 0) 3 [(0, (.c (.int .i64 4))), (1, (.c (.int .i64 3))), (2, (.c (.int .i64 4)))], .n⟩,
  ⟨(some 11), (some (8, true)), .call (.c (.fn 13 [])) [(.t 9), (.c (.int .i64 1001)), (.t 10)], .r⟩,
  ⟨(some 12), (some (8, true)), .bin .eql (.t 11) (.c (.int .i64 1)), .n⟩,
  ⟨(some 13), none, .pick (.t 8) (.t 12) (.c (.bool false)), .n⟩,
  ⟨(some 14), none, .mov (.t 13), .n⟩,
  ⟨(some 15), (some (14, true)), .load true 5 (.t 1), .r⟩,
  ⟨(some 16), (some (14, true)), .lit false 1 false (.int .i64 0) 2 [(0, (.c (.int .i64 4))), (1, (.c (.int .i64 4)))], .n⟩,
  ⟨(some 17), (some (14, true)), .call (.c (.fn 13 [])) [(.t 15), (.c (.int .i64 1001)), (.t 16)], .r⟩,
  ⟨(some 18), (some (14, true)), .bin .eql (.t 17) (.c (.int .i64 0)), .n⟩,
  ⟨(some 19), none, .pick (.t 14) (.t 18) (.c (.bool false)), .n⟩,
  ⟨(some 20), none, .mov (.t 19), .n⟩,
  ⟨(some 21), (some (20, true)), .load true 5 (.t 1), .r⟩,
  ⟨(some 22), (some (20, true)), .lit false 1 false (.int .i64 0) 1 [(0, (.c (.int .i64 4)))], .n⟩,
  ⟨(some 23), (some (20, true)), .call (.c (.fn 13 [])) [(.t 21), (.c (.int .i64 4)), (.t 22)], .r⟩,
  ⟨(some 24), (some (20, true)), .bin .eql (.t 23) (.c (.int .i64 1)), .n⟩,
  ⟨(some 25), none, .pick (.t 20) (.t 24) (.c (.bool false)), .n⟩,
  ⟨(some 26), none, .mov (.t 25), .n⟩,
  ⟨(some 27), (some (26, true)), .load true 5 (.t 1), .r⟩,
  ⟨(some 28), (some (26, true)), .mksl true 1 8 (.int .i64 0) (.c (.int .i64 25)) (.c (.int .i64 25)), .a⟩,
  ⟨(some 29), (some (26, true)), .call (.c (.fn 13 [])) [(.t 27), (.c (.int .i64 1001)), (.t 28)], .r⟩,
  ⟨(some 30), (some (26, true)), .bin .eql (.t 29) (.c (.int .i64 (-1))), .n⟩,
  ⟨(some 31), none, .pick (.t 26) (.t 30) (.c (.bool false)), .n⟩,
  ⟨(some 32), none, .mov (.t 31), .n⟩,
  ⟨(some 33), (some (32, true)), .load true 5 (.t 1), .r⟩,
  ⟨(some 34), (some (32, true)), .lit false 1 false (.int .i64 0) 1 [(0, (.c (.int .i64 5)))], .n⟩,
  ⟨(some 35), (some (32, true)), .call (.c (.fn 13 [])) [(.t 33), (.c (.int .i64 5)), (.t 34)], .r⟩,
  ⟨(some 36), (some (32, true)), .bin .eql (.t 35) (.c (.int .i64 0)), .n⟩,
  ⟨(some 37), none, .pick (.t 32) (.t 36) (.c (.bool false)), .n⟩,
  ⟨(some 0), none, .mov (.t 37), .n⟩]
@[reducible] def e7n3 : EC := .seq (.reg e7r2) .ret
@[reducible] def e7n4 : EC := .seq (.reg e7r1) e7n3
@[reducible] def e7n5 : EC := .seq (.reg e7r0) e7n4
@[reducible] def e7 : EF := ⟨38, 0, [(.inl 0)], e7n5⟩
theorem e7_ok : compFn Try.prog { mu := fun t => [28].contains t } Try.f7 = some e7 := by kernel_rfl
theorem e7_nm : (Try.f7.name == "runtime.NumGoroutine") = false := by kernel_rfl
/- yucca/yuccalaw0.Source -/
@[reducible] def e9r0 : List Ins := [
  ⟨(some 1), none, .box 5 (.t 0), .any⟩,
  ⟨(some 2), none, .alloc 4 (.agg [(.str []), (.sl 4 true []), (.sl 3 true []), (.str [])]), .any⟩]
@[reducible] def e9r1 : List Ins := [
  ⟨(some 14), none, .faddr 0 (.t 1), .any⟩,
  ⟨(some 15), none, .load false 1 (.t 14), .any⟩,
  ⟨(some 16), none, .call (.c (.fn 15 [])) [(.t 15), (.c (.int .i64 4))], .any⟩,
  ⟨(some 17), none, .bin .add (.c (.int .i64 1)) (.t 16), .any⟩,
  ⟨(some 3), none, .mov (.t 17), .any⟩]
@[reducible] def e9r2 : List Ins := [
  ⟨(some 18), none, .faddr 2 (.t 1), .any⟩,
  ⟨(some 19), none, .load false 1 (.t 18), .any⟩,
  ⟨(some 20), none, .call (.c (.fn 24 [])) [(.t 19)], .any⟩,
  ⟨(some 21), none, .build [(.str []), (.sl 4 true []), (.sl 3 true []), (.str [])] [(1, 1, (.t 20))], .any⟩,
  ⟨(some 4), none, .alloc 4 (.agg [(.str []), (.sl 4 true []), (.sl 3 true []), (.str [])]), .any⟩,
  ⟨none, none, .store 4 (.t 4) (.t 21), .any⟩]
@[reducible] def e9r3 : List Ins := [
  ⟨(some 22), none, .mov (.t 3), .any⟩,
  ⟨(some 23), none, .mksl true 1 1 (.bool false) (.t 22) (.t 22), .any⟩,
  ⟨(some 5), none, .mov (.t 23), .any⟩]
@[reducible] def e9r4 : List Ins := [
  ⟨(some 6), none, .mov (.c (.int .i64 0)), .any⟩]
@[reducible] def e9r5 : List Ins := [
  ⟨(some 24), none, .mov (.t 6), .any⟩,
  ⟨(some 25), none, .mov (.t 3), .any⟩,
  ⟨(some 26), none, .bin .lss (.t 24) (.t 25), .any⟩]
@[reducible] def e9n6 : EC := .cond (.t 26) .skip (.exit 0)
@[reducible] def e9n7 : EC := .seq (.reg e9r5) e9n6
@[reducible] def e9r8 : List Ins := [
  ⟨(some 29), none, .faddr 2 (.t 4), .n⟩,
  ⟨(some 30), none, .load false 1 (.t 29), .r⟩,
  ⟨(some 31), none, .mov (.t 6), .n⟩,
  ⟨(some 32), none, .call (.c (.fn 25 [])) [(.t 31)], .r⟩,
  ⟨(some 33), none, .build [(.str []), (.sl 6 true []), (.int .i64 0)] [(0, 1, (.t 32))], .n⟩,
  ⟨(some 34), none, .lit false 3 true (.agg [(.str []), (.sl 6 true []), (.int .i64 0)]) 1 [(0, (.t 33))], .n⟩,
  ⟨(some 35), none, .append true 3 48 (.t 30) (.t 34), .w⟩,
  ⟨(some 36), none, .faddr 2 (.t 4), .n⟩,
  ⟨none, none, .store 1 (.t 36) (.t 35), .w⟩]
@[reducible] def e9n9 : EC := .block 1 (.reg e9r8)
@[reducible] def e9r10 : List Ins := [
  ⟨(some 27), none, .mov (.t 6), .any⟩,
  ⟨(some 28), none, .bin .add (.t 27) (.c (.int .i64 1)), .any⟩,
  ⟨(some 6), none, .mov (.t 28), .any⟩]
@[reducible] def e9n11 : EC := .seq e9n9 (.reg e9r10)
@[reducible] def e9n12 : EC := .seq e9n7 e9n11
@[reducible] def e9n13 : EC := .loop e9n12
@[reducible] def e9n14 : EC := .block 0 e9n13
@[reducible] def e9n15 : EC := .seq (.reg e9r4) e9n14
@[reducible] def e9r16 : List Ins := [
  ⟨(some 7), none, .mov (.c (.int .i64 0)), .any⟩]
@[reducible] def e9r17 : List Ins := [
  ⟨(some 37), none, .mov (.t 7), .any⟩,
  ⟨(some 38), none, .faddr 1 (.t 1), .any⟩,
  ⟨(some 39), none, .load false 1 (.t 38), .any⟩,
  ⟨(some 40), none, .len (.t 39), .any⟩,
  ⟨(some 41), none, .bin .lss (.t 37) (.t 40), .any⟩,
  ⟨(some 42), none, .mov (.t 41), .any⟩,
  ⟨(some 43), (some (42, true)), .mov (.t 7), .any⟩,
  ⟨(some 44), (some (42, true)), .bin .lss (.t 43) (.c (.int .i64 9)), .any⟩,
  ⟨(some 45), none, .pick (.t 42) (.t 44) (.c (.bool false)), .any⟩]
@[reducible] def e9n18 : EC := .cond (.t 45) .skip (.exit 2)
@[reducible] def e9n19 : EC := .seq (.reg e9r17) e9n18
@[reducible] def e9r20 : List Ins := [
  ⟨(some 48), none, .faddr 1 (.t 1), .any⟩,
  ⟨(some 49), none, .load false 1 (.t 48), .any⟩,
  ⟨(some 50), none, .mov (.t 7), .any⟩,
  ⟨(some 51), none, .iaddr 1 (.t 49) (.t 50), .any⟩,
  ⟨(some 52), none, .load false 1 (.t 51), .any⟩,
  ⟨(some 53), none, .len (.t 52), .any⟩,
  ⟨(some 54), none, .bin .eql (.t 53) (.c (.int .i64 0)), .any⟩]
@[reducible] def e9n21 : EC := .cond (.t 54) (.exit 3) .skip
@[reducible] def e9n22 : EC := .seq (.reg e9r20) e9n21
@[reducible] def e9r23 : List Ins := [
  ⟨(some 55), none, .faddr 1 (.t 1), .any⟩,
  ⟨(some 56), none, .load false 1 (.t 55), .any⟩,
  ⟨(some 57), none, .mov (.t 7), .any⟩,
  ⟨(some 58), none, .iaddr 1 (.t 56) (.t 57), .any⟩,
  ⟨(some 59), none, .load false 1 (.t 58), .any⟩,
  ⟨(some 60), none, .iaddr 1 (.t 59) (.c (.int .i64 0)), .any⟩,
  ⟨(some 61), none, .load false 1 (.t 60), .any⟩,
  ⟨(some 62), none, .mov (.t 3), .any⟩,
  ⟨(some 63), none, .call (.c (.fn 15 [])) [(.t 61), (.t 62)], .any⟩,
  ⟨(some 8), none, .mov (.t 63), .any⟩]
@[reducible] def e9r24 : List Ins := [
  ⟨(some 9), none, .alloc 6 (.agg [(.sl 6 true []), (.str []), (.bool false), (.int .i64 0), (.int .i64 0), (.int .i64 0)]), .any⟩]
@[reducible] def e9r25 : List Ins := [
  ⟨(some 10), none, .mov (.c (.bool true)), .any⟩]
@[reducible] def e9r26 : List Ins := [
  ⟨(some 11), none, .mov (.c (.int .i64 1)), .any⟩]
@[reducible] def e9r27 : List Ins := [
  ⟨(some 64), none, .mov (.t 11), .any⟩,
  ⟨(some 65), none, .faddr 1 (.t 1), .any⟩,
  ⟨(some 66), none, .load false 1 (.t 65), .any⟩,
  ⟨(some 67), none, .mov (.t 7), .any⟩,
  ⟨(some 68), none, .iaddr 1 (.t 66) (.t 67), .any⟩,
  ⟨(some 69), none, .load false 1 (.t 68), .any⟩,
  ⟨(some 70), none, .len (.t 69), .any⟩,
  ⟨(some 71), none, .bin .lss (.t 64) (.t 70), .any⟩,
  ⟨(some 72), none, .mov (.t 71), .any⟩,
  ⟨(some 73), (some (72, true)), .mov (.t 11), .any⟩,
  ⟨(some 74), (some (72, true)), .bin .lss (.t 73) (.c (.int .i64 5)), .any⟩,
  ⟨(some 75), none, .pick (.t 72) (.t 74) (.c (.bool false)), .any⟩]
@[reducible] def e9n28 : EC := .cond (.t 75) .skip (.exit 4)
@[reducible] def e9n29 : EC := .seq (.reg e9r27) e9n28
@[reducible] def e9r30 : List Ins := [
  ⟨(some 78), none, .faddr 1 (.t 1), .any⟩,
  ⟨(some 79), none, .load false 1 (.t 78), .any⟩,
  ⟨(some 80), none, .mov (.t 7), .any⟩,
  ⟨(some 81), none, .iaddr 1 (.t 79) (.t 80), .any⟩,
  ⟨(some 82), none, .load false 1 (.t 81), .any⟩,
  ⟨(some 83), none, .mov (.t 11), .any⟩,
  ⟨(some 84), none, .iaddr 1 (.t 82) (.t 83), .any⟩,
  ⟨(some 85), none, .load false 1 (.t 84), .any⟩,
  ⟨(some 86), none, .mov (.t 3), .any⟩,
  ⟨(some 87), none, .call (.c (.fn 26 [])) [(.t 85), (.t 86)], .any⟩,
  ⟨(some 12), none, .alloc 4 (.agg [(.str []), (.bool false), (.int .i64 0), (.int .i64 0)]), .any⟩,
  ⟨none, none, .store 4 (.t 12) (.t 87), .any⟩]
@[reducible] def e9r31 : List Ins := [
  ⟨(some 88), none, .mov (.t 10), .any⟩,
  ⟨(some 89), none, .mov (.t 88), .any⟩,
  ⟨(some 90), (some (89, true)), .faddr 1 (.t 12), .any⟩,
  ⟨(some 91), (some (89, true)), .load false 1 (.t 90), .any⟩,
  ⟨(some 92), (some (89, true)), .mov (.t 91), .any⟩,
  ⟨(some 93), (some (92, false)), .faddr 0 (.t 12), .any⟩,
  ⟨(some 94), (some (92, false)), .load false 1 (.t 93), .any⟩,
  ⟨(some 95), (some (92, false)), .bin .eql (.t 94) (.c (.str [101, 114, 114, 111, 114])), .any⟩,
  ⟨(some 96), (some (89, true)), .pick (.t 92) (.c (.bool true)) (.t 95), .any⟩,
  ⟨(some 97), none, .pick (.t 89) (.t 96) (.c (.bool false)), .any⟩,
  ⟨(some 10), none, .mov (.t 97), .any⟩]
@[reducible] def e9r32 : List Ins := [
  ⟨(some 98), none, .faddr 0 (.t 9), .any⟩,
  ⟨(some 99), none, .load false 1 (.t 98), .any⟩,
  ⟨(some 100), none, .load true 4 (.t 12), .any⟩,
  ⟨(some 101), none, .build [(.str []), (.bool false), (.int .i64 0), (.int .i64 0), (.str []), (.int .i64 0)] [(0, 4, (.t 100))], .any⟩,
  ⟨(some 102), none, .lit false 6 true (.agg [(.str []), (.bool false), (.int .i64 0), (.int .i64 0), (.str []), (.int .i64 0)]) 1 [(0, (.t 101))], .any⟩,
  ⟨(some 103), none, .append false 6 64 (.t 99) (.t 102), .any⟩,
  ⟨(some 104), none, .faddr 0 (.t 9), .any⟩,
  ⟨none, none, .store 1 (.t 104) (.t 103), .any⟩]
@[reducible] def e9r33 : List Ins := [
  ⟨(some 105), none, .mov (.t 7), .any⟩,
  ⟨(some 106), none, .faddr 3 (.t 1), .any⟩,
  ⟨(some 107), none, .load false 1 (.t 106), .any⟩,
  ⟨(some 108), none, .len (.t 107), .any⟩,
  ⟨(some 109), none, .bin .lss (.t 105) (.t 108), .any⟩,
  ⟨(some 110), none, .mov (.t 109), .any⟩,
  ⟨(some 111), (some (110, true)), .mov (.t 11), .any⟩,
  ⟨(some 112), (some (110, true)), .bin .eql (.t 111) (.c (.int .i64 1)), .any⟩,
  ⟨(some 113), none, .pick (.t 110) (.t 112) (.c (.bool false)), .any⟩,
  ⟨(some 114), none, .mov (.t 113), .any⟩,
  ⟨(some 115), (some (114, true)), .faddr 3 (.t 1), .any⟩,
  ⟨(some 116), (some (114, true)), .load false 1 (.t 115), .any⟩,
  ⟨(some 117), (some (114, true)), .mov (.t 7), .any⟩,
  ⟨(some 118), (some (114, true)), .iaddr 1 (.t 116) (.t 117), .any⟩,
  ⟨(some 119), (some (114, true)), .load false 1 (.t 118), .any⟩,
  ⟨(some 120), (some (114, true)), .bin .rem (.t 119) (.c (.int .i64 3)), .any⟩,
  ⟨(some 121), (some (114, true)), .bin .eql (.t 120) (.c (.int .i64 1)), .any⟩,
  ⟨(some 122), none, .pick (.t 114) (.t 121) (.c (.bool false)), .any⟩]
@[reducible] def e9r34 : List Ins := [
  ⟨(some 123), none, .faddr 0 (.t 9), .any⟩,
  ⟨(some 124), none, .load false 1 (.t 123), .any⟩,
  ⟨(some 125), none, .build [(.str []), (.bool false), (.int .i64 0), (.int .i64 0), (.str []), (.int .i64 0)] [(4, 1, (.c (.str [123, 36, 36, 32, 61, 32, 36, 49, 125])))], .any⟩,
  ⟨(some 126), none, .lit false 6 true (.agg [(.str []), (.bool false), (.int .i64 0), (.int .i64 0), (.str []), (.int .i64 0)]) 1 [(0, (.t 125))], .any⟩,
  ⟨(some 127), none, .append false 6 64 (.t 124) (.t 126), .any⟩,
  ⟨(some 128), none, .faddr 0 (.t 9), .any⟩,
  ⟨none, none, .store 1 (.t 128) (.t 127), .any⟩]
@[reducible] def e9n35 : EC := .cond (.t 122) (.reg e9r34) .skip
@[reducible] def e9n36 : EC := .seq (.reg e9r33) e9n35
@[reducible] def e9n37 : EC := .seq (.reg e9r32) e9n36
@[reducible] def e9n38 : EC := .seq (.reg e9r31) e9n37
@[reducible] def e9n39 : EC := .seq (.reg e9r30) e9n38
@[reducible] def e9n40 : EC := .block 5 e9n39
@[reducible] def e9r41 : List Ins := [
  ⟨(some 76), none, .mov (.t 11), .any⟩,
  ⟨(some 77), none, .bin .add (.t 76) (.c (.int .i64 1)), .any⟩,
  ⟨(some 11), none, .mov (.t 77), .any⟩]
@[reducible] def e9n42 : EC := .seq e9n40 (.reg e9r41)
@[reducible] def e9n43 : EC := .seq e9n29 e9n42
@[reducible] def e9n44 : EC := .loop e9n43
@[reducible] def e9n45 : EC := .block 4 e9n44
@[reducible] def e9n46 : EC := .seq (.reg e9r26) e9n45
@[reducible] def e9r47 : List Ins := [
  ⟨(some 129), none, .mov (.t 7), .any⟩,
  ⟨(some 130), none, .faddr 3 (.t 1), .any⟩,
  ⟨(some 131), none, .load false 1 (.t 130), .any⟩,
  ⟨(some 132), none, .len (.t 131), .any⟩,
  ⟨(some 133), none, .bin .lss (.t 129) (.t 132), .any⟩,
  ⟨(some 134), none, .mov (.t 133), .any⟩,
  ⟨(some 135), (some (134, true)), .faddr 3 (.t 1), .any⟩,
  ⟨(some 136), (some (134, true)), .load false 1 (.t 135), .any⟩,
  ⟨(some 137), (some (134, true)), .mov (.t 7), .any⟩,
  ⟨(some 138), (some (134, true)), .iaddr 1 (.t 136) (.t 137), .any⟩,
  ⟨(some 139), (some (134, true)), .load false 1 (.t 138), .any⟩,
  ⟨(some 140), (some (134, true)), .bin .rem (.t 139) (.c (.int .i64 2)), .any⟩,
  ⟨(some 141), (some (134, true)), .bin .neq (.t 140) (.c (.int .i64 0)), .any⟩,
  ⟨(some 142), none, .pick (.t 134) (.t 141) (.c (.bool false)), .any⟩]
@[reducible] def e9r48 : List Ins := [
  ⟨(some 143), none, .faddr 0 (.t 9), .any⟩,
  ⟨(some 144), none, .load false 1 (.t 143), .any⟩,
  ⟨(some 145), none, .build [(.str []), (.bool false), (.int .i64 0), (.int .i64 0), (.str []), (.int .i64 0)] [(4, 1, (.c (.str [123, 102, 40, 36, 36, 41, 125])))], .any⟩,
  ⟨(some 146), none, .lit false 6 true (.agg [(.str []), (.bool false), (.int .i64 0), (.int .i64 0), (.str []), (.int .i64 0)]) 1 [(0, (.t 145))], .any⟩,
  ⟨(some 147), none, .append false 6 64 (.t 144) (.t 146), .any⟩,
  ⟨(some 148), none, .faddr 0 (.t 9), .any⟩,
  ⟨none, none, .store 1 (.t 148) (.t 147), .any⟩]
@[reducible] def e9n49 : EC := .cond (.t 142) (.reg e9r48) .skip
@[reducible] def e9n50 : EC := .seq (.reg e9r47) e9n49
@[reducible] def e9r51 : List Ins := [
  ⟨(some 149), none, .mov (.t 5), .any⟩,
  ⟨(some 150), none, .mov (.t 8), .any⟩,
  ⟨(some 151), none, .mov (.t 5), .any⟩,
  ⟨(some 152), none, .mov (.t 8), .any⟩,
  ⟨(some 153), none, .iaddr 1 (.t 151) (.t 152), .any⟩,
  ⟨(some 154), none, .load false 1 (.t 153), .any⟩,
  ⟨(some 155), none, .mov (.t 154), .any⟩,
  ⟨(some 156), (some (155, false)), .mov (.t 10), .any⟩,
  ⟨(some 157), none, .pick (.t 155) (.c (.bool true)) (.t 156), .any⟩,
  ⟨(some 158), none, .iaddr 1 (.t 149) (.t 150), .any⟩,
  ⟨none, none, .store 1 (.t 158) (.t 157), .any⟩]
@[reducible] def e9r52 : List Ins := [
  ⟨(some 159), none, .faddr 2 (.t 4), .n⟩,
  ⟨(some 160), none, .load false 1 (.t 159), .r⟩,
  ⟨(some 161), none, .mov (.t 8), .n⟩,
  ⟨(some 162), none, .faddr 2 (.t 4), .n⟩,
  ⟨(some 163), none, .load false 1 (.t 162), .r⟩,
  ⟨(some 164), none, .mov (.t 8), .n⟩,
  ⟨(some 165), none, .iaddr 3 (.t 163) (.t 164), .n⟩,
  ⟨(some 166), none, .faddr 1 (.t 165), .n⟩,
  ⟨(some 167), none, .load false 1 (.t 166), .r⟩,
  ⟨(some 168), none, .load true 6 (.t 9), .r⟩,
  ⟨(some 169), none, .lit false 6 true (.agg [(.sl 6 true []), (.str []), (.bool false), (.int .i64 0), (.int .i64 0), (.int .i64 0)]) 1 [(0, (.t 168))], .n⟩,
  ⟨(some 170), none, .append false 6 72 (.t 167) (.t 169), .t⟩,
  ⟨(some 171), none, .iaddr 3 (.t 160) (.t 161), .n⟩,
  ⟨(some 172), none, .faddr 1 (.t 171), .n⟩,
  ⟨none, none, .store 1 (.t 172) (.t 170), .w⟩]
@[reducible] def e9n53 : EC := .seq (.reg e9r51) (.reg e9r52)
@[reducible] def e9n54 : EC := .seq e9n50 e9n53
@[reducible] def e9n55 : EC := .seq e9n46 e9n54
@[reducible] def e9n56 : EC := .seq (.reg e9r25) e9n55
@[reducible] def e9n57 : EC := .seq (.reg e9r24) e9n56
@[reducible] def e9n58 : EC := .seq (.reg e9r23) e9n57
@[reducible] def e9n59 : EC := .seq e9n22 e9n58
@[reducible] def e9n60 : EC := .block 3 e9n59
@[reducible] def e9r61 : List Ins := [
  ⟨(some 46), none, .mov (.t 7), .any⟩,
  ⟨(some 47), none, .bin .add (.t 46) (.c (.int .i64 1)), .any⟩,
  ⟨(some 7), none, .mov (.t 47), .any⟩]
@[reducible] def e9n62 : EC := .seq e9n60 (.reg e9r61)
@[reducible] def e9n63 : EC := .seq e9n19 e9n62
@[reducible] def e9n64 : EC := .loop e9n63
@[reducible] def e9n65 : EC := .block 2 e9n64
@[reducible] def e9n66 : EC := .seq (.reg e9r16) e9n65
@[reducible] def e9r67 : List Ins := [
  ⟨(some 13), none, .mov (.c (.int .i64 0)), .any⟩]
@[reducible] def e9r68 : List Ins := [
  ⟨(some 173), none, .mov (.t 13), .any⟩,
  ⟨(some 174), none, .mov (.t 3), .any⟩,
  ⟨(some 175), none, .bin .lss (.t 173) (.t 174), .any⟩]
@[reducible] def e9n69 : EC := .cond (.t 175) .skip (.exit 6)
@[reducible] def e9n70 : EC := .seq (.reg e9r68) e9n69
@[reducible] def e9r71 : List Ins := [
  ⟨(some 178), none, .faddr 2 (.t 4), .any⟩,
  ⟨(some 179), none, .load false 1 (.t 178), .any⟩,
  ⟨(some 180), none, .mov (.t 13), .any⟩,
  ⟨(some 181), none, .iaddr 3 (.t 179) (.t 180), .any⟩,
  ⟨(some 182), none, .faddr 1 (.t 181), .any⟩,
  ⟨(some 183), none, .load false 1 (.t 182), .any⟩,
  ⟨(some 184), none, .len (.t 183), .any⟩,
  ⟨(some 185), none, .bin .eql (.t 184) (.c (.int .i64 0)), .any⟩,
  ⟨(some 186), none, .mov (.t 185), .any⟩,
  ⟨(some 187), (some (186, false)), .mov (.t 5), .any⟩,
  ⟨(some 188), (some (186, false)), .mov (.t 13), .any⟩,
  ⟨(some 189), (some (186, false)), .iaddr 1 (.t 187) (.t 188), .any⟩,
  ⟨(some 190), (some (186, false)), .load false 1 (.t 189), .any⟩,
  ⟨(some 191), (some (186, false)), .un .not (.t 190), .any⟩,
  ⟨(some 192), (some (186, false)), .mov (.t 191), .any⟩,
  ⟨(some 193), (some (192, true)), .faddr 4 (.t 1), .any⟩,
  ⟨(some 194), (some (192, true)), .load false 1 (.t 193), .any⟩,
  ⟨(some 195), (some (192, true)), .un .not (.t 194), .any⟩,
  ⟨(some 196), (some (186, false)), .pick (.t 192) (.t 195) (.c (.bool false)), .any⟩,
  ⟨(some 197), none, .pick (.t 186) (.c (.bool true)) (.t 196), .any⟩]
@[reducible] def e9r72 : List Ins := [
  ⟨(some 198), none, .faddr 2 (.t 4), .n⟩,
  ⟨(some 199), none, .load false 1 (.t 198), .r⟩,
  ⟨(some 200), none, .mov (.t 13), .n⟩,
  ⟨(some 201), none, .faddr 2 (.t 4), .n⟩,
  ⟨(some 202), none, .load false 1 (.t 201), .r⟩,
  ⟨(some 203), none, .mov (.t 13), .n⟩,
  ⟨(some 204), none, .iaddr 3 (.t 202) (.t 203), .n⟩,
  ⟨(some 205), none, .faddr 1 (.t 204), .n⟩,
  ⟨(some 206), none, .load false 1 (.t 205), .r⟩,
  ⟨(some 207), none, .mov (.t 13), .n⟩,
  ⟨(some 208), none, .call (.c (.fn 27 [])) [(.t 207)], .r⟩,
  ⟨(some 209), none, .build [(.str []), (.bool false), (.int .i64 0), (.int .i64 0), (.str []), (.int .i64 0)] [(0, 4, (.t 208))], .n⟩,
  ⟨(some 210), none, .lit false 6 true (.agg [(.str []), (.bool false), (.int .i64 0), (.int .i64 0), (.str []), (.int .i64 0)]) 1 [(0, (.t 209))], .n⟩,
  ⟨(some 211), none, .build [(.sl 6 true []), (.str []), (.bool false), (.int .i64 0), (.int .i64 0), (.int .i64 0)] [(0, 1, (.t 210))], .n⟩,
  ⟨(some 212), none, .lit false 6 true (.agg [(.sl 6 true []), (.str []), (.bool false), (.int .i64 0), (.int .i64 0), (.int .i64 0)]) 1 [(0, (.t 211))], .n⟩,
  ⟨(some 213), none, .append false 6 72 (.t 206) (.t 212), .t⟩,
  ⟨(some 214), none, .iaddr 3 (.t 199) (.t 200), .n⟩,
  ⟨(some 215), none, .faddr 1 (.t 214), .n⟩,
  ⟨none, none, .store 1 (.t 215) (.t 213), .w⟩]
@[reducible] def e9n73 : EC := .cond (.t 197) (.reg e9r72) .skip
@[reducible] def e9n74 : EC := .seq (.reg e9r71) e9n73
@[reducible] def e9n75 : EC := .block 7 e9n74
@[reducible] def e9r76 : List Ins := [
  ⟨(some 176), none, .mov (.t 13), .any⟩,
  ⟨(some 177), none, .bin .add (.t 176) (.c (.int .i64 1)), .any⟩,
  ⟨(some 13), none, .mov (.t 177), .any⟩]
@[reducible] def e9n77 : EC := .seq e9n75 (.reg e9r76)
@[reducible] def e9n78 : EC := .seq e9n70 e9n77
@[reducible] def e9n79 : EC := .loop e9n78
@[reducible] def e9n80 : EC := .block 6 e9n79
@[reducible] def e9n81 : EC := .seq (.reg e9r67) e9n80
@[reducible] def e9r82 : List Ins := [
  ⟨(some 216), none, .load true 4 (.t 4), .any⟩,
  ⟨none, none, .store 4 (.t 2) (.t 216), .any⟩]
@[reducible] def e9n83 : EC := .seq (.reg e9r82) .ret
@[reducible] def e9n84 : EC := .seq e9n81 e9n83
@[reducible] def e9n85 : EC := .seq e9n66 e9n84
@[reducible] def e9n86 : EC := .seq e9n15 e9n85
@[reducible] def e9n87 : EC := .seq (.reg e9r3) e9n86
@[reducible] def e9n88 : EC := .seq (.reg e9r2) e9n87
@[reducible] def e9n89 : EC := .seq (.reg e9r1) e9n88
@[reducible] def e9n90 : EC := .seq (.reg e9r0) e9n89
@[reducible] def e9 : EF := ⟨217, 1, [(.inr (2, true, 4))], e9n90⟩
theorem e9_ok : compFn Try.prog { mu := fun t => [23, 35].contains t, cl := fun r i => ([(7, 6, Cls.w)].find? fun x => x.1 == r && x.2.1 == i).map (·.2.2) } Try.f9 = some e9 := by kernel_rfl
theorem e9_nm : (Try.f9.name == "runtime.NumGoroutine") = false := by kernel_rfl
/- yucca/yuccaref16.Grammar -/
@[reducible] def e10r0 : List Ins := [
  ⟨(some 1), none, .box 4 (.t 0), .any⟩,
  ⟨(some 2), none, .alloc 5 (.agg [(.sl 6 true []), (.sl 2 true []), (.sl 6 true []), (.str []), (.str [])]), .any⟩,
  ⟨(some 3), none, .mov (.c (.bool false)), .any⟩]
@[reducible] def e10r1 : List Ins := [
  ⟨(some 9), none, .load true 4 (.t 1), .any⟩,
  ⟨(some 10), none, .call (.c (.fn 28 [])) [(.t 9)], .any⟩,
  ⟨(some 8), none, .mov (.t 10), .any⟩,
  ⟨(some 11), none, .ext (.t 8) 0, .any⟩,
  ⟨(some 12), none, .ext (.t 8) 1, .any⟩,
  ⟨(some 13), none, .ext (.t 8) 2, .any⟩,
  ⟨(some 14), none, .ext (.t 8) 3, .any⟩,
  ⟨(some 4), none, .alloc 5 (.agg [(.sl 6 true []), (.sl 2 true []), (.sl 6 true []), (.str []), (.str [])]), .any⟩,
  ⟨none, none, .store 5 (.t 4) (.t 11), .any⟩,
  ⟨(some 5), none, .mov (.t 12), .any⟩,
  ⟨(some 6), none, .mov (.t 13), .any⟩,
  ⟨(some 7), none, .mov (.t 14), .any⟩]
@[reducible] def e10r2 : List Ins := [
  ⟨(some 15), none, .load true 5 (.t 4), .any⟩,
  ⟨(some 16), none, .mov (.t 5), .any⟩,
  ⟨(some 17), none, .bin .eql (.t 16) (.c (.int .i64 0)), .any⟩,
  ⟨none, none, .store 5 (.t 2) (.t 15), .any⟩,
  ⟨(some 3), none, .mov (.t 17), .any⟩]
@[reducible] def e10n3 : EC := .seq (.reg e10r2) .ret
@[reducible] def e10n4 : EC := .seq (.reg e10r1) e10n3
@[reducible] def e10n5 : EC := .seq (.reg e10r0) e10n4
@[reducible] def e10 : EF := ⟨18, 1, [(.inr (2, true, 5)), (.inl 3)], e10n5⟩
theorem e10_ok : compFn Try.prog {} Try.f10 = some e10 := by kernel_rfl
theorem e10_nm : (Try.f10.name == "runtime.NumGoroutine") = false := by kernel_rfl
/- yucca/many.Count -/
@[reducible] def e13r0 : List Ins := [
  ⟨(some 3), none, .box 5 (.t 0), .any⟩,
  ⟨(some 6), none, .mov (.c (.int .i64 0)), .any⟩]
@[reducible] def e13r1 : List Ins := [
  ⟨(some 11), none, .mov (.t 2), .any⟩,
  ⟨(some 12), none, .len (.t 11), .any⟩,
  ⟨(some 13), none, .bin .gtr (.t 12) (.c (.int .i64 24)), .any⟩,
  ⟨(some 10), none, .mov (.t 13), .any⟩]
@[reducible] def e13r2 : List Ins := [
  ⟨(some 6), none, .mov (.c (.int .i64 (-1))), .any⟩]
@[reducible] def e13n3 : EC := .seq (.reg e13r2) .ret
@[reducible] def e13r4 : List Ins := [
  ⟨(some 15), none, .mov (.t 1), .any⟩,
  ⟨(some 16), none, .bin .geq (.t 15) (.c (.int .i64 0)), .any⟩,
  ⟨(some 17), none, .mov (.t 16), .any⟩,
  ⟨(some 18), (some (17, true)), .mov (.t 1), .any⟩,
  ⟨(some 19), (some (17, true)), .faddr 0 (.t 3), .any⟩,
  ⟨(some 20), (some (17, true)), .load false 1 (.t 19), .any⟩,
  ⟨(some 21), (some (17, true)), .len (.t 20), .any⟩,
  ⟨(some 22), (some (17, true)), .bin .lss (.t 18) (.t 21), .any⟩,
  ⟨(some 23), none, .pick (.t 17) (.t 22) (.c (.bool false)), .any⟩,
  ⟨(some 14), none, .mov (.t 23), .any⟩]
@[reducible] def e13r5 : List Ins := [
  ⟨(some 24), none, .mov (.t 2), .any⟩,
  ⟨(some 25), none, .len (.t 24), .any⟩,
  ⟨(some 26), none, .bin .eql (.t 25) (.c (.int .i64 1)), .any⟩,
  ⟨(some 27), none, .mov (.t 26), .any⟩,
  ⟨(some 28), (some (27, true)), .mov (.t 2), .any⟩,
  ⟨(some 29), (some (27, true)), .iaddr 1 (.t 28) (.c (.int .i64 0)), .any⟩,
  ⟨(some 30), (some (27, true)), .load false 1 (.t 29), .any⟩,
  ⟨(some 31), (some (27, true)), .mov (.t 1), .any⟩,
  ⟨(some 32), (some (27, true)), .bin .eql (.t 30) (.t 31), .any⟩,
  ⟨(some 33), none, .pick (.t 27) (.t 32) (.c (.bool false)), .any⟩]
@[reducible] def e13r6 : List Ins := [
  ⟨(some 6), none, .mov (.c (.int .i64 1)), .any⟩]
@[reducible] def e13n7 : EC := .seq (.reg e13r6) .ret
@[reducible] def e13n8 : EC := .cond (.t 33) e13n7 .skip
@[reducible] def e13n9 : EC := .seq (.reg e13r5) e13n8
@[reducible] def e13r10 : List Ins := [
  ⟨(some 6), none, .mov (.c (.int .i64 0)), .any⟩]
@[reducible] def e13n11 : EC := .seq (.reg e13r10) .ret
@[reducible] def e13n12 : EC := .seq e13n9 e13n11
@[reducible] def e13r13 : List Ins := [
  ⟨(some 35), none, .mov (.t 1), .any⟩,
  ⟨(some 36), none, .bin .lss (.t 35) (.c (.int .i64 1000)), .any⟩,
  ⟨(some 37), none, .mov (.t 36), .any⟩,
  ⟨(some 38), (some (37, false)), .mov (.t 1), .any⟩,
  ⟨(some 39), (some (37, false)), .bin .sub (.t 38) (.c (.int .i64 1000)), .any⟩,
  ⟨(some 40), (some (37, false)), .faddr 1 (.t 3), .any⟩,
  ⟨(some 41), (some (37, false)), .load false 1 (.t 40), .any⟩,
  ⟨(some 42), (some (37, false)), .len (.t 41), .any⟩,
  ⟨(some 43), (some (37, false)), .bin .geq (.t 39) (.t 42), .any⟩,
  ⟨(some 44), none, .pick (.t 37) (.c (.bool true)) (.t 43), .any⟩,
  ⟨(some 34), none, .mov (.t 44), .any⟩]
@[reducible] def e13r14 : List Ins := [
  ⟨(some 6), none, .mov (.c (.int .i64 0)), .any⟩]
@[reducible] def e13n15 : EC := .seq (.reg e13r14) .ret
@[reducible] def e13n16 : EC := .cond (.t 34) e13n15 .skip
@[reducible] def e13n17 : EC := .seq (.reg e13r13) e13n16
@[reducible] def e13n18 : EC := .cond (.t 14) e13n12 e13n17
@[reducible] def e13n19 : EC := .seq (.reg e13r4) e13n18
@[reducible] def e13n20 : EC := .cond (.t 10) e13n3 e13n19
@[reducible] def e13n21 : EC := .seq (.reg e13r1) e13n20
@[reducible] def e13n22 : EC := .block 0 e13n21
@[reducible] def e13r23 : List Ins := [
  ⟨(some 45), none, .load true 5 (.t 3), .r⟩,
  ⟨(some 46), none, .mov (.t 2), .n⟩,
  ⟨(some 47), none, .faddr 1 (.t 3), .n⟩,
  ⟨(some 48), none, .load false 1 (.t 47), .r⟩,
  ⟨(some 49), none, .len (.t 48), .n⟩,
  ⟨(some 50), none, .mksl true 625 5000 (.agg [(.int .i64 0), (.int .i64 0), (.int .i64 0), (.int .i64 0), (.int .i64 0), (.int .i64 0), (.int .i64 0), (.int .i64 0), (.int .i64 0), (.int .i64 0), (.int .i64 0), (.int .i64 0), (.int .i64 0), (.int .i64 0), (.int .i64 0), (.int .i64 0), (.int .i64 0), (.int .i64 0), (.int .i64 0), (.int .i64 0), (.int .i64 0), (.int .i64 0), (.int .i64 0), (.int .i64 0), (.int .i64 0), (.int .i64 0), (.int .i64 0), (.int .i64 0), (.int .i64 0), (.int .i64 0), (.int .i64 0), (.int .i64 0), (.int .i64 0), (.int .i64 0), (.int .i64 0), (.int .i64 0), (.int .i64 0), (.int .i64 0), (.int .i64 0), (.int .i64 0), (.int .i64 0), (.int .i64 0), (.int .i64 0), (.int .i64 0), (.int .i64 0), (.int .i64 0), (.int .i64 0), (.int .i64 0), (.int .i64 0), (.int .i64 0), (.int .i64 0), (.int .i64 0), (.int .i64 0), (.int .i64 0), (.int .i64 0), (.int .i64 0), (.int .i64 0), (.int .i64 0), (.int .i64 0), (.int .i64 0), (.int .i64 0), (.int .i64 0), (.int .i64 0), (.int .i64 0), (.int .i64 0), (.int .i64 0), (.int .i64 0), (.int .i64 0), (.int .i64 0), (.int .i64 0), (.int .i64 0), (.int .i64 0), (.int .i64 0), (.int .i64 0), (.int .i64 0), (.int .i64 0), (.int .i64 0), (.int .i64 0), (.int .i64 0), (.int .i64 0), (.int .i64 0), (.int .i64 0), (.int .i64 0), (.int .i64 0), (.int .i64 0), (.int .i64 0), (.int .i64 0), (.int .i64 0), (.int .i64 0), (.int .i64 0), (.int .i64 0), (.int .i64 0), (.int .i64 0), (.int .i64 0), (.int .i64 0), (.int .i64 0), (.int .i64 0), (.int .i64 0), (.int .i64 0), (.int .i64 0), (.int .i64 0), (.int .i64 0), (.int .i64 0), (.int .i64 0), (.int .i64 0), (.int .i64 0), (.int .i64 0), (.int .i64 0), (.int .i64 0), (.int .i64 0), (.int .i64 0), (.int .i64 0), (.int .i64 0), (.int .i64 0), (.int .i64 0), (.int .i64 0), (.int .i64 0), (.int .i64 0), (.int .i64 0), (.int .i64 0), (.int .i64 0), (.int .i64 0), (.int .i64 0), (.int .i64 0), (.int .i64 0), (.int .i64 0), (.int .i64 0), (.int .i64 0), (.int .i64 0), (.int .i64 0), (.int .i64 0), (.int .i64 0), (.int .i64 0), (.int .i64 0), (.int .i64 0), (.int .i64 0), (.int .i64 0), (.int .i64 0), (.int .i64 0), (.int .i64 0), (.int .i64 0), (.int .i64 0), (.int .i64 0), (.int .i64 0), (.int .i64 0), (.int .i64 0), (.int .i64 0), (.int .i64 0), (.int .i64 0), (.int .i64 0), (.int .i64 0), (.int .i64 0), (.int .i64 0), (.int .i64 0), (.int .i64 0), (.int .i64 0), (.int .i64 0), (.int .i64 0), (.int .i64 0), (.int .i64 0), (.int .i64 0), (.int .i64 0), (.int .i64 0), (.int .i64 0), (.int .i64 0), (.int .i64 0), (.int .i64 0), (.int .i64 0), (.int .i64 0), (.int .i64 0), (.int .i64 0), (.int .i64 0), (.int .i64 0), (.int .i64 0), (.int .i64 0), (.int .i64 0), (.int .i64 0), (.int .i64 0), (.int .i64 0), (.int .i64 0), (.int .i64 0), (.int .i64 0), (.int .i64 0), (.int .i64 0), (.int .i64 0), (.int .i64 0), (.int .i64 0), (.int .i64 0), (.int .i64 0), (.int .i64 0), (.int .i64 0), (.int .i64 0), (.int .i64 0), (.int .i64 0), (.int .i64 0), (.int .i64 0), (.int .i64 0), (.int .i64 0), (.int .i64 0), (.int .i64 0), (.int .i64 0), (.int .i64 0), (.int .i64 0), (.int .i64 0), (.int .i64 0), (.int .i64 0), (.int .i64 0), (.int .i64 0), (.int .i64 0), (.int .i64 0), (.int .i64 0), (.int .i64 0), (.int .i64 0), (.int .i64 0), (.int .i64 0), (.int .i64 0), (.int .i64 0), (.int .i64 0), (.int .i64 0), (.int .i64 0), (.int .i64 0), (.int .i64 0), (.int .i64 0), (.int .i64 0), (.int .i64 0), (.int .i64 0), (.int .i64 0), (.int .i64 0), (.int .i64 0), (.int .i64 0), (.int .i64 0), (.int .i64 0), (.int .i64 0), (.int .i64 0), (.int .i64 0), (.int .i64 0), (.int .i64 0), (.int .i64 0), (.int .i64 0), (.int .i64 0), (.int .i64 0), (.int .i64 0), (.int .i64 0), (.int .i64 0), (.int .i64 0), (.int .i64 0), (.int .i64 0), (.int .i64 0), (.int .i64 0), (.int .i64 0), (.int .i64 0), (.int .i64 0), (.int .i64 0), (.int .i64 0), (.int .i64 0), (.int .i64 0), (.int .i64 0), (.int .i64 0), (.int .i64 0), (.int .i64 0), (.int .i64 0), (.int .i64 0), (.int .i64 0), (.int .i64 0), (.int .i64 0), (.int .i64 0), (.int .i64 0), (.int .i64 0), (.int .i64 0), (.int .i64 0), (.int .i64 0), (.int .i64 0), (.int .i64 0), (.int .i64 0), (.int .i64 0), (.int .i64 0), (.int .i64 0), (.int .i64 0), (.int .i64 0), (.int .i64 0), (.int .i64 0), (.int .i64 0), (.int .i64 0), (.int .i64 0), (.int .i64 0), (.int .i64 0), (.int .i64 0), (.int .i64 0), (.int .i64 0), (.int .i64 0), (.int .i64 0), (.int .i64 0), (.int .i64 0), (.int .i64 0), (.int .i64 0), (.int .i64 0), (.int .i64 0), (.int .i64 0), (.int .i64 0), (.int .i64 0), (.int .i64 0), (.int .i64 0), (.int .i64 0), (.int .i64 0), (.int .i64 0), (.int .i64 0), (.int .i64 0), (.int .i64 0), (.int .i64 0), (.int .i64 0), (.int .i64 0), (.int .i64 0), (.int .i64 0), (.int .i64 0), (.int .i64 0), (.int .i64 0), (.int .i64 0), (.int .i64 0), (.int .i64 0), (.int .i64 0), (.int .i64 0), (.int .i64 0), (.int .i64 0), (.int .i64 0), (.int .i64 0), (.int .i64 0), (.int .i64 0), (.int .i64 0), (.int .i64 0), (.int .i64 0), (.int .i64 0), (.int .i64 0), (.int .i64 0), (.int .i64 0), (.int .i64 0), (.int .i64 0), (.int .i64 0), (.int .i64 0), (.int .i64 0), (.int .i64 0), (.int .i64 0), (.int .i64 0), (.int .i64 0), (.int .i64 0), (.int .i64 0), (.int .i64 0), (.int .i64 0), (.int .i64 0), (.int .i64 0), (.int .i64 0), (.int .i64 0), (.int .i64 0), (.int .i64 0), (.int .i64 0), (.int .i64 0), (.int .i64 0), (.int .i64 0), (.int .i64 0), (.int .i64 0), (.int .i64 0), (.int .i64 0), (.int .i64 0), (.int .i64 0), (.int .i64 0), (.int .i64 0), (.int .i64 0), (.int .i64 0), (.int .i64 0), (.int .i64 0), (.int .i64 0), (.int .i64 0), (.int .i64 0), (.int .i64 0), (.int .i64 0), (.int .i64 0), (.int .i64 0), (.int .i64 0), (.int .i64 0), (.int .i64 0), (.int .i64 0), (.int .i64 0), (.int .i64 0), (.int .i64 0), (.int .i64 0), (.int .i64 0), (.int .i64 0), (.int .i64 0), (.int .i64 0), (.int .i64 0), (.int .i64 0), (.int .i64 0), (.int .i64 0), (.int .i64 0), (.int .i64 0), (.int .i64 0), (.int .i64 0), (.int .i64 0), (.int .i64 0), (.int .i64 0), (.int .i64 0), (.int .i64 0), (.int .i64 0), (.int .i64 0), (.int .i64 0), (.int .i64 0), (.int .i64 0), (.int .i64 0), (.int .i64 0), (.int .i64 0), (.int .i64 0), (.int .i64 0), (.int .i64 0), (.int .i64 0), (.int .i64 0), (.int .i64 0), (.int .i64 0), (.int .i64 0), (.int .i64 0), (.int .i64 0), (.int .i64 0), (.int .i64 0), (.int .i64 0), (.int .i64 0), (.int .i64 0), (.int .i64 0), (.int .i64 0), (.int .i64 0), (.int .i64 0), (.int .i64 0), (.int .i64 0), (.int .i64 0), (.int .i64 0), (.int .i64 0), (.int .i64 0), (.int .i64 0), (.int .i64 0), (.int .i64 0), (.int .i64 0), (.int .i64 0), (.int .i64 0), (.int .i64 0), (.int .i64 0), (.int .i64 0), (.int .i64 0), (.int .i64 0), (.int .i64 0), (.int .i64 0), (.int .i64 0), (.int .i64 0), (.int .i64 0), (.int .i64 0), (.int .i64 0), (.int .i64 0), (.int .i64 0), (.int .i64 0), (.int .i64 0), (.int .i64 0), (.int .i64 0), (.int .i64 0), (.int .i64 0), (.int .i64 0), (.int .i64 0), (.int .i64 0), (.int .i64 0), (.int .i64 0), (.int .i64 0), (.int .i64 0), (.int .i64 0), (.int .i64 0), (.int .i64 0), (.int .i64 0), (.int .i64 0), (.int .i64 0), (.int .i64 0), (.int .i64 0), (.int .i64 0), (.int .i64 0), (.int .i64 0), (.int .i64 0), (.int .i64 0), (.int .i64 0), (.int .i64 0), (.int .i64 0), (.int .i64 0), (.int .i64 0), (.int .i64 0), (.int .i64 0), (.int .i64 0), (.int .i64 0), (.int .i64 0), (.int .i64 0), (.int .i64 0), (.int .i64 0), (.int .i64 0), (.int .i64 0), (.int .i64 0), (.int .i64 0), (.int .i64 0), (.int .i64 0), (.int .i64 0), (.int .i64 0), (.int .i64 0), (.int .i64 0), (.int .i64 0), (.int .i64 0), (.int .i64 0), (.int .i64 0), (.int .i64 0), (.int .i64 0), (.int .i64 0), (.int .i64 0), (.int .i64 0), (.int .i64 0), (.int .i64 0), (.int .i64 0), (.int .i64 0), (.int .i64 0), (.int .i64 0), (.int .i64 0), (.int .i64 0), (.int .i64 0), (.int .i64 0), (.int .i64 0), (.int .i64 0), (.int .i64 0), (.int .i64 0), (.int .i64 0), (.int .i64 0), (.int .i64 0), (.int .i64 0), (.int .i64 0), (.int .i64 0), (.int .i64 0), (.int .i64 0), (.int .i64 0), (.int .i64 0), (.int .i64 0), (.int .i64 0), (.int .i64 0), (.int .i64 0), (.int .i64 0), (.int .i64 0), (.int .i64 0), (.int .i64 0), (.int .i64 0), (.int .i64 0), (.int .i64 0), (.int .i64 0), (.int .i64 0), (.int .i64 0), (.int .i64 0), (.int .i64 0), (.int .i64 0), (.int .i64 0), (.int .i64 0), (.int .i64 0), (.int .i64 0), (.int .i64 0), (.int .i64 0), (.int .i64 0), (.int .i64 0), (.int .i64 0), (.int .i64 0), (.int .i64 0), (.int .i64 0), (.int .i64 0), (.int .i64 0), (.int .i64 0), (.int .i64 0), (.int .i64 0), (.int .i64 0), (.int .i64 0), (.int .i64 0), (.int .i64 0), (.int .i64 0), (.int .i64 0), (.int .i64 0), (.int .i64 0), (.int .i64 0), (.int .i64 0), (.int .i64 0), (.int .i64 0), (.int .i64 0), (.int .i64 0), (.int .i64 0), (.int .i64 0), (.int .i64 0), (.int .i64 0), (.int .i64 0), (.int .i64 0), (.int .i64 0), (.int .i64 0), (.int .i64 0), (.int .i64 0), (.int .i64 0), (.int .i64 0), (.int .i64 0), (.int .i64 0), (.int .i64 0), (.int .i64 0), (.int .i64 0), (.int .i64 0), (.int .i64 0), (.int .i64 0), (.int .i64 0), (.int .i64 0), (.int .i64 0), (.int .i64 0), (.int .i64 0), (.int .i64 0), (.int .i64 0), (.int .i64 0), (.int .i64 0), (.int .i64 0), (.int .i64 0), (.int .i64 0), (.int .i64 0), (.int .i64 0), (.int .i64 0), (.int .i64 0), (.int .i64 0), (.int .i64 0), (.int .i64 0), (.int .i64 0), (.int .i64 0)]) (.t 49) (.t 49), .a⟩,
  ⟨(some 51), none, .build [(.sl 6 true []), (.sl 2 true []), (.sl 6 true []), (.str []), (.str []), (.sl 1 true []), (.sl 625 true [])] [(0, 5, (.t 45)), (5, 1, (.t 46)), (6, 1, (.t 50))], .n⟩,
  ⟨(some 52), none, .box 7 (.t 51), .a⟩,
  ⟨(some 7), none, .mov (.t 52), .n⟩]
@[reducible] def e13r24 : List Ins := [
  ⟨(some 8), none, .mov (.c (.int .i64 0)), .any⟩]
@[reducible] def e13r25 : List Ins := [
  ⟨(some 53), none, .mov (.t 8), .any⟩,
  ⟨(some 54), none, .mov (.t 2), .any⟩,
  ⟨(some 55), none, .len (.t 54), .any⟩,
  ⟨(some 56), none, .bin .leq (.t 53) (.t 55), .any⟩]
@[reducible] def e13n26 : EC := .cond (.t 56) .skip (.exit 1)
@[reducible] def e13n27 : EC := .seq (.reg e13r25) e13n26
@[reducible] def e13r28 : List Ins := [
  ⟨(some 9), none, .mov (.c (.int .i64 0)), .any⟩]
@[reducible] def e13r29 : List Ins := [
  ⟨(some 59), none, .mov (.t 9), .any⟩,
  ⟨(some 60), none, .mov (.t 8), .any⟩,
  ⟨(some 61), none, .bin .add (.t 59) (.t 60), .any⟩,
  ⟨(some 62), none, .mov (.t 2), .any⟩,
  ⟨(some 63), none, .len (.t 62), .any⟩,
  ⟨(some 64), none, .bin .leq (.t 61) (.t 63), .any⟩]
@[reducible] def e13n30 : EC := .cond (.t 64) .skip (.exit 3)
@[reducible] def e13n31 : EC := .seq (.reg e13r29) e13n30
@[reducible] def e13r32 : List Ins := [
  ⟨(some 67), none, .mov (.t 7), .any⟩,
  ⟨(some 68), none, .mov (.t 9), .any⟩,
  ⟨(some 69), none, .mov (.t 9), .any⟩,
  ⟨(some 70), none, .mov (.t 8), .any⟩,
  ⟨(some 71), none, .bin .add (.t 69) (.t 70), .any⟩,
  ⟨(some 72), none, .call (.c (.fn 29 [])) [(.t 67), (.t 68), (.t 71)], .any⟩]
@[reducible] def e13n33 : EC := .block 4 (.reg e13r32)
@[reducible] def e13r34 : List Ins := [
  ⟨(some 65), none, .mov (.t 9), .any⟩,
  ⟨(some 66), none, .bin .add (.t 65) (.c (.int .i64 1)), .any⟩,
  ⟨(some 9), none, .mov (.t 66), .any⟩]
@[reducible] def e13n35 : EC := .seq e13n33 (.reg e13r34)
@[reducible] def e13n36 : EC := .seq e13n31 e13n35
@[reducible] def e13n37 : EC := .loop e13n36
@[reducible] def e13n38 : EC := .block 3 e13n37
@[reducible] def e13n39 : EC := .seq (.reg e13r28) e13n38
@[reducible] def e13n40 : EC := .block 2 e13n39
@[reducible] def e13r41 : List Ins := [
  ⟨(some 57), none, .mov (.t 8), .any⟩,
  ⟨(some 58), none, .bin .add (.t 57) (.c (.int .i64 1)), .any⟩,
  ⟨(some 8), none, .mov (.t 58), .any⟩]
@[reducible] def e13n42 : EC := .seq e13n40 (.reg e13r41)
@[reducible] def e13n43 : EC := .seq e13n27 e13n42
@[reducible] def e13n44 : EC := .loop e13n43
@[reducible] def e13n45 : EC := .block 1 e13n44
@[reducible] def e13n46 : EC := .seq (.reg e13r24) e13n45
@[reducible] def e13r47 : List Ins := [
  ⟨(some 73), none, .mov (.t 7), .any⟩,
  ⟨(some 74), none, .nilck (.t 73), .any⟩,
  ⟨(some 75), none, .faddr 6 (.t 74), .any⟩,
  ⟨(some 76), none, .load false 1 (.t 75), .any⟩,
  ⟨(some 77), none, .mov (.t 1), .any⟩,
  ⟨(some 78), none, .bin .sub (.t 77) (.c (.int .i64 1000)), .any⟩,
  ⟨(some 79), none, .mov (.t 2), .any⟩,
  ⟨(some 80), none, .len (.t 79), .any⟩,
  ⟨(some 81), none, .iaddr 625 (.t 76) (.t 78), .any⟩,
  ⟨(some 82), none, .iaddrA 25 25 (.t 81) (.c (.int .i64 0)), .any⟩,
  ⟨(some 83), none, .iaddrA 25 1 (.t 82) (.t 80), .any⟩,
  ⟨(some 84), none, .load false 1 (.t 83), .any⟩,
  ⟨(some 6), none, .mov (.t 84), .any⟩]
@[reducible] def e13n48 : EC := .seq (.reg e13r47) .ret
@[reducible] def e13n49 : EC := .seq e13n46 e13n48
@[reducible] def e13n50 : EC := .seq (.reg e13r23) e13n49
@[reducible] def e13n51 : EC := .seq e13n22 e13n50
@[reducible] def e13n52 : EC := .seq (.reg e13r0) e13n51
@[reducible] def e13 : EF := ⟨85, 3, [(.inl 6)], e13n52⟩
theorem e13_ok : compFn Try.prog { mu := fun t => [50].contains t, cl := fun r i => ([(16, 5, Cls.w)].find? fun x => x.1 == r && x.2.1 == i).map (·.2.2) } Try.f13 = some e13 := by kernel_rfl
theorem e13_nm : (Try.f13.name == "runtime.NumGoroutine") = false := by kernel_rfl
/- yucca/yuccaref0.Within -/
@[reducible] def e15r0 : List Ins := [
  ⟨(some 4), none, .mov (.c (.int .i64 0)), .any⟩]
@[reducible] def e15r1 : List Ins := [
  ⟨(some 6), none, .mov (.t 0), .any⟩,
  ⟨(some 7), none, .mov (.t 1), .any⟩,
  ⟨(some 8), none, .bin .rem (.t 6) (.t 7), .any⟩,
  ⟨(some 5), none, .mov (.t 8), .any⟩]
@[reducible] def e15r2 : List Ins := [
  ⟨(some 9), none, .mov (.t 5), .any⟩,
  ⟨(some 10), none, .bin .lss (.t 9) (.c (.int .i64 0)), .any⟩]
@[reducible] def e15r3 : List Ins := [
  ⟨(some 11), none, .mov (.t 5), .any⟩,
  ⟨(some 12), none, .mov (.t 1), .any⟩,
  ⟨(some 13), none, .bin .add (.t 11) (.t 12), .any⟩,
  ⟨(some 5), none, .mov (.t 13), .any⟩]
@[reducible] def e15n4 : EC := .cond (.t 10) (.reg e15r3) .skip
@[reducible] def e15n5 : EC := .seq (.reg e15r2) e15n4
@[reducible] def e15r6 : List Ins := [
  ⟨(some 14), none, .mov (.t 5), .any⟩,
  ⟨(some 4), none, .mov (.t 14), .any⟩]
@[reducible] def e15n7 : EC := .seq (.reg e15r6) .ret
@[reducible] def e15n8 : EC := .seq e15n5 e15n7
@[reducible] def e15n9 : EC := .seq (.reg e15r1) e15n8
@[reducible] def e15n10 : EC := .seq (.reg e15r0) e15n9
@[reducible] def e15 : EF := ⟨15, 2, [(.inl 4)], e15n10⟩
theorem e15_ok : compFn Try.prog {} Try.f15 = some e15 := by kernel_rfl
theorem e15_nm : (Try.f15.name == "runtime.NumGoroutine") = false := by kernel_rfl
/- yucca/yuccalaw14.of -/
@[reducible] def e16r0 : List Ins := [
  ⟨(some 2), none, .alloc 5 (.agg [(.sl 6 true []), (.sl 2 true []), (.sl 6 true []), (.str []), (.str [])]), .any⟩]
@[reducible] def e16r1 : List Ins := [
  ⟨(some 9), none, .build [(.str []), (.sl 6 true []), (.int .i64 0)] [(0, 1, (.c (.str [101])))], .any⟩,
  ⟨(some 3), none, .alloc 3 (.agg [(.str []), (.sl 6 true []), (.int .i64 0)]), .any⟩,
  ⟨none, none, .store 3 (.t 3) (.t 9), .any⟩]
@[reducible] def e16r2 : List Ins := [
  ⟨(some 4), none, .mov (.c (.int .i64 0)), .any⟩]
@[reducible] def e16r3 : List Ins := [
  ⟨(some 10), none, .mov (.t 4), .any⟩,
  ⟨(some 11), none, .mov (.t 0), .any⟩,
  ⟨(some 12), none, .len (.t 11), .any⟩,
  ⟨(some 13), none, .bin .lss (.t 10) (.t 12), .any⟩]
@[reducible] def e16n4 : EC := .cond (.t 13) .skip (.exit 0)
@[reducible] def e16n5 : EC := .seq (.reg e16r3) e16n4
@[reducible] def e16r6 : List Ins := [
  ⟨(some 5), none, .alloc 6 (.agg [(.sl 6 true []), (.str []), (.bool false), (.int .i64 0), (.int .i64 0), (.int .i64 0)]), .any⟩]
@[reducible] def e16r7 : List Ins := [
  ⟨(some 6), none, .mov (.c (.int .i64 0)), .any⟩]
@[reducible] def e16r8 : List Ins := [
  ⟨(some 16), none, .mov (.t 6), .any⟩,
  ⟨(some 17), none, .mov (.t 0), .any⟩,
  ⟨(some 18), none, .mov (.t 4), .any⟩,
  ⟨(some 19), none, .iaddr 1 (.t 17) (.t 18), .any⟩,
  ⟨(some 20), none, .load false 1 (.t 19), .any⟩,
  ⟨(some 21), none, .lenS (.t 20), .any⟩,
  ⟨(some 22), none, .bin .lss (.t 16) (.t 21), .any⟩]
@[reducible] def e16n9 : EC := .cond (.t 22) .skip (.exit 2)
@[reducible] def e16n10 : EC := .seq (.reg e16r8) e16n9
@[reducible] def e16r11 : List Ins := [
  ⟨(some 25), none, .faddr 0 (.t 5), .n⟩,
  ⟨(some 26), none, .load false 1 (.t 25), .r⟩,
  ⟨(some 27), none, .mov (.t 0), .n⟩,
  ⟨(some 28), none, .mov (.t 4), .n⟩,
  ⟨(some 29), none, .iaddr 1 (.t 27) (.t 28), .n⟩,
  ⟨(some 30), none, .load false 1 (.t 29), .r⟩,
  ⟨(some 31), none, .mov (.t 6), .n⟩,
  ⟨(some 32), none, .mov (.t 6), .n⟩,
  ⟨(some 33), none, .bin .add (.t 32) (.c (.int .i64 1)), .n⟩,
  ⟨(some 34), none, .slcS (.t 30) (some (.t 31)) (some (.t 33)), .n⟩,
  ⟨(some 35), none, .mov (.t 0), .n⟩,
  ⟨(some 36), none, .mov (.t 4), .n⟩,
  ⟨(some 37), none, .iaddr 1 (.t 35) (.t 36), .n⟩,
  ⟨(some 38), none, .load false 1 (.t 37), .r⟩,
  ⟨(some 39), none, .mov (.t 6), .n⟩,
  ⟨(some 40), none, .idxS (.t 38) (.t 39), .n⟩,
  ⟨(some 41), none, .bin .neq (.t 40) (.c (.int .u8 101)), .n⟩,
  ⟨(some 42), none, .build [(.str []), (.bool false), (.int .i64 0), (.int .i64 0)] [(0, 1, (.t 34)), (1, 1, (.t 41))], .n⟩,
  ⟨(some 43), none, .build [(.str []), (.bool false), (.int .i64 0), (.int .i64 0), (.str []), (.int .i64 0)] [(0, 4, (.t 42))], .n⟩,
  ⟨(some 44), none, .lit false 6 true (.agg [(.str []), (.bool false), (.int .i64 0), (.int .i64 0), (.str []), (.int .i64 0)]) 1 [(0, (.t 43))], .n⟩,
  ⟨(some 45), none, .append false 6 64 (.t 26) (.t 44), .t⟩,
  ⟨(some 46), none, .faddr 0 (.t 5), .n⟩,
  ⟨none, none, .store 1 (.t 46) (.t 45), .w⟩]
@[reducible] def e16n12 : EC := .block 3 (.reg e16r11)
@[reducible] def e16r13 : List Ins := [
  ⟨(some 23), none, .mov (.t 6), .any⟩,
  ⟨(some 24), none, .bin .add (.t 23) (.c (.int .i64 1)), .any⟩,
  ⟨(some 6), none, .mov (.t 24), .any⟩]
@[reducible] def e16n14 : EC := .seq e16n12 (.reg e16r13)
@[reducible] def e16n15 : EC := .seq e16n10 e16n14
@[reducible] def e16n16 : EC := .loop e16n15
@[reducible] def e16n17 : EC := .block 2 e16n16
@[reducible] def e16n18 : EC := .seq (.reg e16r7) e16n17
@[reducible] def e16r19 : List Ins := [
  ⟨(some 47), none, .faddr 1 (.t 3), .any⟩,
  ⟨(some 48), none, .load false 1 (.t 47), .any⟩,
  ⟨(some 49), none, .load true 6 (.t 5), .any⟩,
  ⟨(some 50), none, .lit false 6 true (.agg [(.sl 6 true []), (.str []), (.bool false), (.int .i64 0), (.int .i64 0), (.int .i64 0)]) 1 [(0, (.t 49))], .any⟩,
  ⟨(some 51), none, .append false 6 72 (.t 48) (.t 50), .any⟩,
  ⟨(some 52), none, .faddr 1 (.t 3), .any⟩,
  ⟨none, none, .store 1 (.t 52) (.t 51), .any⟩]
@[reducible] def e16n20 : EC := .seq e16n18 (.reg e16r19)
@[reducible] def e16n21 : EC := .seq (.reg e16r6) e16n20
@[reducible] def e16n22 : EC := .block 1 e16n21
@[reducible] def e16r23 : List Ins := [
  ⟨(some 14), none, .mov (.t 4), .any⟩,
  ⟨(some 15), none, .bin .add (.t 14) (.c (.int .i64 1)), .any⟩,
  ⟨(some 4), none, .mov (.t 15), .any⟩]
@[reducible] def e16n24 : EC := .seq e16n22 (.reg e16r23)
@[reducible] def e16n25 : EC := .seq e16n5 e16n24
@[reducible] def e16n26 : EC := .loop e16n25
@[reducible] def e16n27 : EC := .block 0 e16n26
@[reducible] def e16n28 : EC := .seq (.reg e16r2) e16n27
@[reducible] def e16r29 : List Ins := [
  ⟨(some 54), none, .load true 3 (.t 3), .any⟩,
  ⟨(some 55), none, .lit false 3 true (.agg [(.str []), (.sl 6 true []), (.int .i64 0)]) 1 [(0, (.t 54))], .any⟩,
  ⟨(some 56), none, .build [(.str []), (.sl 4 true []), (.sl 3 true []), (.str [])] [(2, 1, (.t 55))], .any⟩,
  ⟨(some 57), none, .call (.c (.fn 10 [])) [(.t 56)], .any⟩,
  ⟨(some 53), none, .mov (.t 57), .any⟩,
  ⟨(some 58), none, .ext (.t 53) 0, .any⟩,
  ⟨(some 59), none, .ext (.t 53) 1, .any⟩,
  ⟨(some 7), none, .alloc 5 (.agg [(.sl 6 true []), (.sl 2 true []), (.sl 6 true []), (.str []), (.str [])]), .any⟩,
  ⟨none, none, .store 5 (.t 7) (.t 58), .any⟩,
  ⟨(some 8), none, .mov (.t 59), .any⟩]
@[reducible] def e16r30 : List Ins := [
  ⟨(some 60), none, .load true 5 (.t 7), .any⟩,
  ⟨none, none, .store 5 (.t 2) (.t 60), .any⟩]
@[reducible] def e16n31 : EC := .seq (.reg e16r30) .ret
@[reducible] def e16n32 : EC := .seq (.reg e16r29) e16n31
@[reducible] def e16n33 : EC := .seq e16n28 e16n32
@[reducible] def e16n34 : EC := .seq (.reg e16r1) e16n33
@[reducible] def e16n35 : EC := .seq (.reg e16r0) e16n34
@[reducible] def e16 : EF := ⟨61, 1, [(.inr (2, true, 5))], e16n35⟩
theorem e16_ok : compFn Try.prog {} Try.f16 = some e16 := by kernel_rfl
theorem e16_nm : (Try.f16.name == "runtime.NumGoroutine") = false := by kernel_rfl
/- yucca/yuccaref9.Of -/
@[reducible] def e28r0 : List Ins := [
  ⟨(some 1), none, .box 4 (.t 0), .any⟩,
  ⟨(some 2), none, .alloc 5 (.agg [(.sl 6 true []), (.sl 2 true []), (.sl 6 true []), (.str []), (.str [])]), .any⟩,
  ⟨(some 3), none, .mov (.c (.int .i64 0)), .any⟩,
  ⟨(some 4), none, .mov (.c (.int .i64 0)), .any⟩,
  ⟨(some 5), none, .mov (.c (.str [])), .any⟩]
@[reducible] def e28r1 : List Ins := [
  ⟨(some 26), none, .load true 4 (.t 1), .any⟩,
  ⟨(some 27), none, .call (.c (.fn 39 [])) [(.t 26)], .any⟩,
  ⟨(some 28), none, .un .not (.t 27), .any⟩]
@[reducible] def e28r2 : List Ins := [
  ⟨(some 29), none, .build [(.sl 6 true []), (.sl 2 true []), (.sl 6 true []), (.str []), (.str [])] [], .any⟩,
  ⟨none, none, .store 5 (.t 2) (.t 29), .any⟩,
  ⟨(some 3), none, .mov (.c (.int .i64 1)), .any⟩,
  ⟨(some 4), none, .mov (.c (.int .i64 0)), .any⟩,
  ⟨(some 5), none, .mov (.c (.str [])), .any⟩]
@[reducible] def e28n3 : EC := .seq (.reg e28r2) .ret
@[reducible] def e28n4 : EC := .cond (.t 28) e28n3 .skip
@[reducible] def e28n5 : EC := .seq (.reg e28r1) e28n4
@[reducible] def e28r6 : List Ins := [
  ⟨(some 30), none, .mksl true 1 1 (.bool false) (.c (.int .i64 3)) (.c (.int .i64 3)), .any⟩,
  ⟨(some 31), none, .build [(.sl 6 true []), (.sl 2 true []), (.sl 6 true []), (.str []), (.str []), (.sl 1 true []), (.sl 2 true []), (.sl 1 true []), (.int .i64 0), (.int .i64 0), (.str []), (.int .i64 0), (.int .i64 0)] [(5, 1, (.t 30))], .any⟩,
  ⟨(some 32), none, .box 13 (.t 31), .any⟩,
  ⟨(some 6), none, .mov (.t 32), .any⟩]
@[reducible] def e28r7 : List Ins := [
  ⟨(some 33), none, .mov (.t 6), .any⟩,
  ⟨(some 34), none, .build [(.str []), (.bool false), (.int .i64 0), (.int .i64 0), (.int .i64 0), (.str [])] [(0, 1, (.c (.str [36, 101, 110, 100])))], .any⟩,
  ⟨(some 35), none, .build [(.str []), (.bool false), (.int .i64 0), (.int .i64 0), (.int .i64 0), (.str [])] [(0, 1, (.c (.str [101, 114, 114, 111, 114]))), (2, 1, (.c (.int .i64 (-1))))], .any⟩,
  ⟨(some 36), none, .build [(.str []), (.bool false), (.int .i64 0), (.int .i64 0), (.int .i64 0), (.str [])] [(0, 1, (.c (.str [36, 117, 110, 107]))), (2, 1, (.c (.int .i64 (-1))))], .any⟩,
  ⟨(some 37), none, .lit true 6 true (.agg [(.str []), (.bool false), (.int .i64 0), (.int .i64 0), (.int .i64 0), (.str [])]) 3 [(0, (.t 34)), (1, (.t 35)), (2, (.t 36))], .any⟩,
  ⟨(some 38), none, .nilck (.t 33), .any⟩,
  ⟨(some 39), none, .faddr 0 (.t 38), .any⟩,
  ⟨(some 40), none, .faddr 0 (.t 39), .any⟩,
  ⟨none, none, .store 1 (.t 40) (.t 37), .any⟩]
@[reducible] def e28r8 : List Ins := [
  ⟨(some 7), none, .mov (.c (.str [])), .any⟩]
@[reducible] def e28r9 : List Ins := [
  ⟨(some 8), none, .mov (.c (.int .i64 0)), .any⟩]
@[reducible] def e28r10 : List Ins := [
  ⟨(some 41), none, .mov (.t 8), .any⟩,
  ⟨(some 42), none, .faddr 1 (.t 1), .any⟩,
  ⟨(some 43), none, .load false 1 (.t 42), .any⟩,
  ⟨(some 44), none, .len (.t 43), .any⟩,
  ⟨(some 45), none, .bin .lss (.t 41) (.t 44), .any⟩]
@[reducible] def e28n11 : EC := .cond (.t 45) .skip (.exit 0)
@[reducible] def e28n12 : EC := .seq (.reg e28r10) e28n11
@[reducible] def e28r13 : List Ins := [
  ⟨(some 48), none, .faddr 1 (.t 1), .any⟩,
  ⟨(some 49), none, .load false 1 (.t 48), .any⟩,
  ⟨(some 50), none, .mov (.t 8), .any⟩,
  ⟨(some 51), none, .iaddr 4 (.t 49) (.t 50), .any⟩,
  ⟨(some 52), none, .load true 4 (.t 51), .any⟩,
  ⟨(some 9), none, .alloc 4 (.agg [(.int .i64 0), (.str []), (.sl 4 true []), (.int .i64 0)]), .any⟩,
  ⟨none, none, .store 4 (.t 9) (.t 52), .any⟩]
@[reducible] def e28r14 : List Ins := [
  ⟨(some 53), none, .faddr 0 (.t 9), .any⟩,
  ⟨(some 54), none, .load false 1 (.t 53), .any⟩,
  ⟨(some 55), none, .bin .geq (.t 54) (.c (.int .i64 2)), .any⟩,
  ⟨(some 56), none, .mov (.t 55), .any⟩,
  ⟨(some 57), (some (56, true)), .faddr 0 (.t 9), .any⟩,
  ⟨(some 58), (some (56, true)), .load false 1 (.t 57), .any⟩,
  ⟨(some 59), (some (56, true)), .bin .leq (.t 58) (.c (.int .i64 4)), .any⟩,
  ⟨(some 60), none, .pick (.t 56) (.t 59) (.c (.bool false)), .any⟩]
@[reducible] def e28r15 : List Ins := [
  ⟨(some 61), none, .mov (.t 6), .any⟩,
  ⟨(some 62), none, .nilck (.t 61), .any⟩,
  ⟨(some 63), none, .faddr 11 (.t 62), .any⟩,
  ⟨(some 64), none, .load false 1 (.t 63), .any⟩,
  ⟨(some 65), none, .bin .add (.t 64) (.c (.int .i64 1)), .any⟩,
  ⟨(some 66), none, .nilck (.t 61), .any⟩,
  ⟨(some 67), none, .faddr 11 (.t 66), .any⟩,
  ⟨none, none, .store 1 (.t 67) (.t 65), .any⟩]
@[reducible] def e28n16 : EC := .cond (.t 60) (.reg e28r15) .skip
@[reducible] def e28n17 : EC := .seq (.reg e28r14) e28n16
@[reducible] def e28r18 : List Ins := [
  ⟨(some 10), none, .mov (.c (.int .i64 0)), .any⟩]
@[reducible] def e28r19 : List Ins := [
  ⟨(some 68), none, .mov (.t 10), .any⟩,
  ⟨(some 69), none, .faddr 2 (.t 9), .any⟩,
  ⟨(some 70), none, .load false 1 (.t 69), .any⟩,
  ⟨(some 71), none, .len (.t 70), .any⟩,
  ⟨(some 72), none, .bin .lss (.t 68) (.t 71), .any⟩]
@[reducible] def e28n20 : EC := .cond (.t 72) .skip (.exit 2)
@[reducible] def e28n21 : EC := .seq (.reg e28r19) e28n20
@[reducible] def e28r22 : List Ins := [
  ⟨(some 75), none, .faddr 0 (.t 9), .any⟩,
  ⟨(some 76), none, .load false 1 (.t 75), .any⟩,
  ⟨(some 77), none, .bin .neq (.t 76) (.c (.int .i64 6)), .any⟩]
@[reducible] def e28r23 : List Ins := [
  ⟨(some 78), none, .mov (.t 6), .n⟩,
  ⟨(some 79), none, .load true 4 (.t 9), .r⟩,
  ⟨(some 80), none, .faddr 2 (.t 9), .n⟩,
  ⟨(some 81), none, .load false 1 (.t 80), .r⟩,
  ⟨(some 82), none, .mov (.t 10), .n⟩,
  ⟨(some 83), none, .iaddr 4 (.t 81) (.t 82), .n⟩,
  ⟨(some 84), none, .load true 4 (.t 83), .r⟩,
  ⟨(some 85), none, .call (.c (.fn 40 [])) [(.t 78), (.t 79), (.t 84)], .w⟩]
@[reducible] def e28n24 : EC := .seq (.reg e28r23) (.exit 3)
@[reducible] def e28n25 : EC := .cond (.t 77) e28n24 .skip
@[reducible] def e28n26 : EC := .seq (.reg e28r22) e28n25
@[reducible] def e28r27 : List Ins := [
  ⟨(some 86), none, .mov (.t 7), .any⟩,
  ⟨(some 87), none, .bin .neq (.t 86) (.c (.str [])), .any⟩]
@[reducible] def e28r28 : List Ins := [
  ⟨(some 88), none, .mov (.t 6), .n⟩,
  ⟨(some 89), none, .faddr 2 (.t 9), .n⟩,
  ⟨(some 90), none, .load false 1 (.t 89), .r⟩,
  ⟨(some 91), none, .mov (.t 10), .n⟩,
  ⟨(some 92), none, .iaddr 4 (.t 90) (.t 91), .n⟩,
  ⟨(some 93), none, .faddr 3 (.t 92), .n⟩,
  ⟨(some 94), none, .load false 1 (.t 93), .r⟩,
  ⟨(some 95), none, .faddr 2 (.t 9), .n⟩,
  ⟨(some 96), none, .load false 1 (.t 95), .r⟩,
  ⟨(some 97), none, .mov (.t 10), .n⟩,
  ⟨(some 98), none, .iaddr 4 (.t 96) (.t 97), .n⟩,
  ⟨(some 99), none, .faddr 0 (.t 98), .n⟩,
  ⟨(some 100), none, .load false 1 (.t 99), .r⟩,
  ⟨(some 101), none, .call (.c (.fn 41 [])) [(.t 88), (.t 94), (.t 100)], .w⟩]
@[reducible] def e28n29 : EC := .cond (.t 87) (.reg e28r28) .skip
@[reducible] def e28n30 : EC := .seq (.reg e28r27) e28n29
@[reducible] def e28r31 : List Ins := [
  ⟨(some 102), none, .faddr 2 (.t 9), .any⟩,
  ⟨(some 103), none, .load false 1 (.t 102), .any⟩,
  ⟨(some 104), none, .mov (.t 10), .any⟩,
  ⟨(some 105), none, .iaddr 4 (.t 103) (.t 104), .any⟩,
  ⟨(some 106), none, .faddr 0 (.t 105), .any⟩,
  ⟨(some 107), none, .load false 1 (.t 106), .any⟩,
  ⟨(some 7), none, .mov (.t 107), .any⟩]
@[reducible] def e28n32 : EC := .seq e28n30 (.reg e28r31)
@[reducible] def e28n33 : EC := .seq e28n26 e28n32
@[reducible] def e28n34 : EC := .block 3 e28n33
@[reducible] def e28r35 : List Ins := [
  ⟨(some 73), none, .mov (.t 10), .any⟩,
  ⟨(some 74), none, .bin .add (.t 73) (.c (.int .i64 1)), .any⟩,
  ⟨(some 10), none, .mov (.t 74), .any⟩]
@[reducible] def e28n36 : EC := .seq e28n34 (.reg e28r35)
@[reducible] def e28n37 : EC := .seq e28n21 e28n36
@[reducible] def e28n38 : EC := .loop e28n37
@[reducible] def e28n39 : EC := .block 2 e28n38
@[reducible] def e28n40 : EC := .seq (.reg e28r18) e28n39
@[reducible] def e28n41 : EC := .seq e28n17 e28n40
@[reducible] def e28n42 : EC := .seq (.reg e28r13) e28n41
@[reducible] def e28n43 : EC := .block 1 e28n42
@[reducible] def e28r44 : List Ins := [
  ⟨(some 46), none, .mov (.t 8), .any⟩,
  ⟨(some 47), none, .bin .add (.t 46) (.c (.int .i64 1)), .any⟩,
  ⟨(some 8), none, .mov (.t 47), .any⟩]
@[reducible] def e28n45 : EC := .seq e28n43 (.reg e28r44)
@[reducible] def e28n46 : EC := .seq e28n12 e28n45
@[reducible] def e28n47 : EC := .loop e28n46
@[reducible] def e28n48 : EC := .block 0 e28n47
@[reducible] def e28n49 : EC := .seq (.reg e28r9) e28n48
@[reducible] def e28r50 : List Ins := [
  ⟨(some 11), none, .mov (.c (.int .i64 0)), .any⟩]
@[reducible] def e28r51 : List Ins := [
  ⟨(some 108), none, .mov (.t 11), .any⟩,
  ⟨(some 109), none, .faddr 2 (.t 1), .any⟩,
  ⟨(some 110), none, .load false 1 (.t 109), .any⟩,
  ⟨(some 111), none, .len (.t 110), .any⟩,
  ⟨(some 112), none, .bin .lss (.t 108) (.t 111), .any⟩]
@[reducible] def e28n52 : EC := .cond (.t 112) .skip (.exit 4)
@[reducible] def e28n53 : EC := .seq (.reg e28r51) e28n52
@[reducible] def e28r54 : List Ins := [
  ⟨(some 115), none, .faddr 2 (.t 1), .any⟩,
  ⟨(some 116), none, .load false 1 (.t 115), .any⟩,
  ⟨(some 117), none, .mov (.t 11), .any⟩,
  ⟨(some 118), none, .iaddr 3 (.t 116) (.t 117), .any⟩,
  ⟨(some 119), none, .load true 3 (.t 118), .any⟩,
  ⟨(some 12), none, .alloc 3 (.agg [(.str []), (.sl 6 true []), (.int .i64 0)]), .any⟩,
  ⟨none, none, .store 3 (.t 12) (.t 119), .any⟩]
@[reducible] def e28r55 : List Ins := [
  ⟨(some 120), none, .mov (.t 6), .any⟩,
  ⟨(some 121), none, .faddr 0 (.t 12), .any⟩,
  ⟨(some 122), none, .load false 1 (.t 121), .any⟩,
  ⟨(some 123), none, .build [(.str []), (.bool false), (.int .i64 0), (.int .i64 0)] [(0, 1, (.t 122))], .any⟩,
  ⟨(some 124), none, .call (.c (.fn 42 [])) [(.t 120), (.t 123)], .any⟩,
  ⟨(some 125), none, .bin .geq (.t 124) (.c (.int .i64 0)), .any⟩]
@[reducible] def e28r56 : List Ins := [
  ⟨(some 126), none, .mov (.t 6), .any⟩,
  ⟨(some 127), none, .faddr 2 (.t 12), .any⟩,
  ⟨(some 128), none, .load false 1 (.t 127), .any⟩,
  ⟨(some 129), none, .faddr 0 (.t 12), .any⟩,
  ⟨(some 130), none, .load false 1 (.t 129), .any⟩,
  ⟨(some 131), none, .call (.c (.fn 41 [])) [(.t 126), (.t 128), (.t 130)], .any⟩]
@[reducible] def e28n57 : EC := .cond (.t 125) (.reg e28r56) .skip
@[reducible] def e28n58 : EC := .seq (.reg e28r55) e28n57
@[reducible] def e28r59 : List Ins := [
  ⟨(some 132), none, .mov (.t 6), .any⟩,
  ⟨(some 133), none, .faddr 0 (.t 12), .any⟩,
  ⟨(some 134), none, .load false 1 (.t 133), .any⟩,
  ⟨(some 135), none, .call (.c (.fn 43 [])) [(.t 132), (.t 134)], .any⟩,
  ⟨(some 136), none, .bin .lss (.t 135) (.c (.int .i64 0)), .any⟩]
@[reducible] def e28r60 : List Ins := [
  ⟨(some 137), none, .mov (.t 6), .n⟩,
  ⟨(some 138), none, .mov (.t 6), .n⟩,
  ⟨(some 139), none, .nilck (.t 138), .n⟩,
  ⟨(some 140), none, .faddr 7 (.t 139), .n⟩,
  ⟨(some 141), none, .load false 1 (.t 140), .r⟩,
  ⟨(some 142), none, .faddr 0 (.t 12), .n⟩,
  ⟨(some 143), none, .load false 1 (.t 142), .r⟩,
  ⟨(some 144), none, .lit false 1 false (.str []) 1 [(0, (.t 143))], .n⟩,
  ⟨(some 145), none, .append false 1 16 (.t 141) (.t 144), .t⟩,
  ⟨(some 146), none, .nilck (.t 137), .n⟩,
  ⟨(some 147), none, .faddr 7 (.t 146), .n⟩,
  ⟨none, none, .store 1 (.t 147) (.t 145), .w⟩]
@[reducible] def e28n61 : EC := .cond (.t 136) (.reg e28r60) .skip
@[reducible] def e28n62 : EC := .seq (.reg e28r59) e28n61
@[reducible] def e28n63 : EC := .seq e28n58 e28n62
@[reducible] def e28n64 : EC := .seq (.reg e28r54) e28n63
@[reducible] def e28n65 : EC := .block 5 e28n64
@[reducible] def e28r66 : List Ins := [
  ⟨(some 113), none, .mov (.t 11), .any⟩,
  ⟨(some 114), none, .bin .add (.t 113) (.c (.int .i64 1)), .any⟩,
  ⟨(some 11), none, .mov (.t 114), .any⟩]
@[reducible] def e28n67 : EC := .seq e28n65 (.reg e28r66)
@[reducible] def e28n68 : EC := .seq e28n53 e28n67
@[reducible] def e28n69 : EC := .loop e28n68
@[reducible] def e28n70 : EC := .block 4 e28n69
@[reducible] def e28n71 : EC := .seq (.reg e28r50) e28n70
@[reducible] def e28r72 : List Ins := [
  ⟨(some 13), none, .mov (.c (.int .i64 0)), .any⟩]
@[reducible] def e28r73 : List Ins := [
  ⟨(some 148), none, .mov (.t 13), .any⟩,
  ⟨(some 149), none, .faddr 1 (.t 1), .any⟩,
  ⟨(some 150), none, .load false 1 (.t 149), .any⟩,
  ⟨(some 151), none, .len (.t 150), .any⟩,
  ⟨(some 152), none, .bin .lss (.t 148) (.t 151), .any⟩]
@[reducible] def e28n74 : EC := .cond (.t 152) .skip (.exit 6)
@[reducible] def e28n75 : EC := .seq (.reg e28r73) e28n74
@[reducible] def e28r76 : List Ins := [
  ⟨(some 14), none, .mov (.c (.int .i64 0)), .any⟩]
@[reducible] def e28r77 : List Ins := [
  ⟨(some 155), none, .mov (.t 14), .any⟩,
  ⟨(some 156), none, .faddr 1 (.t 1), .any⟩,
  ⟨(some 157), none, .load false 1 (.t 156), .any⟩,
  ⟨(some 158), none, .mov (.t 13), .any⟩,
  ⟨(some 159), none, .iaddr 4 (.t 157) (.t 158), .any⟩,
  ⟨(some 160), none, .faddr 2 (.t 159), .any⟩,
  ⟨(some 161), none, .load false 1 (.t 160), .any⟩,
  ⟨(some 162), none, .len (.t 161), .any⟩,
  ⟨(some 163), none, .bin .lss (.t 155) (.t 162), .any⟩]
@[reducible] def e28n78 : EC := .cond (.t 163) .skip (.exit 8)
@[reducible] def e28n79 : EC := .seq (.reg e28r77) e28n78
@[reducible] def e28r80 : List Ins := [
  ⟨(some 166), none, .faddr 1 (.t 1), .any⟩,
  ⟨(some 167), none, .load false 1 (.t 166), .any⟩,
  ⟨(some 168), none, .mov (.t 13), .any⟩,
  ⟨(some 169), none, .iaddr 4 (.t 167) (.t 168), .any⟩,
  ⟨(some 170), none, .faddr 2 (.t 169), .any⟩,
  ⟨(some 171), none, .load false 1 (.t 170), .any⟩,
  ⟨(some 172), none, .mov (.t 14), .any⟩,
  ⟨(some 173), none, .iaddr 4 (.t 171) (.t 172), .any⟩,
  ⟨(some 174), none, .load true 4 (.t 173), .any⟩,
  ⟨(some 15), none, .alloc 4 (.agg [(.str []), (.bool false), (.int .i64 0), (.int .i64 0)]), .any⟩,
  ⟨none, none, .store 4 (.t 15) (.t 174), .any⟩]
@[reducible] def e28r81 : List Ins := [
  ⟨(some 175), none, .faddr 1 (.t 1), .any⟩,
  ⟨(some 176), none, .load false 1 (.t 175), .any⟩,
  ⟨(some 177), none, .mov (.t 13), .any⟩,
  ⟨(some 178), none, .iaddr 4 (.t 176) (.t 177), .any⟩,
  ⟨(some 179), none, .faddr 0 (.t 178), .any⟩,
  ⟨(some 180), none, .load false 1 (.t 179), .any⟩,
  ⟨(some 181), none, .bin .geq (.t 180) (.c (.int .i64 5)), .any⟩,
  ⟨(some 182), none, .mov (.t 181), .any⟩,
  ⟨(some 183), (some (182, true)), .mov (.t 6), .any⟩,
  ⟨(some 184), (some (182, true)), .faddr 0 (.t 15), .any⟩,
  ⟨(some 185), (some (182, true)), .load false 1 (.t 184), .any⟩,
  ⟨(some 186), (some (182, true)), .call (.c (.fn 43 [])) [(.t 183), (.t 185)], .any⟩,
  ⟨(some 187), (some (182, true)), .bin .lss (.t 186) (.c (.int .i64 0)), .any⟩,
  ⟨(some 188), none, .pick (.t 182) (.t 187) (.c (.bool false)), .any⟩]
@[reducible] def e28r82 : List Ins := [
  ⟨(some 189), none, .mov (.t 6), .any⟩,
  ⟨(some 190), none, .faddr 3 (.t 15), .any⟩,
  ⟨(some 191), none, .load false 1 (.t 190), .any⟩,
  ⟨(some 192), none, .faddr 0 (.t 15), .any⟩,
  ⟨(some 193), none, .load false 1 (.t 192), .any⟩,
  ⟨(some 194), none, .call (.c (.fn 41 [])) [(.t 189), (.t 191), (.t 193)], .any⟩]
@[reducible] def e28n83 : EC := .cond (.t 188) (.reg e28r82) .skip
@[reducible] def e28n84 : EC := .seq (.reg e28r81) e28n83
@[reducible] def e28n85 : EC := .seq (.reg e28r80) e28n84
@[reducible] def e28n86 : EC := .block 9 e28n85
@[reducible] def e28r87 : List Ins := [
  ⟨(some 164), none, .mov (.t 14), .any⟩,
  ⟨(some 165), none, .bin .add (.t 164) (.c (.int .i64 1)), .any⟩,
  ⟨(some 14), none, .mov (.t 165), .any⟩]
@[reducible] def e28n88 : EC := .seq e28n86 (.reg e28r87)
@[reducible] def e28n89 : EC := .seq e28n79 e28n88
@[reducible] def e28n90 : EC := .loop e28n89
@[reducible] def e28n91 : EC := .block 8 e28n90
@[reducible] def e28n92 : EC := .seq (.reg e28r76) e28n91
@[reducible] def e28n93 : EC := .block 7 e28n92
@[reducible] def e28r94 : List Ins := [
  ⟨(some 153), none, .mov (.t 13), .any⟩,
  ⟨(some 154), none, .bin .add (.t 153) (.c (.int .i64 1)), .any⟩,
  ⟨(some 13), none, .mov (.t 154), .any⟩]
@[reducible] def e28n95 : EC := .seq e28n93 (.reg e28r94)
@[reducible] def e28n96 : EC := .seq e28n75 e28n95
@[reducible] def e28n97 : EC := .loop e28n96
@[reducible] def e28n98 : EC := .block 6 e28n97
@[reducible] def e28n99 : EC := .seq (.reg e28r72) e28n98
@[reducible] def e28r100 : List Ins := [
  ⟨(some 195), none, .mov (.t 7), .any⟩,
  ⟨(some 196), none, .bin .eql (.t 195) (.c (.str [])), .any⟩]
@[reducible] def e28r101 : List Ins := [
  ⟨(some 197), none, .faddr 2 (.t 1), .any⟩,
  ⟨(some 198), none, .load false 1 (.t 197), .any⟩,
  ⟨(some 199), none, .iaddr 3 (.t 198) (.c (.int .i64 0)), .any⟩,
  ⟨(some 200), none, .faddr 0 (.t 199), .any⟩,
  ⟨(some 201), none, .load false 1 (.t 200), .any⟩,
  ⟨(some 7), none, .mov (.t 201), .any⟩]
@[reducible] def e28n102 : EC := .cond (.t 196) (.reg e28r101) .skip
@[reducible] def e28n103 : EC := .seq (.reg e28r100) e28n102
@[reducible] def e28r104 : List Ins := [
  ⟨(some 202), none, .mov (.t 6), .any⟩,
  ⟨(some 203), none, .mov (.t 6), .any⟩,
  ⟨(some 204), none, .mov (.t 7), .any⟩,
  ⟨(some 205), none, .call (.c (.fn 43 [])) [(.t 203), (.t 204)], .any⟩,
  ⟨(some 206), none, .bin .add (.c (.int .i64 1001)) (.t 205), .any⟩,
  ⟨(some 207), none, .lit false 1 false (.int .i64 0) 1 [(0, (.t 206))], .any⟩,
  ⟨(some 208), none, .build [(.int .i64 0), (.sl 1 true []), (.int .i64 0), (.str []), (.sl 1 true []), (.int .i64 0)] [(0, 1, (.c (.int .i64 0))), (1, 1, (.t 207)), (2, 1, (.c (.int .i64 (-1))))], .any⟩,
  ⟨(some 209), none, .lit false 6 true (.agg [(.int .i64 0), (.sl 1 true []), (.int .i64 0), (.str []), (.sl 1 true []), (.int .i64 0)]) 1 [(0, (.t 208))], .any⟩,
  ⟨(some 210), none, .nilck (.t 202), .any⟩,
  ⟨(some 211), none, .faddr 0 (.t 210), .any⟩,
  ⟨(some 212), none, .faddr 2 (.t 211), .any⟩,
  ⟨none, none, .store 1 (.t 212) (.t 209), .any⟩]
@[reducible] def e28r105 : List Ins := [
  ⟨(some 16), none, .mov (.c (.int .i64 0)), .any⟩]
@[reducible] def e28r106 : List Ins := [
  ⟨(some 213), none, .mov (.t 16), .any⟩,
  ⟨(some 214), none, .faddr 2 (.t 1), .any⟩,
  ⟨(some 215), none, .load false 1 (.t 214), .any⟩,
  ⟨(some 216), none, .len (.t 215), .any⟩,
  ⟨(some 217), none, .bin .lss (.t 213) (.t 216), .any⟩]
@[reducible] def e28n107 : EC := .cond (.t 217) .skip (.exit 10)
@[reducible] def e28n108 : EC := .seq (.reg e28r106) e28n107
@[reducible] def e28r109 : List Ins := [
  ⟨(some 17), none, .mov (.c (.int .i64 0)), .any⟩]
@[reducible] def e28r110 : List Ins := [
  ⟨(some 220), none, .mov (.t 17), .any⟩,
  ⟨(some 221), none, .faddr 2 (.t 1), .any⟩,
  ⟨(some 222), none, .load false 1 (.t 221), .any⟩,
  ⟨(some 223), none, .mov (.t 16), .any⟩,
  ⟨(some 224), none, .iaddr 3 (.t 222) (.t 223), .any⟩,
  ⟨(some 225), none, .faddr 1 (.t 224), .any⟩,
  ⟨(some 226), none, .load false 1 (.t 225), .any⟩,
  ⟨(some 227), none, .len (.t 226), .any⟩,
  ⟨(some 228), none, .bin .lss (.t 220) (.t 227), .any⟩]
@[reducible] def e28n111 : EC := .cond (.t 228) .skip (.exit 12)
@[reducible] def e28n112 : EC := .seq (.reg e28r110) e28n111
@[reducible] def e28r113 : List Ins := [
  ⟨(some 231), none, .mov (.t 6), .n⟩,
  ⟨(some 232), none, .faddr 2 (.t 1), .n⟩,
  ⟨(some 233), none, .load false 1 (.t 232), .r⟩,
  ⟨(some 234), none, .mov (.t 16), .n⟩,
  ⟨(some 235), none, .iaddr 3 (.t 233) (.t 234), .n⟩,
  ⟨(some 236), none, .faddr 0 (.t 235), .n⟩,
  ⟨(some 237), none, .load false 1 (.t 236), .r⟩,
  ⟨(some 238), none, .faddr 2 (.t 1), .n⟩,
  ⟨(some 239), none, .load false 1 (.t 238), .r⟩,
  ⟨(some 240), none, .mov (.t 16), .n⟩,
  ⟨(some 241), none, .iaddr 3 (.t 239) (.t 240), .n⟩,
  ⟨(some 242), none, .faddr 1 (.t 241), .n⟩,
  ⟨(some 243), none, .load false 1 (.t 242), .r⟩,
  ⟨(some 244), none, .mov (.t 17), .n⟩,
  ⟨(some 245), none, .iaddr 6 (.t 243) (.t 244), .n⟩,
  ⟨(some 246), none, .load true 6 (.t 245), .r⟩,
  ⟨(some 247), none, .call (.c (.fn 44 [])) [(.t 231), (.t 237), (.t 246)], .w⟩]
@[reducible] def e28n114 : EC := .block 13 (.reg e28r113)
@[reducible] def e28r115 : List Ins := [
  ⟨(some 229), none, .mov (.t 17), .any⟩,
  ⟨(some 230), none, .bin .add (.t 229) (.c (.int .i64 1)), .any⟩,
  ⟨(some 17), none, .mov (.t 230), .any⟩]
@[reducible] def e28n116 : EC := .seq e28n114 (.reg e28r115)
@[reducible] def e28n117 : EC := .seq e28n112 e28n116
@[reducible] def e28n118 : EC := .loop e28n117
@[reducible] def e28n119 : EC := .block 12 e28n118
@[reducible] def e28n120 : EC := .seq (.reg e28r109) e28n119
@[reducible] def e28n121 : EC := .block 11 e28n120
@[reducible] def e28r122 : List Ins := [
  ⟨(some 218), none, .mov (.t 16), .any⟩,
  ⟨(some 219), none, .bin .add (.t 218) (.c (.int .i64 1)), .any⟩,
  ⟨(some 16), none, .mov (.t 219), .any⟩]
@[reducible] def e28n123 : EC := .seq e28n121 (.reg e28r122)
@[reducible] def e28n124 : EC := .seq e28n108 e28n123
@[reducible] def e28n125 : EC := .loop e28n124
@[reducible] def e28n126 : EC := .block 10 e28n125
@[reducible] def e28n127 : EC := .seq (.reg e28r105) e28n126
@[reducible] def e28r128 : List Ins := [
  ⟨(some 248), none, .mov (.t 6), .any⟩,
  ⟨(some 249), none, .nilck (.t 248), .any⟩,
  ⟨(some 250), none, .faddr 8 (.t 249), .any⟩,
  ⟨(some 251), none, .load false 1 (.t 250), .any⟩,
  ⟨(some 252), none, .bin .neq (.t 251) (.c (.int .i64 0)), .any⟩]
@[reducible] def e28r129 : List Ins := [
  ⟨(some 253), none, .build [(.sl 6 true []), (.sl 2 true []), (.sl 6 true []), (.str []), (.str [])] [], .n⟩,
  ⟨(some 254), none, .mov (.t 6), .n⟩,
  ⟨(some 255), none, .nilck (.t 254), .n⟩,
  ⟨(some 256), none, .faddr 8 (.t 255), .n⟩,
  ⟨(some 257), none, .load false 1 (.t 256), (.l 26)⟩,
  ⟨(some 258), none, .mov (.t 6), .n⟩,
  ⟨(some 259), none, .nilck (.t 258), .n⟩,
  ⟨(some 260), none, .faddr 9 (.t 259), .n⟩,
  ⟨(some 261), none, .load false 1 (.t 260), (.l 26)⟩,
  ⟨(some 262), none, .mov (.t 6), .n⟩,
  ⟨(some 263), none, .nilck (.t 262), .n⟩,
  ⟨(some 264), none, .faddr 10 (.t 263), .n⟩,
  ⟨(some 265), none, .load false 1 (.t 264), (.l 26)⟩,
  ⟨none, none, .store 5 (.t 2) (.t 253), (.s 10)⟩,
  ⟨(some 3), none, .mov (.t 257), .n⟩,
  ⟨(some 4), none, .mov (.t 261), .n⟩,
  ⟨(some 5), none, .mov (.t 265), .n⟩]
@[reducible] def e28n130 : EC := .seq (.reg e28r129) .ret
@[reducible] def e28n131 : EC := .cond (.t 252) e28n130 .skip
@[reducible] def e28n132 : EC := .seq (.reg e28r128) e28n131
@[reducible] def e28r133 : List Ins := [
  ⟨(some 266), none, .mov (.t 6), .any⟩,
  ⟨(some 267), none, .build [(.str []), (.str [])] [(0, 1, (.c (.str [36, 97, 99, 99, 101, 112, 116])))], .any⟩,
  ⟨(some 268), none, .lit false 2 true (.agg [(.str []), (.str [])]) 1 [(0, (.t 267))], .any⟩,
  ⟨(some 269), none, .nilck (.t 266), .any⟩,
  ⟨(some 270), none, .faddr 0 (.t 269), .any⟩,
  ⟨(some 271), none, .faddr 1 (.t 270), .any⟩,
  ⟨none, none, .store 1 (.t 271) (.t 268), .any⟩]
@[reducible] def e28r134 : List Ins := [
  ⟨(some 18), none, .mov (.c (.int .i64 0)), .any⟩]
@[reducible] def e28r135 : List Ins := [
  ⟨(some 272), none, .mov (.t 18), .any⟩,
  ⟨(some 273), none, .mov (.t 6), .any⟩,
  ⟨(some 274), none, .nilck (.t 273), .any⟩,
  ⟨(some 275), none, .faddr 7 (.t 274), .any⟩,
  ⟨(some 276), none, .load false 1 (.t 275), .any⟩,
  ⟨(some 277), none, .len (.t 276), .any⟩,
  ⟨(some 278), none, .bin .lss (.t 272) (.t 277), .any⟩]
@[reducible] def e28n136 : EC := .cond (.t 278) .skip (.exit 14)
@[reducible] def e28n137 : EC := .seq (.reg e28r135) e28n136
@[reducible] def e28r138 : List Ins := [
  ⟨(some 281), none, .mov (.t 6), .any⟩,
  ⟨(some 282), none, .nilck (.t 281), .any⟩,
  ⟨(some 283), none, .faddr 7 (.t 282), .any⟩,
  ⟨(some 284), none, .load false 1 (.t 283), .any⟩,
  ⟨(some 285), none, .mov (.t 18), .any⟩,
  ⟨(some 286), none, .iaddr 1 (.t 284) (.t 285), .any⟩,
  ⟨(some 287), none, .load false 1 (.t 286), .any⟩,
  ⟨(some 288), none, .build [(.str []), (.str [])] [(0, 1, (.t 287))], .any⟩,
  ⟨(some 19), none, .alloc 2 (.agg [(.str []), (.str [])]), .any⟩,
  ⟨none, none, .store 2 (.t 19) (.t 288), .any⟩]
@[reducible] def e28r139 : List Ins := [
  ⟨(some 289), none, .mov (.t 6), .any⟩,
  ⟨(some 290), none, .faddr 0 (.t 19), .any⟩,
  ⟨(some 291), none, .load false 1 (.t 290), .any⟩,
  ⟨(some 292), none, .call (.c (.fn 45 [])) [(.t 289), (.t 291)], .any⟩,
  ⟨(some 20), none, .mov (.t 292), .any⟩]
@[reducible] def e28r140 : List Ins := [
  ⟨(some 293), none, .mov (.t 20), .any⟩,
  ⟨(some 294), none, .bin .geq (.t 293) (.c (.int .i64 0)), .any⟩]
@[reducible] def e28r141 : List Ins := [
  ⟨(some 295), none, .mov (.t 6), .any⟩,
  ⟨(some 296), none, .nilck (.t 295), .any⟩,
  ⟨(some 297), none, .faddr 6 (.t 296), .any⟩,
  ⟨(some 298), none, .load false 1 (.t 297), .any⟩,
  ⟨(some 299), none, .mov (.t 20), .any⟩,
  ⟨(some 300), none, .iaddr 2 (.t 298) (.t 299), .any⟩,
  ⟨(some 301), none, .faddr 1 (.t 300), .any⟩,
  ⟨(some 302), none, .load false 1 (.t 301), .any⟩,
  ⟨(some 303), none, .faddr 1 (.t 19), .any⟩,
  ⟨none, none, .store 1 (.t 303) (.t 302), .any⟩]
@[reducible] def e28n142 : EC := .cond (.t 294) (.reg e28r141) .skip
@[reducible] def e28n143 : EC := .seq (.reg e28r140) e28n142
@[reducible] def e28n144 : EC := .seq (.reg e28r139) e28n143
@[reducible] def e28r145 : List Ins := [
  ⟨(some 304), none, .mov (.t 6), .n⟩,
  ⟨(some 305), none, .mov (.t 6), .n⟩,
  ⟨(some 306), none, .nilck (.t 305), .n⟩,
  ⟨(some 307), none, .faddr 0 (.t 306), .n⟩,
  ⟨(some 308), none, .faddr 1 (.t 307), .n⟩,
  ⟨(some 309), none, .load false 1 (.t 308), .r⟩,
  ⟨(some 310), none, .load true 2 (.t 19), .r⟩,
  ⟨(some 311), none, .lit false 2 true (.agg [(.str []), (.str [])]) 1 [(0, (.t 310))], .n⟩,
  ⟨(some 312), none, .append false 2 32 (.t 309) (.t 311), .t⟩,
  ⟨(some 313), none, .nilck (.t 304), .n⟩,
  ⟨(some 314), none, .faddr 0 (.t 313), .n⟩,
  ⟨(some 315), none, .faddr 1 (.t 314), .n⟩,
  ⟨none, none, .store 1 (.t 315) (.t 312), .w⟩]
@[reducible] def e28n146 : EC := .seq e28n144 (.reg e28r145)
@[reducible] def e28n147 : EC := .seq (.reg e28r138) e28n146
@[reducible] def e28n148 : EC := .block 15 e28n147
@[reducible] def e28r149 : List Ins := [
  ⟨(some 279), none, .mov (.t 18), .any⟩,
  ⟨(some 280), none, .bin .add (.t 279) (.c (.int .i64 1)), .any⟩,
  ⟨(some 18), none, .mov (.t 280), .any⟩]
@[reducible] def e28n150 : EC := .seq e28n148 (.reg e28r149)
@[reducible] def e28n151 : EC := .seq e28n137 e28n150
@[reducible] def e28n152 : EC := .loop e28n151
@[reducible] def e28n153 : EC := .block 14 e28n152
@[reducible] def e28n154 : EC := .seq (.reg e28r134) e28n153
@[reducible] def e28r155 : List Ins := [
  ⟨(some 21), none, .mov (.c (.int .i64 1)), .any⟩]
@[reducible] def e28r156 : List Ins := [
  ⟨(some 316), none, .mov (.t 21), .any⟩,
  ⟨(some 317), none, .mov (.t 6), .any⟩,
  ⟨(some 318), none, .nilck (.t 317), .any⟩,
  ⟨(some 319), none, .faddr 12 (.t 318), .any⟩,
  ⟨(some 320), none, .load false 1 (.t 319), .any⟩,
  ⟨(some 321), none, .bin .leq (.t 316) (.t 320), .any⟩]
@[reducible] def e28n157 : EC := .cond (.t 321) .skip (.exit 16)
@[reducible] def e28n158 : EC := .seq (.reg e28r156) e28n157
@[reducible] def e28r159 : List Ins := [
  ⟨(some 324), none, .mov (.t 6), .n⟩,
  ⟨(some 325), none, .mov (.t 6), .n⟩,
  ⟨(some 326), none, .nilck (.t 325), .n⟩,
  ⟨(some 327), none, .faddr 0 (.t 326), .n⟩,
  ⟨(some 328), none, .faddr 1 (.t 327), .n⟩,
  ⟨(some 329), none, .load false 1 (.t 328), .r⟩,
  ⟨(some 330), none, .mov (.t 21), .n⟩,
  ⟨(some 331), none, .call (.c (.fn 46 [])) [(.t 330)], .r⟩,
  ⟨(some 332), none, .bin .add (.c (.str [64])) (.t 331), .n⟩,
  ⟨(some 333), none, .build [(.str []), (.str [])] [(0, 1, (.t 332))], .n⟩,
  ⟨(some 334), none, .lit false 2 true (.agg [(.str []), (.str [])]) 1 [(0, (.t 333))], .n⟩,
  ⟨(some 335), none, .append false 2 32 (.t 329) (.t 334), .t⟩,
  ⟨(some 336), none, .nilck (.t 324), .n⟩,
  ⟨(some 337), none, .faddr 0 (.t 336), .n⟩,
  ⟨(some 338), none, .faddr 1 (.t 337), .n⟩,
  ⟨none, none, .store 1 (.t 338) (.t 335), .w⟩]
@[reducible] def e28n160 : EC := .block 17 (.reg e28r159)
@[reducible] def e28r161 : List Ins := [
  ⟨(some 322), none, .mov (.t 21), .any⟩,
  ⟨(some 323), none, .bin .add (.t 322) (.c (.int .i64 1)), .any⟩,
  ⟨(some 21), none, .mov (.t 323), .any⟩]
@[reducible] def e28n162 : EC := .seq e28n160 (.reg e28r161)
@[reducible] def e28n163 : EC := .seq e28n158 e28n162
@[reducible] def e28n164 : EC := .loop e28n163
@[reducible] def e28n165 : EC := .block 16 e28n164
@[reducible] def e28n166 : EC := .seq (.reg e28r155) e28n165
@[reducible] def e28r167 : List Ins := [
  ⟨(some 22), none, .mov (.c (.int .i64 57346)), .any⟩]
@[reducible] def e28r168 : List Ins := [
  ⟨(some 23), none, .mov (.c (.int .i64 3)), .any⟩]
@[reducible] def e28r169 : List Ins := [
  ⟨(some 339), none, .mov (.t 23), .any⟩,
  ⟨(some 340), none, .mov (.t 6), .any⟩,
  ⟨(some 341), none, .nilck (.t 340), .any⟩,
  ⟨(some 342), none, .faddr 0 (.t 341), .any⟩,
  ⟨(some 343), none, .faddr 0 (.t 342), .any⟩,
  ⟨(some 344), none, .load false 1 (.t 343), .any⟩,
  ⟨(some 345), none, .len (.t 344), .any⟩,
  ⟨(some 346), none, .bin .lss (.t 339) (.t 345), .any⟩]
@[reducible] def e28n170 : EC := .cond (.t 346) .skip (.exit 18)
@[reducible] def e28n171 : EC := .seq (.reg e28r169) e28n170
@[reducible] def e28r172 : List Ins := [
  ⟨(some 349), none, .mov (.t 6), .any⟩,
  ⟨(some 350), none, .nilck (.t 349), .any⟩,
  ⟨(some 351), none, .faddr 5 (.t 350), .any⟩,
  ⟨(some 352), none, .load false 1 (.t 351), .any⟩,
  ⟨(some 353), none, .mov (.t 23), .any⟩,
  ⟨(some 354), none, .iaddr 1 (.t 352) (.t 353), .any⟩,
  ⟨(some 355), none, .load false 1 (.t 354), .any⟩,
  ⟨(some 356), none, .un .not (.t 355), .any⟩]
@[reducible] def e28r173 : List Ins := [
  ⟨(some 357), none, .mov (.t 6), .any⟩,
  ⟨(some 358), none, .nilck (.t 357), .any⟩,
  ⟨(some 359), none, .faddr 0 (.t 358), .any⟩,
  ⟨(some 360), none, .faddr 0 (.t 359), .any⟩,
  ⟨(some 361), none, .load false 1 (.t 360), .any⟩,
  ⟨(some 362), none, .mov (.t 23), .any⟩,
  ⟨(some 363), none, .mov (.t 22), .any⟩,
  ⟨(some 364), none, .iaddr 6 (.t 361) (.t 362), .any⟩,
  ⟨(some 365), none, .faddr 2 (.t 364), .any⟩,
  ⟨none, none, .store 1 (.t 365) (.t 363), .any⟩]
@[reducible] def e28r174 : List Ins := [
  ⟨(some 366), none, .mov (.t 22), .any⟩,
  ⟨(some 367), none, .bin .add (.t 366) (.c (.int .i64 1)), .any⟩,
  ⟨(some 22), none, .mov (.t 367), .any⟩]
@[reducible] def e28n175 : EC := .seq (.reg e28r173) (.reg e28r174)
@[reducible] def e28n176 : EC := .cond (.t 356) e28n175 .skip
@[reducible] def e28n177 : EC := .seq (.reg e28r172) e28n176
@[reducible] def e28n178 : EC := .block 19 e28n177
@[reducible] def e28r179 : List Ins := [
  ⟨(some 347), none, .mov (.t 23), .any⟩,
  ⟨(some 348), none, .bin .add (.t 347) (.c (.int .i64 1)), .any⟩,
  ⟨(some 23), none, .mov (.t 348), .any⟩]
@[reducible] def e28n180 : EC := .seq e28n178 (.reg e28r179)
@[reducible] def e28n181 : EC := .seq e28n171 e28n180
@[reducible] def e28n182 : EC := .loop e28n181
@[reducible] def e28n183 : EC := .block 18 e28n182
@[reducible] def e28n184 : EC := .seq (.reg e28r168) e28n183
@[reducible] def e28r185 : List Ins := [
  ⟨(some 368), none, .mov (.t 6), .any⟩,
  ⟨(some 369), none, .nilck (.t 368), .any⟩,
  ⟨(some 370), none, .faddr 0 (.t 369), .any⟩,
  ⟨(some 371), none, .faddr 0 (.t 370), .any⟩,
  ⟨(some 372), none, .load false 1 (.t 371), .any⟩,
  ⟨(some 373), none, .len (.t 372), .any⟩,
  ⟨(some 374), none, .bin .gtr (.t 373) (.c (.int .i64 40)), .any⟩,
  ⟨(some 375), none, .mov (.t 374), .any⟩,
  ⟨(some 376), (some (375, false)), .mov (.t 6), .any⟩,
  ⟨(some 377), (some (375, false)), .nilck (.t 376), .any⟩,
  ⟨(some 378), (some (375, false)), .faddr 0 (.t 377), .any⟩,
  ⟨(some 379), (some (375, false)), .faddr 1 (.t 378), .any⟩,
  ⟨(some 380), (some (375, false)), .load false 1 (.t 379), .any⟩,
  ⟨(some 381), (some (375, false)), .len (.t 380), .any⟩,
  ⟨(some 382), (some (375, false)), .bin .gtr (.t 381) (.c (.int .i64 24)), .any⟩,
  ⟨(some 383), none, .pick (.t 375) (.c (.bool true)) (.t 382), .any⟩,
  ⟨(some 384), none, .mov (.t 383), .any⟩,
  ⟨(some 385), (some (384, false)), .mov (.t 6), .any⟩,
  ⟨(some 386), (some (384, false)), .nilck (.t 385), .any⟩,
  ⟨(some 387), (some (384, false)), .faddr 0 (.t 386), .any⟩,
  ⟨(some 388), (some (384, false)), .faddr 2 (.t 387), .any⟩,
  ⟨(some 389), (some (384, false)), .load false 1 (.t 388), .any⟩,
  ⟨(some 390), (some (384, false)), .len (.t 389), .any⟩,
  ⟨(some 391), (some (384, false)), .bin .gtr (.t 390) (.c (.int .i64 60)), .any⟩,
  ⟨(some 392), none, .pick (.t 384) (.c (.bool true)) (.t 391), .any⟩,
  ⟨(some 24), none, .mov (.t 392), .any⟩]
@[reducible] def e28r186 : List Ins := [
  ⟨(some 25), none, .mov (.c (.int .i64 0)), .any⟩]
@[reducible] def e28r187 : List Ins := [
  ⟨(some 393), none, .mov (.t 25), .any⟩,
  ⟨(some 394), none, .mov (.t 6), .any⟩,
  ⟨(some 395), none, .nilck (.t 394), .any⟩,
  ⟨(some 396), none, .faddr 0 (.t 395), .any⟩,
  ⟨(some 397), none, .faddr 2 (.t 396), .any⟩,
  ⟨(some 398), none, .load false 1 (.t 397), .any⟩,
  ⟨(some 399), none, .len (.t 398), .any⟩,
  ⟨(some 400), none, .bin .lss (.t 393) (.t 399), .any⟩]
@[reducible] def e28n188 : EC := .cond (.t 400) .skip (.exit 20)
@[reducible] def e28n189 : EC := .seq (.reg e28r187) e28n188
@[reducible] def e28r190 : List Ins := [
  ⟨(some 403), none, .mov (.t 24), .any⟩,
  ⟨(some 404), none, .mov (.t 403), .any⟩,
  ⟨(some 405), (some (404, false)), .mov (.t 6), .any⟩,
  ⟨(some 406), (some (404, false)), .nilck (.t 405), .any⟩,
  ⟨(some 407), (some (404, false)), .faddr 0 (.t 406), .any⟩,
  ⟨(some 408), (some (404, false)), .faddr 2 (.t 407), .any⟩,
  ⟨(some 409), (some (404, false)), .load false 1 (.t 408), .any⟩,
  ⟨(some 410), (some (404, false)), .mov (.t 25), .any⟩,
  ⟨(some 411), (some (404, false)), .iaddr 6 (.t 409) (.t 410), .any⟩,
  ⟨(some 412), (some (404, false)), .faddr 1 (.t 411), .any⟩,
  ⟨(some 413), (some (404, false)), .load false 1 (.t 412), .any⟩,
  ⟨(some 414), (some (404, false)), .len (.t 413), .any⟩,
  ⟨(some 415), (some (404, false)), .bin .gtr (.t 414) (.c (.int .i64 8)), .any⟩,
  ⟨(some 416), none, .pick (.t 404) (.c (.bool true)) (.t 415), .any⟩,
  ⟨(some 24), none, .mov (.t 416), .any⟩]
@[reducible] def e28n191 : EC := .block 21 (.reg e28r190)
@[reducible] def e28r192 : List Ins := [
  ⟨(some 401), none, .mov (.t 25), .any⟩,
  ⟨(some 402), none, .bin .add (.t 401) (.c (.int .i64 1)), .any⟩,
  ⟨(some 25), none, .mov (.t 402), .any⟩]
@[reducible] def e28n193 : EC := .seq e28n191 (.reg e28r192)
@[reducible] def e28n194 : EC := .seq e28n189 e28n193
@[reducible] def e28n195 : EC := .loop e28n194
@[reducible] def e28n196 : EC := .block 20 e28n195
@[reducible] def e28n197 : EC := .seq (.reg e28r186) e28n196
@[reducible] def e28r198 : List Ins := [
  ⟨(some 417), none, .mov (.t 24), .any⟩]
@[reducible] def e28r199 : List Ins := [
  ⟨(some 418), none, .build [(.sl 6 true []), (.sl 2 true []), (.sl 6 true []), (.str []), (.str [])] [], .any⟩,
  ⟨none, none, .store 5 (.t 2) (.t 418), .any⟩,
  ⟨(some 3), none, .mov (.c (.int .i64 4)), .any⟩,
  ⟨(some 4), none, .mov (.c (.int .i64 0)), .any⟩,
  ⟨(some 5), none, .mov (.c (.str [])), .any⟩]
@[reducible] def e28n200 : EC := .seq (.reg e28r199) .ret
@[reducible] def e28n201 : EC := .cond (.t 417) e28n200 .skip
@[reducible] def e28n202 : EC := .seq (.reg e28r198) e28n201
@[reducible] def e28r203 : List Ins := [
  ⟨(some 419), none, .mov (.t 6), .n⟩,
  ⟨(some 420), none, .mov (.t 6), .n⟩,
  ⟨(some 421), none, .faddr 0 (.t 1), .n⟩,
  ⟨(some 422), none, .load false 1 (.t 421), (.l 9)⟩,
  ⟨(some 423), none, .faddr 3 (.t 1), .n⟩,
  ⟨(some 424), none, .load false 1 (.t 423), (.l 9)⟩,
  ⟨(some 425), none, .nilck (.t 419), .n⟩,
  ⟨(some 426), none, .faddr 0 (.t 425), .n⟩,
  ⟨(some 427), none, .faddr 3 (.t 426), .n⟩,
  ⟨none, none, .store 1 (.t 427) (.t 422), (.s 26)⟩,
  ⟨(some 428), none, .nilck (.t 420), .n⟩,
  ⟨(some 429), none, .faddr 0 (.t 428), .n⟩,
  ⟨(some 430), none, .faddr 4 (.t 429), .n⟩,
  ⟨none, none, .store 1 (.t 430) (.t 424), (.s 26)⟩]
@[reducible] def e28r204 : List Ins := [
  ⟨(some 431), none, .mov (.t 6), .any⟩,
  ⟨(some 432), none, .nilck (.t 431), .any⟩,
  ⟨(some 433), none, .faddr 0 (.t 432), .any⟩,
  ⟨(some 434), none, .load true 5 (.t 433), .any⟩,
  ⟨none, none, .store 5 (.t 2) (.t 434), .any⟩,
  ⟨(some 3), none, .mov (.c (.int .i64 0)), .any⟩,
  ⟨(some 4), none, .mov (.c (.int .i64 0)), .any⟩,
  ⟨(some 5), none, .mov (.c (.str [])), .any⟩]
@[reducible] def e28n205 : EC := .seq (.reg e28r204) .ret
@[reducible] def e28n206 : EC := .seq (.reg e28r203) e28n205
@[reducible] def e28n207 : EC := .seq e28n202 e28n206
@[reducible] def e28n208 : EC := .seq e28n197 e28n207
@[reducible] def e28n209 : EC := .seq (.reg e28r185) e28n208
@[reducible] def e28n210 : EC := .seq e28n184 e28n209
@[reducible] def e28n211 : EC := .seq (.reg e28r167) e28n210
@[reducible] def e28n212 : EC := .seq e28n166 e28n211
@[reducible] def e28n213 : EC := .seq e28n154 e28n212
@[reducible] def e28n214 : EC := .seq (.reg e28r133) e28n213
@[reducible] def e28n215 : EC := .seq e28n132 e28n214
@[reducible] def e28n216 : EC := .seq e28n127 e28n215
@[reducible] def e28n217 : EC := .seq (.reg e28r104) e28n216
@[reducible] def e28n218 : EC := .seq e28n103 e28n217
@[reducible] def e28n219 : EC := .seq e28n99 e28n218
@[reducible] def e28n220 : EC := .seq e28n71 e28n219
@[reducible] def e28n221 : EC := .seq e28n49 e28n220
@[reducible] def e28n222 : EC := .seq (.reg e28r8) e28n221
@[reducible] def e28n223 : EC := .seq (.reg e28r7) e28n222
@[reducible] def e28n224 : EC := .seq (.reg e28r6) e28n223
@[reducible] def e28n225 : EC := .seq e28n5 e28n224
@[reducible] def e28n226 : EC := .seq (.reg e28r0) e28n225
@[reducible] def e28 : EF := ⟨435, 1, [(.inr (2, true, 5)), (.inl 3), (.inl 4), (.inl 5)], e28n226⟩
theorem e28_ok : compFn Try.prog { mu := fun t => [30, 37].contains t, cl := fun r i => ([(48, 4, Cls.l 26), (48, 8, Cls.l 26), (48, 12, Cls.l 26), (48, 13, Cls.s 10), (76, 3, Cls.l 9), (76, 5, Cls.l 9), (76, 9, Cls.s 26), (76, 13, Cls.s 26), (16, 7, Cls.w), (18, 13, Cls.w), (24, 4, Cls.b), (25, 5, Cls.w), (26, 3, Cls.b), (35, 11, Cls.b), (36, 5, Cls.w), (39, 3, Cls.b), (46, 16, Cls.w), (54, 3, Cls.b)].find? fun x => x.1 == r && x.2.1 == i).map (·.2.2) } Try.f28 = some e28 := by kernel_rfl
theorem e28_nm : (Try.f28.name == "runtime.NumGoroutine") = false := by kernel_rfl
/- (yucca/many.counter).span -/
@[reducible] def e29r0 : List Ins := [
  ⟨(some 6), none, .mov (.c (.bool true)), .any⟩]
@[reducible] def e29r1 : List Ins := [
  ⟨(some 12), none, .mov (.t 6), .any⟩]
@[reducible] def e29n2 : EC := .cond (.t 12) .skip (.exit 0)
@[reducible] def e29n3 : EC := .seq (.reg e29r1) e29n2
@[reducible] def e29r4 : List Ins := [
  ⟨(some 6), none, .mov (.c (.bool false)), .any⟩]
@[reducible] def e29r5 : List Ins := [
  ⟨(some 13), none, .mov (.t 0), .any⟩,
  ⟨(some 14), none, .nilck (.t 13), .any⟩,
  ⟨(some 15), none, .faddr 0 (.t 14), .any⟩,
  ⟨(some 16), none, .faddr 1 (.t 15), .any⟩,
  ⟨(some 17), none, .load false 1 (.t 16), .any⟩,
  ⟨(some 18), none, .len (.t 17), .any⟩,
  ⟨(some 19), none, .mksl true 1 8 (.int .i64 0) (.t 18) (.t 18), .any⟩,
  ⟨(some 7), none, .mov (.t 19), .any⟩]
@[reducible] def e29r6 : List Ins := [
  ⟨(some 20), none, .mov (.t 0), .any⟩,
  ⟨(some 21), none, .nilck (.t 20), .any⟩,
  ⟨(some 22), none, .faddr 0 (.t 21), .any⟩,
  ⟨(some 23), none, .faddr 2 (.t 22), .any⟩,
  ⟨(some 24), none, .load false 1 (.t 23), .any⟩,
  ⟨(some 25), none, .len (.t 24), .any⟩,
  ⟨(some 26), none, .mov (.c (.int .i64 0)), .any⟩]
@[reducible] def e29r7 : List Ins := [
  ⟨(some 27), none, .bin .lss (.t 26) (.t 25), .any⟩]
@[reducible] def e29n8 : EC := .cond (.t 27) .skip (.exit 2)
@[reducible] def e29r9 : List Ins := [
  ⟨(some 28), none, .iaddr 6 (.t 24) (.t 26), .any⟩,
  ⟨(some 29), none, .load true 6 (.t 28), .any⟩,
  ⟨(some 9), none, .alloc 6 (.agg [(.int .i64 0), (.sl 1 true []), (.int .i64 0), (.str []), (.sl 1 true []), (.int .i64 0)]), .any⟩,
  ⟨none, none, .store 6 (.t 9) (.t 29), .any⟩]
@[reducible] def e29r10 : List Ins := [
  ⟨(some 30), none, .mov (.t 7), .any⟩,
  ⟨(some 31), none, .faddr 0 (.t 9), .any⟩,
  ⟨(some 32), none, .load false 1 (.t 31), .any⟩,
  ⟨(some 33), none, .iaddr 1 (.t 30) (.t 32), .any⟩,
  ⟨(some 34), none, .load false 1 (.t 33), .any⟩,
  ⟨(some 35), none, .bin .lss (.t 34) (.c (.int .i64 2)), .any⟩]
@[reducible] def e29r11 : List Ins := [
  ⟨(some 36), none, .mov (.t 7), .n⟩,
  ⟨(some 37), none, .faddr 0 (.t 9), .n⟩,
  ⟨(some 38), none, .load false 1 (.t 37), .r⟩,
  ⟨(some 39), none, .mov (.t 7), .n⟩,
  ⟨(some 40), none, .faddr 0 (.t 9), .n⟩,
  ⟨(some 41), none, .load false 1 (.t 40), .r⟩,
  ⟨(some 42), none, .iaddr 1 (.t 39) (.t 41), .n⟩,
  ⟨(some 43), none, .load false 1 (.t 42), .r⟩,
  ⟨(some 44), none, .mov (.t 0), .n⟩,
  ⟨(some 45), none, .faddr 1 (.t 9), .n⟩,
  ⟨(some 46), none, .load false 1 (.t 45), .r⟩,
  ⟨(some 47), none, .mov (.t 1), .n⟩,
  ⟨(some 48), none, .mov (.t 2), .n⟩,
  ⟨(some 49), none, .call (.c (.fn 47 [])) [(.t 44), (.t 46), (.t 47), (.t 48)], .b⟩,
  ⟨(some 50), none, .bin .add (.t 43) (.t 49), .n⟩,
  ⟨(some 51), none, .minmax false [(.c (.int .i64 2)), (.t 50)], .n⟩,
  ⟨(some 52), none, .iaddr 1 (.t 36) (.t 38), .n⟩,
  ⟨none, none, .store 1 (.t 52) (.t 51), .w⟩]
@[reducible] def e29n12 : EC := .cond (.t 35) (.reg e29r11) .skip
@[reducible] def e29n13 : EC := .seq (.reg e29r10) e29n12
@[reducible] def e29n14 : EC := .seq (.reg e29r9) e29n13
@[reducible] def e29n15 : EC := .block 3 e29n14
@[reducible] def e29r16 : List Ins := [
  ⟨(some 53), none, .bin .add (.t 26) (.c (.int .i64 1)), .any⟩,
  ⟨(some 26), none, .mov (.t 53), .any⟩]
@[reducible] def e29n17 : EC := .seq e29n15 (.reg e29r16)
@[reducible] def e29n18 : EC := .seq e29n8 e29n17
@[reducible] def e29n19 : EC := .seq (.reg e29r7) e29n18
@[reducible] def e29n20 : EC := .loop e29n19
@[reducible] def e29n21 : EC := .block 2 e29n20
@[reducible] def e29n22 : EC := .seq (.reg e29r6) e29n21
@[reducible] def e29r23 : List Ins := [
  ⟨(some 54), none, .mov (.t 7), .any⟩,
  ⟨(some 55), none, .len (.t 54), .any⟩,
  ⟨(some 56), none, .mov (.c (.int .i64 0)), .any⟩]
@[reducible] def e29r24 : List Ins := [
  ⟨(some 57), none, .bin .lss (.t 56) (.t 55), .any⟩]
@[reducible] def e29n25 : EC := .cond (.t 57) .skip (.exit 4)
@[reducible] def e29r26 : List Ins := [
  ⟨(some 58), none, .mov (.t 56), .any⟩,
  ⟨(some 59), none, .iaddr 1 (.t 54) (.t 56), .any⟩,
  ⟨(some 60), none, .load false 1 (.t 59), .any⟩,
  ⟨(some 10), none, .mov (.t 58), .any⟩,
  ⟨(some 11), none, .mov (.t 60), .any⟩]
@[reducible] def e29r27 : List Ins := [
  ⟨(some 61), none, .mov (.t 6), .any⟩,
  ⟨(some 62), none, .mov (.t 61), .any⟩,
  ⟨(some 63), (some (62, false)), .mov (.t 11), .any⟩,
  ⟨(some 64), (some (62, false)), .mov (.t 0), .any⟩,
  ⟨(some 65), (some (62, false)), .nilck (.t 64), .any⟩,
  ⟨(some 66), (some (62, false)), .faddr 6 (.t 65), .any⟩,
  ⟨(some 67), (some (62, false)), .load false 1 (.t 66), .any⟩,
  ⟨(some 68), (some (62, false)), .mov (.t 10), .any⟩,
  ⟨(some 69), (some (62, false)), .mov (.t 1), .any⟩,
  ⟨(some 70), (some (62, false)), .mov (.t 2), .any⟩,
  ⟨(some 71), (some (62, false)), .iaddr 625 (.t 67) (.t 68), .any⟩,
  ⟨(some 72), (some (62, false)), .iaddrA 25 25 (.t 71) (.t 69), .any⟩,
  ⟨(some 73), (some (62, false)), .iaddrA 25 1 (.t 72) (.t 70), .any⟩,
  ⟨(some 74), (some (62, false)), .load false 1 (.t 73), .any⟩,
  ⟨(some 75), (some (62, false)), .bin .neq (.t 63) (.t 74), .any⟩,
  ⟨(some 76), none, .pick (.t 62) (.c (.bool true)) (.t 75), .any⟩,
  ⟨(some 6), none, .mov (.t 76), .any⟩]
@[reducible] def e29r28 : List Ins := [
  ⟨(some 77), none, .mov (.t 0), .any⟩,
  ⟨(some 78), none, .nilck (.t 77), .any⟩,
  ⟨(some 79), none, .faddr 6 (.t 78), .any⟩,
  ⟨(some 80), none, .load false 1 (.t 79), .any⟩,
  ⟨(some 81), none, .mov (.t 10), .any⟩,
  ⟨(some 82), none, .mov (.t 1), .any⟩,
  ⟨(some 83), none, .mov (.t 2), .any⟩,
  ⟨(some 84), none, .mov (.t 11), .any⟩,
  ⟨(some 85), none, .iaddr 625 (.t 80) (.t 81), .any⟩,
  ⟨(some 86), none, .iaddrA 25 25 (.t 85) (.t 82), .any⟩,
  ⟨(some 87), none, .iaddrA 25 1 (.t 86) (.t 83), .any⟩,
  ⟨none, none, .store 1 (.t 87) (.t 84), .any⟩]
@[reducible] def e29n29 : EC := .seq (.reg e29r27) (.reg e29r28)
@[reducible] def e29n30 : EC := .seq (.reg e29r26) e29n29
@[reducible] def e29n31 : EC := .block 5 e29n30
@[reducible] def e29r32 : List Ins := [
  ⟨(some 88), none, .bin .add (.t 56) (.c (.int .i64 1)), .any⟩,
  ⟨(some 56), none, .mov (.t 88), .any⟩]
@[reducible] def e29n33 : EC := .seq e29n31 (.reg e29r32)
@[reducible] def e29n34 : EC := .seq e29n25 e29n33
@[reducible] def e29n35 : EC := .seq (.reg e29r24) e29n34
@[reducible] def e29n36 : EC := .loop e29n35
@[reducible] def e29n37 : EC := .block 4 e29n36
@[reducible] def e29n38 : EC := .seq (.reg e29r23) e29n37
@[reducible] def e29n39 : EC := .seq e29n22 e29n38
@[reducible] def e29n40 : EC := .seq (.reg e29r5) e29n39
@[reducible] def e29n41 : EC := .seq (.reg e29r4) e29n40
@[reducible] def e29n42 : EC := .block 1 e29n41
@[reducible] def e29n43 : EC := .seq e29n3 e29n42
@[reducible] def e29n44 : EC := .loop e29n43
@[reducible] def e29n45 : EC := .block 0 e29n44
@[reducible] def e29n46 : EC := .seq (.reg e29r0) e29n45
@[reducible] def e29 : EF := ⟨89, 3, [], e29n46⟩
theorem e29_ok : compFn Try.prog { mu := fun t => [19].contains t, cl := fun r i => ([(8, 13, Cls.b)].find? fun x => x.1 == r && x.2.1 == i).map (·.2.2) } Try.f29 = some e29 := by kernel_rfl
theorem e29_nm : (Try.f29.name == "runtime.NumGoroutine") = false := by kernel_rfl
end Go.Proofs
