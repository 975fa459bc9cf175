/-
  Part of a proof that a law of the given program answers true: contracts of its functions, and the law. Holds for inputs of at most 1048576 values and letters in all.
-/
import Derived.Test.YtgehkpbjmmcgdaaDoorEC
import Derived.Test.YtgehkpbjmmcgdaaDoorProg
import Derived.KernelRfl
import Derived.Lib.TrailingZeros
namespace Go.Proofs
open Go.E

/-- What lies in the program's own variables: the library's table. -/
instance : Glob Tryd.prog where
  G := fun g => if g = 0 then .iptr 64 (.agg (Lib.deBruijn64tab.map fun (n : Nat) => V.int .u8 (n : Int))) 0 else .iptr 0 (.agg []) 0
end Go.Proofs

set_option linter.unusedSimpArgs false
set_option linter.unusedVariables false
set_option maxRecDepth 100000
namespace Go.Proofs
open Go.E
/- gosem.cut.init -/
@[reducible] def e2r0 : List Ins := [
  ⟨(some 0), none, .call (.c (.fn 1 [])) [], .any⟩]
@[reducible] def e2 : EF := ⟨1, 0, [], (.reg e2r0)⟩
theorem e2_ok : compFn Tryd.prog {} Tryd.f2 = some e2 := by kernel_rfl
theorem e2_nm : (Tryd.f2.name == "runtime.NumGoroutine") = false := by kernel_rfl
/- yucca/yuccalaw1.BitsSets -/
@[reducible] def e3r0 : List Ins := [
  ⟨(some 4), none, .mov (.c (.bool false)), .any⟩]
@[reducible] def e3r1 : List Ins := [
  ⟨(some 8), none, .call (.c (.fn 8 [])) [], .any⟩,
  ⟨(some 9), none, .un .not (.t 8), .any⟩]
@[reducible] def e3r2 : List Ins := [
  ⟨(some 4), none, .mov (.c (.bool false)), .any⟩]
@[reducible] def e3n3 : EC := .seq (.reg e3r2) .ret
@[reducible] def e3n4 : EC := .cond (.t 9) e3n3 .skip
@[reducible] def e3n5 : EC := .seq (.reg e3r1) e3n4
@[reducible] def e3r6 : List Ins := [
  ⟨(some 10), none, .mov (.t 0), .any⟩,
  ⟨(some 11), none, .call (.c (.fn 9 [])) [(.t 10), (.c (.int .i64 80))], .any⟩,
  ⟨(some 0), none, .mov (.t 11), .any⟩]
@[reducible] def e3r7 : List Ins := [
  ⟨(some 12), none, .mov (.t 0), .any⟩,
  ⟨(some 13), none, .call (.c (.fn 10 [])) [(.t 12)], .any⟩,
  ⟨(some 5), none, .mov (.t 13), .any⟩]
@[reducible] def e3r8 : List Ins := [
  ⟨(some 14), none, .mov (.t 0), .any⟩,
  ⟨(some 15), none, .call (.c (.fn 11 [])) [(.t 14)], .any⟩,
  ⟨(some 6), none, .alloc 16 (.agg [(.int .u64 0), (.int .u64 0), (.int .u64 0), (.int .u64 0), (.int .u64 0), (.int .u64 0), (.int .u64 0), (.int .u64 0), (.int .u64 0), (.int .u64 0), (.int .u64 0), (.int .u64 0), (.int .u64 0), (.int .u64 0), (.int .u64 0), (.int .u64 0)]), .any⟩,
  ⟨none, none, .store 16 (.t 6) (.t 15), .any⟩]
@[reducible] def e3r9 : List Ins := [
  ⟨(some 16), none, .load true 16 (.t 6), .any⟩,
  ⟨(some 17), none, .call (.c (.fn 12 [])) [(.t 16)], .any⟩,
  ⟨(some 7), none, .mov (.t 17), .any⟩]
@[reducible] def e3r10 : List Ins := [
  ⟨(some 18), none, .mov (.t 7), .any⟩,
  ⟨(some 19), none, .mov (.t 5), .any⟩,
  ⟨(some 20), none, .call (.c (.fn 13 [])) [(.t 18), (.t 19)], .any⟩,
  ⟨(some 21), none, .un .not (.t 20), .any⟩,
  ⟨(some 22), none, .mov (.t 21), .any⟩,
  ⟨(some 23), (some (22, false)), .load true 16 (.t 6), .any⟩,
  ⟨(some 24), (some (22, false)), .call (.c (.fn 14 [])) [(.t 23)], .any⟩,
  ⟨(some 25), (some (22, false)), .mov (.t 5), .any⟩,
  ⟨(some 26), (some (22, false)), .len (.t 25), .any⟩,
  ⟨(some 27), (some (22, false)), .bin .neq (.t 24) (.t 26), .any⟩,
  ⟨(some 28), none, .pick (.t 22) (.c (.bool true)) (.t 27), .any⟩,
  ⟨(some 29), none, .mov (.t 28), .any⟩,
  ⟨(some 30), (some (29, false)), .load true 16 (.t 6), .any⟩,
  ⟨(some 31), (some (29, false)), .mov (.t 1), .any⟩,
  ⟨(some 32), (some (29, false)), .call (.c (.fn 15 [])) [(.t 30), (.t 31)], .any⟩,
  ⟨(some 33), (some (29, false)), .mov (.t 5), .any⟩,
  ⟨(some 34), (some (29, false)), .mov (.t 1), .any⟩,
  ⟨(some 35), (some (29, false)), .call (.c (.fn 16 [])) [(.t 33), (.t 34)], .any⟩,
  ⟨(some 36), (some (29, false)), .eqb true (.t 32) (.t 35), .any⟩,
  ⟨(some 37), none, .pick (.t 29) (.c (.bool true)) (.t 36), .any⟩]
@[reducible] def e3r11 : List Ins := [
  ⟨(some 4), none, .mov (.c (.bool false)), .any⟩]
@[reducible] def e3n12 : EC := .seq (.reg e3r11) .ret
@[reducible] def e3n13 : EC := .cond (.t 37) e3n12 .skip
@[reducible] def e3n14 : EC := .seq (.reg e3r10) e3n13
@[reducible] def e3r15 : List Ins := [
  ⟨(some 38), none, .mov (.t 7), .any⟩,
  ⟨(some 39), none, .call (.c (.fn 17 [])) [(.t 38)], .any⟩]
@[reducible] def e3r16 : List Ins := [
  ⟨(some 40), none, .load true 16 (.t 6), .any⟩,
  ⟨(some 41), none, .call (.c (.fn 12 [])) [(.t 40)], .any⟩,
  ⟨(some 42), none, .mov (.t 5), .any⟩,
  ⟨(some 43), none, .call (.c (.fn 13 [])) [(.t 41), (.t 42)], .any⟩,
  ⟨(some 4), none, .mov (.t 43), .any⟩]
@[reducible] def e3n17 : EC := .seq (.reg e3r16) .ret
@[reducible] def e3n18 : EC := .seq (.reg e3r15) e3n17
@[reducible] def e3n19 : EC := .seq e3n14 e3n18
@[reducible] def e3n20 : EC := .seq (.reg e3r9) e3n19
@[reducible] def e3n21 : EC := .seq (.reg e3r8) e3n20
@[reducible] def e3n22 : EC := .seq (.reg e3r7) e3n21
@[reducible] def e3n23 : EC := .seq (.reg e3r6) e3n22
@[reducible] def e3n24 : EC := .seq e3n5 e3n23
@[reducible] def e3n25 : EC := .seq (.reg e3r0) e3n24
@[reducible] def e3 : EF := ⟨44, 2, [(.inl 4)], e3n25⟩
theorem e3_ok : compFn Tryd.prog {} Tryd.f3 = some e3 := by kernel_rfl
theorem e3_nm : (Tryd.f3.name == "runtime.NumGoroutine") = false := by kernel_rfl
/- yucca/yuccalaw1.BitsPairs -/
@[reducible] def e4r0 : List Ins := [
  ⟨(some 6), none, .mov (.c (.bool false)), .any⟩]
@[reducible] def e4r1 : List Ins := [
  ⟨(some 11), none, .call (.c (.fn 8 [])) [], .any⟩,
  ⟨(some 12), none, .un .not (.t 11), .any⟩]
@[reducible] def e4r2 : List Ins := [
  ⟨(some 6), none, .mov (.c (.bool false)), .any⟩]
@[reducible] def e4n3 : EC := .seq (.reg e4r2) .ret
@[reducible] def e4n4 : EC := .cond (.t 12) e4n3 .skip
@[reducible] def e4n5 : EC := .seq (.reg e4r1) e4n4
@[reducible] def e4r6 : List Ins := [
  ⟨(some 14), none, .mov (.t 2), .any⟩,
  ⟨(some 15), none, .call (.c (.fn 18 [])) [(.t 14)], .any⟩,
  ⟨(some 13), none, .mov (.t 15), .any⟩,
  ⟨(some 16), none, .ext (.t 13) 0, .any⟩,
  ⟨(some 17), none, .ext (.t 13) 1, .any⟩,
  ⟨(some 7), none, .mov (.t 16), .any⟩,
  ⟨(some 8), none, .mov (.t 17), .any⟩]
@[reducible] def e4r7 : List Ins := [
  ⟨(some 19), none, .mov (.t 2), .any⟩,
  ⟨(some 20), none, .call (.c (.fn 19 [])) [(.t 19)], .any⟩,
  ⟨(some 18), none, .mov (.t 20), .any⟩,
  ⟨(some 21), none, .ext (.t 18) 0, .any⟩,
  ⟨(some 22), none, .ext (.t 18) 1, .any⟩,
  ⟨(some 9), none, .mov (.t 21), .any⟩,
  ⟨(some 10), none, .mov (.t 22), .any⟩]
@[reducible] def e4r8 : List Ins := [
  ⟨(some 23), none, .mov (.t 0), .any⟩,
  ⟨(some 24), none, .mov (.t 1), .any⟩,
  ⟨(some 25), none, .call (.c (.fn 20 [])) [(.t 23), (.t 24)], .any⟩,
  ⟨(some 26), none, .mov (.t 0), .any⟩,
  ⟨(some 27), none, .mov (.t 1), .any⟩,
  ⟨(some 28), none, .call (.c (.fn 21 [])) [(.t 26), (.t 27)], .any⟩,
  ⟨(some 29), none, .bin .eql (.t 25) (.t 28), .any⟩,
  ⟨(some 30), none, .mov (.t 29), .any⟩,
  ⟨(some 31), (some (30, true)), .mov (.t 7), .any⟩,
  ⟨(some 32), (some (30, true)), .mov (.t 9), .any⟩,
  ⟨(some 33), (some (30, true)), .bin .eql (.t 31) (.t 32), .any⟩,
  ⟨(some 34), none, .pick (.t 30) (.t 33) (.c (.bool false)), .any⟩,
  ⟨(some 35), none, .mov (.t 34), .any⟩,
  ⟨(some 36), (some (35, true)), .mov (.t 8), .any⟩,
  ⟨(some 37), (some (35, true)), .mov (.t 10), .any⟩,
  ⟨(some 38), (some (35, true)), .bin .eql (.t 36) (.t 37), .any⟩,
  ⟨(some 39), none, .pick (.t 35) (.t 38) (.c (.bool false)), .any⟩,
  ⟨(some 6), none, .mov (.t 39), .any⟩]
@[reducible] def e4n9 : EC := .seq (.reg e4r8) .ret
@[reducible] def e4n10 : EC := .seq (.reg e4r7) e4n9
@[reducible] def e4n11 : EC := .seq (.reg e4r6) e4n10
@[reducible] def e4n12 : EC := .seq e4n5 e4n11
@[reducible] def e4n13 : EC := .seq (.reg e4r0) e4n12
@[reducible] def e4 : EF := ⟨40, 3, [(.inl 6)], e4n13⟩
theorem e4_ok : compFn Tryd.prog {} Tryd.f4 = some e4 := by kernel_rfl
theorem e4_nm : (Tryd.f4.name == "runtime.NumGoroutine") = false := by kernel_rfl
/- yucca/yuccalaw1.BitsTurns -/
@[reducible] def e5r0 : List Ins := [
  ⟨(some 4), none, .mov (.c (.bool false)), .any⟩]
@[reducible] def e5r1 : List Ins := [
  ⟨(some 7), none, .call (.c (.fn 8 [])) [], .any⟩,
  ⟨(some 8), none, .un .not (.t 7), .any⟩]
@[reducible] def e5r2 : List Ins := [
  ⟨(some 4), none, .mov (.c (.bool false)), .any⟩]
@[reducible] def e5n3 : EC := .seq (.reg e5r2) .ret
@[reducible] def e5n4 : EC := .cond (.t 8) e5n3 .skip
@[reducible] def e5n5 : EC := .seq (.reg e5r1) e5n4
@[reducible] def e5r6 : List Ins := [
  ⟨(some 9), none, .mov (.t 0), .any⟩,
  ⟨(some 10), none, .bin .lss (.t 9) (.c (.int .i64 0)), .any⟩,
  ⟨(some 11), none, .mov (.t 10), .any⟩,
  ⟨(some 12), (some (11, false)), .mov (.t 0), .any⟩,
  ⟨(some 13), (some (11, false)), .bin .gtr (.t 12) (.c (.int .i64 999)), .any⟩,
  ⟨(some 14), none, .pick (.t 11) (.c (.bool true)) (.t 13), .any⟩,
  ⟨(some 15), none, .mov (.t 14), .any⟩,
  ⟨(some 16), (some (15, false)), .mov (.t 1), .any⟩,
  ⟨(some 17), (some (15, false)), .bin .lss (.t 16) (.c (.int .i64 0)), .any⟩,
  ⟨(some 18), none, .pick (.t 15) (.c (.bool true)) (.t 17), .any⟩,
  ⟨(some 19), none, .mov (.t 18), .any⟩,
  ⟨(some 20), (some (19, false)), .mov (.t 1), .any⟩,
  ⟨(some 21), (some (19, false)), .bin .gtr (.t 20) (.c (.int .i64 999)), .any⟩,
  ⟨(some 22), none, .pick (.t 19) (.c (.bool true)) (.t 21), .any⟩]
@[reducible] def e5r7 : List Ins := [
  ⟨(some 23), none, .mov (.t 0), .any⟩,
  ⟨(some 24), none, .mov (.t 1), .any⟩,
  ⟨(some 25), none, .call (.c (.fn 20 [])) [(.t 23), (.t 24)], .any⟩,
  ⟨(some 26), none, .bin .eql (.t 25) (.c (.int .i64 (-1))), .any⟩,
  ⟨(some 4), none, .mov (.t 26), .any⟩]
@[reducible] def e5n8 : EC := .seq (.reg e5r7) .ret
@[reducible] def e5n9 : EC := .cond (.t 22) e5n8 .skip
@[reducible] def e5n10 : EC := .seq (.reg e5r6) e5n9
@[reducible] def e5r11 : List Ins := [
  ⟨(some 28), none, .mov (.t 0), .any⟩,
  ⟨(some 29), none, .mov (.t 1), .any⟩,
  ⟨(some 30), none, .call (.c (.fn 20 [])) [(.t 28), (.t 29)], .any⟩,
  ⟨(some 31), none, .call (.c (.fn 18 [])) [(.t 30)], .any⟩,
  ⟨(some 27), none, .mov (.t 31), .any⟩,
  ⟨(some 32), none, .ext (.t 27) 0, .any⟩,
  ⟨(some 33), none, .ext (.t 27) 1, .any⟩,
  ⟨(some 5), none, .mov (.t 32), .any⟩,
  ⟨(some 6), none, .mov (.t 33), .any⟩]
@[reducible] def e5r12 : List Ins := [
  ⟨(some 34), none, .mov (.t 5), .any⟩,
  ⟨(some 35), none, .mov (.t 0), .any⟩,
  ⟨(some 36), none, .bin .eql (.t 34) (.t 35), .any⟩,
  ⟨(some 37), none, .mov (.t 36), .any⟩,
  ⟨(some 38), (some (37, true)), .mov (.t 6), .any⟩,
  ⟨(some 39), (some (37, true)), .mov (.t 1), .any⟩,
  ⟨(some 40), (some (37, true)), .bin .eql (.t 38) (.t 39), .any⟩,
  ⟨(some 41), none, .pick (.t 37) (.t 40) (.c (.bool false)), .any⟩,
  ⟨(some 42), none, .mov (.t 41), .any⟩,
  ⟨(some 43), (some (42, true)), .mov (.t 0), .any⟩,
  ⟨(some 44), (some (42, true)), .bin .eql (.t 43) (.c (.int .i64 999)), .any⟩,
  ⟨(some 45), (some (42, true)), .mov (.t 44), .any⟩,
  ⟨(some 46), (some (45, false)), .mov (.t 1), .any⟩,
  ⟨(some 47), (some (45, false)), .bin .eql (.t 46) (.c (.int .i64 0)), .any⟩,
  ⟨(some 48), (some (42, true)), .pick (.t 45) (.c (.bool true)) (.t 47), .any⟩,
  ⟨(some 49), (some (42, true)), .mov (.t 48), .any⟩,
  ⟨(some 50), (some (49, false)), .mov (.t 0), .any⟩,
  ⟨(some 51), (some (49, false)), .bin .add (.t 50) (.c (.int .i64 1)), .any⟩,
  ⟨(some 52), (some (49, false)), .mov (.t 1), .any⟩,
  ⟨(some 53), (some (49, false)), .bin .sub (.t 52) (.c (.int .i64 1)), .any⟩,
  ⟨(some 54), (some (49, false)), .call (.c (.fn 20 [])) [(.t 51), (.t 53)], .any⟩,
  ⟨(some 55), (some (49, false)), .mov (.t 0), .any⟩,
  ⟨(some 56), (some (49, false)), .mov (.t 1), .any⟩,
  ⟨(some 57), (some (49, false)), .call (.c (.fn 20 [])) [(.t 55), (.t 56)], .any⟩,
  ⟨(some 58), (some (49, false)), .bin .add (.t 57) (.c (.int .i64 1)), .any⟩,
  ⟨(some 59), (some (49, false)), .bin .eql (.t 54) (.t 58), .any⟩,
  ⟨(some 60), (some (42, true)), .pick (.t 49) (.c (.bool true)) (.t 59), .any⟩,
  ⟨(some 61), none, .pick (.t 42) (.t 60) (.c (.bool false)), .any⟩,
  ⟨(some 4), none, .mov (.t 61), .any⟩]
@[reducible] def e5n13 : EC := .seq (.reg e5r12) .ret
@[reducible] def e5n14 : EC := .seq (.reg e5r11) e5n13
@[reducible] def e5n15 : EC := .seq e5n10 e5n14
@[reducible] def e5n16 : EC := .seq e5n5 e5n15
@[reducible] def e5n17 : EC := .seq (.reg e5r0) e5n16
@[reducible] def e5 : EF := ⟨62, 2, [(.inl 4)], e5n17⟩
theorem e5_ok : compFn Tryd.prog {} Tryd.f5 = some e5 := by kernel_rfl
theorem e5_nm : (Tryd.f5.name == "runtime.NumGoroutine") = false := by kernel_rfl
/- yucca/yuccalaw1.BitsOps -/
@[reducible] def e6r0 : List Ins := [
  ⟨(some 4), none, .mov (.c (.bool false)), .any⟩]
@[reducible] def e6r1 : List Ins := [
  ⟨(some 13), none, .call (.c (.fn 8 [])) [], .any⟩,
  ⟨(some 14), none, .un .not (.t 13), .any⟩]
@[reducible] def e6r2 : List Ins := [
  ⟨(some 4), none, .mov (.c (.bool false)), .any⟩]
@[reducible] def e6n3 : EC := .seq (.reg e6r2) .ret
@[reducible] def e6n4 : EC := .cond (.t 14) e6n3 .skip
@[reducible] def e6n5 : EC := .seq (.reg e6r1) e6n4
@[reducible] def e6r6 : List Ins := [
  ⟨(some 15), none, .mov (.t 0), .any⟩,
  ⟨(some 16), none, .call (.c (.fn 9 [])) [(.t 15), (.c (.int .i64 60))], .any⟩,
  ⟨(some 17), none, .mov (.t 1), .any⟩,
  ⟨(some 18), none, .call (.c (.fn 9 [])) [(.t 17), (.c (.int .i64 60))], .any⟩,
  ⟨(some 0), none, .mov (.t 16), .any⟩,
  ⟨(some 1), none, .mov (.t 18), .any⟩]
@[reducible] def e6r7 : List Ins := [
  ⟨(some 19), none, .mov (.t 0), .any⟩,
  ⟨(some 20), none, .call (.c (.fn 10 [])) [(.t 19)], .any⟩,
  ⟨(some 21), none, .mov (.t 1), .any⟩,
  ⟨(some 22), none, .call (.c (.fn 10 [])) [(.t 21)], .any⟩,
  ⟨(some 5), none, .mov (.t 20), .any⟩,
  ⟨(some 6), none, .mov (.t 22), .any⟩]
@[reducible] def e6r8 : List Ins := [
  ⟨(some 23), none, .mov (.t 0), .any⟩,
  ⟨(some 24), none, .call (.c (.fn 11 [])) [(.t 23)], .any⟩,
  ⟨(some 25), none, .mov (.t 1), .any⟩,
  ⟨(some 26), none, .call (.c (.fn 11 [])) [(.t 25)], .any⟩,
  ⟨(some 7), none, .alloc 16 (.agg [(.int .u64 0), (.int .u64 0), (.int .u64 0), (.int .u64 0), (.int .u64 0), (.int .u64 0), (.int .u64 0), (.int .u64 0), (.int .u64 0), (.int .u64 0), (.int .u64 0), (.int .u64 0), (.int .u64 0), (.int .u64 0), (.int .u64 0), (.int .u64 0)]), .any⟩,
  ⟨(some 8), none, .alloc 16 (.agg [(.int .u64 0), (.int .u64 0), (.int .u64 0), (.int .u64 0), (.int .u64 0), (.int .u64 0), (.int .u64 0), (.int .u64 0), (.int .u64 0), (.int .u64 0), (.int .u64 0), (.int .u64 0), (.int .u64 0), (.int .u64 0), (.int .u64 0), (.int .u64 0)]), .any⟩,
  ⟨none, none, .store 16 (.t 7) (.t 24), .any⟩,
  ⟨none, none, .store 16 (.t 8) (.t 26), .any⟩]
@[reducible] def e6r9 : List Ins := [
  ⟨(some 9), none, .mov (.c (.sl 1 true [])), .any⟩,
  ⟨(some 10), none, .mov (.c (.sl 1 true [])), .any⟩]
@[reducible] def e6r10 : List Ins := [
  ⟨(some 11), none, .mov (.c (.int .i64 0)), .any⟩]
@[reducible] def e6r11 : List Ins := [
  ⟨(some 27), none, .mov (.t 11), .any⟩,
  ⟨(some 28), none, .mov (.t 5), .any⟩,
  ⟨(some 29), none, .len (.t 28), .any⟩,
  ⟨(some 30), none, .bin .lss (.t 27) (.t 29), .any⟩]
@[reducible] def e6n12 : EC := .cond (.t 30) .skip (.exit 0)
@[reducible] def e6n13 : EC := .seq (.reg e6r11) e6n12
@[reducible] def e6r14 : List Ins := [
  ⟨(some 33), none, .mov (.t 6), .any⟩,
  ⟨(some 34), none, .mov (.t 5), .any⟩,
  ⟨(some 35), none, .mov (.t 11), .any⟩,
  ⟨(some 36), none, .iaddr 1 (.t 34) (.t 35), .any⟩,
  ⟨(some 37), none, .load false 1 (.t 36), .any⟩,
  ⟨(some 38), none, .call (.c (.fn 16 [])) [(.t 33), (.t 37)], .any⟩]
@[reducible] def e6r15 : List Ins := [
  ⟨(some 39), none, .mov (.t 9), .any⟩,
  ⟨(some 40), none, .mov (.t 5), .any⟩,
  ⟨(some 41), none, .mov (.t 11), .any⟩,
  ⟨(some 42), none, .iaddr 1 (.t 40) (.t 41), .any⟩,
  ⟨(some 43), none, .load false 1 (.t 42), .any⟩,
  ⟨(some 44), none, .lit false 1 false (.int .i64 0) 1 [(0, (.t 43))], .any⟩,
  ⟨(some 45), none, .append false 1 8 (.t 39) (.t 44), .any⟩,
  ⟨(some 9), none, .mov (.t 45), .any⟩]
@[reducible] def e6r16 : List Ins := [
  ⟨(some 46), none, .mov (.t 10), .any⟩,
  ⟨(some 47), none, .mov (.t 5), .any⟩,
  ⟨(some 48), none, .mov (.t 11), .any⟩,
  ⟨(some 49), none, .iaddr 1 (.t 47) (.t 48), .any⟩,
  ⟨(some 50), none, .load false 1 (.t 49), .any⟩,
  ⟨(some 51), none, .lit false 1 false (.int .i64 0) 1 [(0, (.t 50))], .any⟩,
  ⟨(some 52), none, .append false 1 8 (.t 46) (.t 51), .any⟩,
  ⟨(some 10), none, .mov (.t 52), .any⟩]
@[reducible] def e6n17 : EC := .cond (.t 38) (.reg e6r15) (.reg e6r16)
@[reducible] def e6n18 : EC := .seq (.reg e6r14) e6n17
@[reducible] def e6n19 : EC := .block 1 e6n18
@[reducible] def e6r20 : List Ins := [
  ⟨(some 31), none, .mov (.t 11), .any⟩,
  ⟨(some 32), none, .bin .add (.t 31) (.c (.int .i64 1)), .any⟩,
  ⟨(some 11), none, .mov (.t 32), .any⟩]
@[reducible] def e6n21 : EC := .seq e6n19 (.reg e6r20)
@[reducible] def e6n22 : EC := .seq e6n13 e6n21
@[reducible] def e6n23 : EC := .loop e6n22
@[reducible] def e6n24 : EC := .block 0 e6n23
@[reducible] def e6n25 : EC := .seq (.reg e6r10) e6n24
@[reducible] def e6r26 : List Ins := [
  ⟨(some 53), none, .lit false 1 false (.int .i64 0) 0 [], .any⟩,
  ⟨(some 54), none, .mov (.t 0), .any⟩,
  ⟨(some 55), none, .append false 1 8 (.t 53) (.t 54), .any⟩,
  ⟨(some 56), none, .mov (.t 1), .any⟩,
  ⟨(some 57), none, .append false 1 8 (.t 55) (.t 56), .any⟩,
  ⟨(some 58), none, .call (.c (.fn 10 [])) [(.t 57)], .any⟩,
  ⟨(some 12), none, .mov (.t 58), .any⟩]
@[reducible] def e6r27 : List Ins := [
  ⟨(some 59), none, .load true 16 (.t 7), .any⟩,
  ⟨(some 60), none, .load true 16 (.t 8), .any⟩,
  ⟨(some 61), none, .call (.c (.fn 22 [])) [(.t 59), (.t 60)], .any⟩,
  ⟨(some 62), none, .call (.c (.fn 12 [])) [(.t 61)], .any⟩,
  ⟨(some 63), none, .mov (.t 12), .any⟩,
  ⟨(some 64), none, .call (.c (.fn 13 [])) [(.t 62), (.t 63)], .any⟩,
  ⟨(some 65), none, .mov (.t 64), .any⟩,
  ⟨(some 66), (some (65, true)), .load true 16 (.t 7), .any⟩,
  ⟨(some 67), (some (65, true)), .load true 16 (.t 8), .any⟩,
  ⟨(some 68), (some (65, true)), .call (.c (.fn 23 [])) [(.t 66), (.t 67)], .any⟩,
  ⟨(some 69), (some (65, true)), .call (.c (.fn 12 [])) [(.t 68)], .any⟩,
  ⟨(some 70), (some (65, true)), .mov (.t 9), .any⟩,
  ⟨(some 71), (some (65, true)), .call (.c (.fn 13 [])) [(.t 69), (.t 70)], .any⟩,
  ⟨(some 72), none, .pick (.t 65) (.t 71) (.c (.bool false)), .any⟩,
  ⟨(some 73), none, .mov (.t 72), .any⟩,
  ⟨(some 74), (some (73, true)), .load true 16 (.t 7), .any⟩,
  ⟨(some 75), (some (73, true)), .load true 16 (.t 8), .any⟩,
  ⟨(some 76), (some (73, true)), .call (.c (.fn 24 [])) [(.t 74), (.t 75)], .any⟩,
  ⟨(some 77), (some (73, true)), .call (.c (.fn 12 [])) [(.t 76)], .any⟩,
  ⟨(some 78), (some (73, true)), .mov (.t 10), .any⟩,
  ⟨(some 79), (some (73, true)), .call (.c (.fn 13 [])) [(.t 77), (.t 78)], .any⟩,
  ⟨(some 80), none, .pick (.t 73) (.t 79) (.c (.bool false)), .any⟩,
  ⟨(some 81), none, .mov (.t 80), .any⟩,
  ⟨(some 82), (some (81, true)), .load true 16 (.t 7), .any⟩,
  ⟨(some 83), (some (81, true)), .load true 16 (.t 8), .any⟩,
  ⟨(some 84), (some (81, true)), .call (.c (.fn 25 [])) [(.t 82), (.t 83)], .any⟩,
  ⟨(some 85), (some (81, true)), .mov (.t 5), .any⟩,
  ⟨(some 86), (some (81, true)), .mov (.t 6), .any⟩,
  ⟨(some 87), (some (81, true)), .call (.c (.fn 13 [])) [(.t 85), (.t 86)], .any⟩,
  ⟨(some 88), (some (81, true)), .eqb false (.t 84) (.t 87), .any⟩,
  ⟨(some 89), none, .pick (.t 81) (.t 88) (.c (.bool false)), .any⟩,
  ⟨(some 90), none, .mov (.t 89), .any⟩,
  ⟨(some 91), (some (90, true)), .load true 16 (.t 7), .any⟩,
  ⟨(some 92), (some (90, true)), .call (.c (.fn 12 [])) [(.t 91)], .any⟩,
  ⟨(some 93), (some (90, true)), .mov (.t 5), .any⟩,
  ⟨(some 94), (some (90, true)), .call (.c (.fn 13 [])) [(.t 92), (.t 93)], .any⟩,
  ⟨(some 95), none, .pick (.t 90) (.t 94) (.c (.bool false)), .any⟩,
  ⟨(some 96), none, .mov (.t 95), .any⟩,
  ⟨(some 97), (some (96, true)), .load true 16 (.t 8), .any⟩,
  ⟨(some 98), (some (96, true)), .call (.c (.fn 12 [])) [(.t 97)], .any⟩,
  ⟨(some 99), (some (96, true)), .mov (.t 6), .any⟩,
  ⟨(some 100), (some (96, true)), .call (.c (.fn 13 [])) [(.t 98), (.t 99)], .any⟩,
  ⟨(some 101), none, .pick (.t 96) (.t 100) (.c (.bool false)), .any⟩,
  ⟨(some 4), none, .mov (.t 101), .any⟩]
@[reducible] def e6n28 : EC := .seq (.reg e6r27) .ret
@[reducible] def e6n29 : EC := .seq (.reg e6r26) e6n28
@[reducible] def e6n30 : EC := .seq e6n25 e6n29
@[reducible] def e6n31 : EC := .seq (.reg e6r9) e6n30
@[reducible] def e6n32 : EC := .seq (.reg e6r8) e6n31
@[reducible] def e6n33 : EC := .seq (.reg e6r7) e6n32
@[reducible] def e6n34 : EC := .seq (.reg e6r6) e6n33
@[reducible] def e6n35 : EC := .seq e6n5 e6n34
@[reducible] def e6n36 : EC := .seq (.reg e6r0) e6n35
@[reducible] def e6 : EF := ⟨102, 2, [(.inl 4)], e6n36⟩
theorem e6_ok : compFn Tryd.prog {} Tryd.f6 = some e6 := by kernel_rfl
theorem e6_nm : (Tryd.f6.name == "runtime.NumGoroutine") = false := by kernel_rfl
/- yucca/yuccalaw1.BitsLaws -/
@[reducible] def e7r0 : List Ins := [
  ⟨(some 6), none, .mov (.c (.bool false)), .any⟩]
@[reducible] def e7r1 : List Ins := [
  ⟨(some 12), none, .call (.c (.fn 8 [])) [], .any⟩,
  ⟨(some 13), none, .un .not (.t 12), .any⟩]
@[reducible] def e7r2 : List Ins := [
  ⟨(some 6), none, .mov (.c (.bool false)), .any⟩]
@[reducible] def e7n3 : EC := .seq (.reg e7r2) .ret
@[reducible] def e7n4 : EC := .cond (.t 13) e7n3 .skip
@[reducible] def e7n5 : EC := .seq (.reg e7r1) e7n4
@[reducible] def e7r6 : List Ins := [
  ⟨(some 14), none, .mov (.t 0), .any⟩,
  ⟨(some 15), none, .call (.c (.fn 9 [])) [(.t 14), (.c (.int .i64 60))], .any⟩,
  ⟨(some 16), none, .call (.c (.fn 11 [])) [(.t 15)], .any⟩,
  ⟨(some 17), none, .mov (.t 1), .any⟩,
  ⟨(some 18), none, .call (.c (.fn 9 [])) [(.t 17), (.c (.int .i64 60))], .any⟩,
  ⟨(some 19), none, .call (.c (.fn 11 [])) [(.t 18)], .any⟩,
  ⟨(some 20), none, .mov (.t 2), .any⟩,
  ⟨(some 21), none, .call (.c (.fn 9 [])) [(.t 20), (.c (.int .i64 60))], .any⟩,
  ⟨(some 22), none, .call (.c (.fn 11 [])) [(.t 21)], .any⟩,
  ⟨(some 7), none, .alloc 16 (.agg [(.int .u64 0), (.int .u64 0), (.int .u64 0), (.int .u64 0), (.int .u64 0), (.int .u64 0), (.int .u64 0), (.int .u64 0), (.int .u64 0), (.int .u64 0), (.int .u64 0), (.int .u64 0), (.int .u64 0), (.int .u64 0), (.int .u64 0), (.int .u64 0)]), .any⟩,
  ⟨(some 8), none, .alloc 16 (.agg [(.int .u64 0), (.int .u64 0), (.int .u64 0), (.int .u64 0), (.int .u64 0), (.int .u64 0), (.int .u64 0), (.int .u64 0), (.int .u64 0), (.int .u64 0), (.int .u64 0), (.int .u64 0), (.int .u64 0), (.int .u64 0), (.int .u64 0), (.int .u64 0)]), .any⟩,
  ⟨(some 9), none, .alloc 16 (.agg [(.int .u64 0), (.int .u64 0), (.int .u64 0), (.int .u64 0), (.int .u64 0), (.int .u64 0), (.int .u64 0), (.int .u64 0), (.int .u64 0), (.int .u64 0), (.int .u64 0), (.int .u64 0), (.int .u64 0), (.int .u64 0), (.int .u64 0), (.int .u64 0)]), .any⟩,
  ⟨none, none, .store 16 (.t 7) (.t 16), .any⟩,
  ⟨none, none, .store 16 (.t 8) (.t 19), .any⟩,
  ⟨none, none, .store 16 (.t 9) (.t 22), .any⟩]
@[reducible] def e7r7 : List Ins := [
  ⟨(some 23), none, .load true 16 (.t 7), .r⟩,
  ⟨(some 24), none, .load true 16 (.t 8), .r⟩,
  ⟨(some 25), none, .load true 16 (.t 9), .r⟩,
  ⟨(some 26), none, .call (.c (.fn 22 [])) [(.t 24), (.t 25)], .r⟩,
  ⟨(some 27), none, .call (.c (.fn 23 [])) [(.t 23), (.t 26)], .r⟩,
  ⟨(some 10), none, .alloc 16 (.agg [(.int .u64 0), (.int .u64 0), (.int .u64 0), (.int .u64 0), (.int .u64 0), (.int .u64 0), (.int .u64 0), (.int .u64 0), (.int .u64 0), (.int .u64 0), (.int .u64 0), (.int .u64 0), (.int .u64 0), (.int .u64 0), (.int .u64 0), (.int .u64 0)]), .a⟩,
  ⟨none, none, .store 16 (.t 10) (.t 27), .w⟩]
@[reducible] def e7r8 : List Ins := [
  ⟨(some 28), none, .load true 16 (.t 7), .r⟩,
  ⟨(some 29), none, .load true 16 (.t 8), .r⟩,
  ⟨(some 30), none, .call (.c (.fn 23 [])) [(.t 28), (.t 29)], .r⟩,
  ⟨(some 31), none, .load true 16 (.t 7), .r⟩,
  ⟨(some 32), none, .load true 16 (.t 9), .r⟩,
  ⟨(some 33), none, .call (.c (.fn 23 [])) [(.t 31), (.t 32)], .r⟩,
  ⟨(some 34), none, .call (.c (.fn 22 [])) [(.t 30), (.t 33)], .r⟩,
  ⟨(some 11), none, .alloc 16 (.agg [(.int .u64 0), (.int .u64 0), (.int .u64 0), (.int .u64 0), (.int .u64 0), (.int .u64 0), (.int .u64 0), (.int .u64 0), (.int .u64 0), (.int .u64 0), (.int .u64 0), (.int .u64 0), (.int .u64 0), (.int .u64 0), (.int .u64 0), (.int .u64 0)]), .a⟩,
  ⟨none, none, .store 16 (.t 11) (.t 34), .w⟩]
@[reducible] def e7r9 : List Ins := [
  ⟨(some 35), none, .load true 16 (.t 10), .r⟩,
  ⟨(some 36), none, .load true 16 (.t 11), .r⟩,
  ⟨(some 37), none, .call (.c (.fn 25 [])) [(.t 35), (.t 36)], .r⟩,
  ⟨(some 38), none, .mov (.t 37), .n⟩,
  ⟨(some 39), (some (38, true)), .load true 16 (.t 7), .r⟩,
  ⟨(some 40), (some (38, true)), .load true 16 (.t 8), .r⟩,
  ⟨(some 41), (some (38, true)), .call (.c (.fn 23 [])) [(.t 39), (.t 40)], .r⟩,
  ⟨(some 42), (some (38, true)), .load true 16 (.t 7), .r⟩,
  ⟨(some 43), (some (38, true)), .load true 16 (.t 8), .r⟩,
  ⟨(some 44), (some (38, true)), .call (.c (.fn 24 [])) [(.t 42), (.t 43)], .r⟩,
  ⟨(some 45), (some (38, true)), .call (.c (.fn 22 [])) [(.t 41), (.t 44)], .r⟩,
  ⟨(some 46), (some (38, true)), .load true 16 (.t 7), .r⟩,
  ⟨(some 47), (some (38, true)), .call (.c (.fn 25 [])) [(.t 45), (.t 46)], .r⟩,
  ⟨(some 48), none, .pick (.t 38) (.t 47) (.c (.bool false)), .n⟩,
  ⟨(some 49), none, .mov (.t 48), .n⟩,
  ⟨(some 50), (some (49, true)), .load true 16 (.t 7), .r⟩,
  ⟨(some 51), (some (49, true)), .load true 16 (.t 8), .r⟩,
  ⟨(some 52), (some (49, true)), .call (.c (.fn 22 [])) [(.t 50), (.t 51)], .r⟩,
  ⟨(some 53), (some (49, true)), .call (.c (.fn 14 [])) [(.t 52)], .r⟩,
  ⟨(some 54), (some (49, true)), .load true 16 (.t 7), .r⟩,
  ⟨(some 55), (some (49, true)), .load true 16 (.t 8), .r⟩,
  ⟨(some 56), (some (49, true)), .call (.c (.fn 23 [])) [(.t 54), (.t 55)], .r⟩,
  ⟨(some 57), (some (49, true)), .call (.c (.fn 14 [])) [(.t 56)], .r⟩,
  ⟨(some 58), (some (49, true)), .bin .add (.t 53) (.t 57), .n⟩,
  ⟨(some 59), (some (49, true)), .load true 16 (.t 7), .r⟩,
  ⟨(some 60), (some (49, true)), .call (.c (.fn 14 [])) [(.t 59)], .r⟩,
  ⟨(some 61), (some (49, true)), .load true 16 (.t 8), .r⟩,
  ⟨(some 62), (some (49, true)), .call (.c (.fn 14 [])) [(.t 61)], .r⟩,
  ⟨(some 63), (some (49, true)), .bin .add (.t 60) (.t 62), .n⟩,
  ⟨(some 64), (some (49, true)), .bin .eql (.t 58) (.t 63), .n⟩,
  ⟨(some 65), none, .pick (.t 49) (.t 64) (.c (.bool false)), .n⟩,
  ⟨(some 66), none, .mov (.t 65), .n⟩,
  ⟨(some 67), (some (66, true)), .load true 16 (.t 7), .r⟩,
  ⟨(some 68), (some (66, true)), .load true 16 (.t 7), .r⟩,
  ⟨(some 69), (some (66, true)), .call (.c (.fn 24 [])) [(.t 67), (.t 68)], .r⟩,
  ⟨(some 70), (some (66, true)), .call (.c (.fn 14 [])) [(.t 69)], .r⟩,
  ⟨(some 71), (some (66, true)), .bin .eql (.t 70) (.c (.int .i64 0)), .n⟩,
  ⟨(some 72), none, .pick (.t 66) (.t 71) (.c (.bool false)), .n⟩,
  ⟨(some 6), none, .mov (.t 72), .n⟩]
@[reducible] def e7n10 : EC := .seq (.reg e7r9) .ret
@[reducible] def e7n11 : EC := .seq (.reg e7r8) e7n10
@[reducible] def e7n12 : EC := .seq (.reg e7r7) e7n11
@[reducible] def e7n13 : EC := .seq (.reg e7r6) e7n12
@[reducible] def e7n14 : EC := .seq e7n5 e7n13
@[reducible] def e7n15 : EC := .seq (.reg e7r0) e7n14
@[reducible] def e7 : EF := ⟨73, 3, [(.inl 6)], e7n15⟩
theorem e7_ok : compFn Tryd.prog {} Tryd.f7 = some e7 := by kernel_rfl
theorem e7_nm : (Tryd.f7.name == "runtime.NumGoroutine") = false := by kernel_rfl
/- yucca/yuccalaw1.wakes -/
@[reducible] def e8r0 : List Ins := [
  ⟨(some 0), none, .mov (.c (.bool false)), .any⟩]
@[reducible] def e8r1 : List Ins := [
  ⟨(some 4), none, .lit false 1 false (.int .i64 0) 4 [(0, (.c (.int .i64 5))), (1, (.c (.int .i64 1))), (2, (.c (.int .i64 2000))), (3, (.c (.int .i64 1)))], .any⟩,
  ⟨(some 5), none, .call (.c (.fn 11 [])) [(.t 4)], .any⟩,
  ⟨(some 1), none, .alloc 16 (.agg [(.int .u64 0), (.int .u64 0), (.int .u64 0), (.int .u64 0), (.int .u64 0), (.int .u64 0), (.int .u64 0), (.int .u64 0), (.int .u64 0), (.int .u64 0), (.int .u64 0), (.int .u64 0), (.int .u64 0), (.int .u64 0), (.int .u64 0), (.int .u64 0)]), .any⟩,
  ⟨none, none, .store 16 (.t 1) (.t 5), .any⟩]
@[reducible] def e8r2 : List Ins := [
  ⟨(some 7), none, .call (.c (.fn 18 [])) [(.c (.int .i64 4))], .any⟩,
  ⟨(some 6), none, .mov (.t 7), .any⟩,
  ⟨(some 8), none, .ext (.t 6) 0, .any⟩,
  ⟨(some 9), none, .ext (.t 6) 1, .any⟩,
  ⟨(some 2), none, .mov (.t 8), .any⟩,
  ⟨(some 3), none, .mov (.t 9), .any⟩]
@[reducible] def e8r3 : List Ins := [
  ⟨(some 10), none, .load true 16 (.t 1), .any⟩,
  ⟨(some 11), none, .call (.c (.fn 15 [])) [(.t 10), (.c (.int .i64 5))], .any⟩,
  ⟨(some 12), none, .mov (.t 11), .any⟩,
  ⟨(some 13), (some (12, true)), .load true 16 (.t 1), .any⟩,
  ⟨(some 14), (some (12, true)), .call (.c (.fn 15 [])) [(.t 13), (.c (.int .i64 2000))], .any⟩,
  ⟨(some 15), (some (12, true)), .un .not (.t 14), .any⟩,
  ⟨(some 16), none, .pick (.t 12) (.t 15) (.c (.bool false)), .any⟩,
  ⟨(some 17), none, .mov (.t 16), .any⟩,
  ⟨(some 18), (some (17, true)), .load true 16 (.t 1), .any⟩,
  ⟨(some 19), (some (17, true)), .call (.c (.fn 14 [])) [(.t 18)], .any⟩,
  ⟨(some 20), (some (17, true)), .bin .eql (.t 19) (.c (.int .i64 2)), .any⟩,
  ⟨(some 21), none, .pick (.t 17) (.t 20) (.c (.bool false)), .any⟩,
  ⟨(some 22), none, .mov (.t 21), .any⟩,
  ⟨(some 23), (some (22, true)), .load true 16 (.t 1), .any⟩,
  ⟨(some 24), (some (22, true)), .call (.c (.fn 12 [])) [(.t 23)], .any⟩,
  ⟨(some 25), (some (22, true)), .lit false 1 false (.int .i64 0) 2 [(0, (.c (.int .i64 1))), (1, (.c (.int .i64 5)))], .any⟩,
  ⟨(some 26), (some (22, true)), .call (.c (.fn 13 [])) [(.t 24), (.t 25)], .any⟩,
  ⟨(some 27), none, .pick (.t 22) (.t 26) (.c (.bool false)), .any⟩,
  ⟨(some 28), none, .mov (.t 27), .any⟩,
  ⟨(some 29), (some (28, true)), .call (.c (.fn 20 [])) [(.c (.int .i64 1)), (.c (.int .i64 1))], .any⟩,
  ⟨(some 30), (some (28, true)), .bin .eql (.t 29) (.c (.int .i64 4)), .any⟩,
  ⟨(some 31), none, .pick (.t 28) (.t 30) (.c (.bool false)), .any⟩,
  ⟨(some 32), none, .mov (.t 31), .any⟩,
  ⟨(some 33), (some (32, true)), .mov (.t 2), .any⟩,
  ⟨(some 34), (some (32, true)), .bin .eql (.t 33) (.c (.int .i64 1)), .any⟩,
  ⟨(some 35), none, .pick (.t 32) (.t 34) (.c (.bool false)), .any⟩,
  ⟨(some 36), none, .mov (.t 35), .any⟩,
  ⟨(some 37), (some (36, true)), .mov (.t 3), .any⟩,
  ⟨(some 38), (some (36, true)), .bin .eql (.t 37) (.c (.int .i64 1)), .any⟩,
  ⟨(some 39), none, .pick (.t 36) (.t 38) (.c (.bool false)), .any⟩,
  ⟨(some 40), none, .mov (.t 39), .any⟩,
  ⟨(some 41), (some (40, true)), .call (.c (.fn 20 [])) [(.c (.int .i64 (-1))), (.c (.int .i64 3))], .any⟩,
  ⟨(some 42), (some (40, true)), .bin .eql (.t 41) (.c (.int .i64 (-1))), .any⟩,
  ⟨(some 43), none, .pick (.t 40) (.t 42) (.c (.bool false)), .any⟩,
  ⟨(some 0), none, .mov (.t 43), .any⟩]
@[reducible] def e8n4 : EC := .seq (.reg e8r3) .ret
@[reducible] def e8n5 : EC := .seq (.reg e8r2) e8n4
@[reducible] def e8n6 : EC := .seq (.reg e8r1) e8n5
@[reducible] def e8n7 : EC := .seq (.reg e8r0) e8n6
@[reducible] def e8 : EF := ⟨44, 0, [(.inl 0)], e8n7⟩
theorem e8_ok : compFn Tryd.prog {} Tryd.f8 = some e8 := by kernel_rfl
theorem e8_nm : (Tryd.f8.name == "runtime.NumGoroutine") = false := by kernel_rfl
/- yucca/yuccalaw0.Ints -/
@[reducible] def e9r0 : List Ins := [
  ⟨(some 4), none, .mov (.c (.sl 1 true [])), .any⟩]
@[reducible] def e9r1 : List Ins := [
  ⟨(some 5), none, .mov (.t 0), .any⟩,
  ⟨(some 6), none, .len (.t 5), .any⟩,
  ⟨(some 7), none, .mov (.t 1), .any⟩,
  ⟨(some 8), none, .bin .gtr (.t 6) (.t 7), .any⟩]
@[reducible] def e9r2 : List Ins := [
  ⟨(some 9), none, .mov (.t 0), .any⟩,
  ⟨(some 10), none, .mov (.t 1), .any⟩,
  ⟨(some 11), none, .slc 1 (.t 9) none (some (.t 10)) none, .any⟩,
  ⟨(some 4), none, .mov (.t 11), .any⟩]
@[reducible] def e9n3 : EC := .seq (.reg e9r2) .ret
@[reducible] def e9n4 : EC := .cond (.t 8) e9n3 .skip
@[reducible] def e9n5 : EC := .seq (.reg e9r1) e9n4
@[reducible] def e9r6 : List Ins := [
  ⟨(some 12), none, .mov (.t 0), .any⟩,
  ⟨(some 4), none, .mov (.t 12), .any⟩]
@[reducible] def e9n7 : EC := .seq (.reg e9r6) .ret
@[reducible] def e9n8 : EC := .seq e9n5 e9n7
@[reducible] def e9n9 : EC := .seq (.reg e9r0) e9n8
@[reducible] def e9 : EF := ⟨13, 2, [(.inl 4)], e9n9⟩
theorem e9_ok : compFn Tryd.prog {} Tryd.f9 = some e9 := by kernel_rfl
theorem e9_nm : (Tryd.f9.name == "runtime.NumGoroutine") = false := by kernel_rfl
/- yucca/yuccaref1.Set -/
@[reducible] def e10r0 : List Ins := [
  ⟨(some 2), none, .mov (.c (.sl 1 true [])), .any⟩]
@[reducible] def e10r1 : List Ins := [
  ⟨(some 3), none, .mov (.c (.sl 1 true [])), .any⟩]
@[reducible] def e10r2 : List Ins := [
  ⟨(some 4), none, .mov (.c (.int .i64 0)), .any⟩]
@[reducible] def e10r3 : List Ins := [
  ⟨(some 5), none, .mov (.t 4), .any⟩,
  ⟨(some 6), none, .mov (.t 0), .any⟩,
  ⟨(some 7), none, .len (.t 6), .any⟩,
  ⟨(some 8), none, .bin .lss (.t 5) (.t 7), .any⟩]
@[reducible] def e10n4 : EC := .cond (.t 8) .skip (.exit 0)
@[reducible] def e10n5 : EC := .seq (.reg e10r3) e10n4
@[reducible] def e10r6 : List Ins := [
  ⟨(some 11), none, .mov (.t 0), .any⟩,
  ⟨(some 12), none, .mov (.t 4), .any⟩,
  ⟨(some 13), none, .iaddr 1 (.t 11) (.t 12), .any⟩,
  ⟨(some 14), none, .load false 1 (.t 13), .any⟩,
  ⟨(some 15), none, .bin .geq (.t 14) (.c (.int .i64 0)), .any⟩,
  ⟨(some 16), none, .mov (.t 15), .any⟩,
  ⟨(some 17), (some (16, true)), .mov (.t 0), .any⟩,
  ⟨(some 18), (some (16, true)), .mov (.t 4), .any⟩,
  ⟨(some 19), (some (16, true)), .iaddr 1 (.t 17) (.t 18), .any⟩,
  ⟨(some 20), (some (16, true)), .load false 1 (.t 19), .any⟩,
  ⟨(some 21), (some (16, true)), .bin .lss (.t 20) (.c (.int .i64 1024)), .any⟩,
  ⟨(some 22), none, .pick (.t 16) (.t 21) (.c (.bool false)), .any⟩]
@[reducible] def e10r7 : List Ins := [
  ⟨(some 23), none, .mov (.t 3), .any⟩,
  ⟨(some 24), none, .mov (.t 0), .any⟩,
  ⟨(some 25), none, .mov (.t 4), .any⟩,
  ⟨(some 26), none, .iaddr 1 (.t 24) (.t 25), .any⟩,
  ⟨(some 27), none, .load false 1 (.t 26), .any⟩,
  ⟨(some 28), none, .call (.c (.fn 26 [])) [(.t 23), (.t 27)], .any⟩,
  ⟨(some 3), none, .mov (.t 28), .any⟩]
@[reducible] def e10n8 : EC := .cond (.t 22) (.reg e10r7) .skip
@[reducible] def e10n9 : EC := .seq (.reg e10r6) e10n8
@[reducible] def e10n10 : EC := .block 1 e10n9
@[reducible] def e10r11 : List Ins := [
  ⟨(some 9), none, .mov (.t 4), .any⟩,
  ⟨(some 10), none, .bin .add (.t 9) (.c (.int .i64 1)), .any⟩,
  ⟨(some 4), none, .mov (.t 10), .any⟩]
@[reducible] def e10n12 : EC := .seq e10n10 (.reg e10r11)
@[reducible] def e10n13 : EC := .seq e10n5 e10n12
@[reducible] def e10n14 : EC := .loop e10n13
@[reducible] def e10n15 : EC := .block 0 e10n14
@[reducible] def e10n16 : EC := .seq (.reg e10r2) e10n15
@[reducible] def e10r17 : List Ins := [
  ⟨(some 29), none, .mov (.t 3), .any⟩,
  ⟨(some 2), none, .mov (.t 29), .any⟩]
@[reducible] def e10n18 : EC := .seq (.reg e10r17) .ret
@[reducible] def e10n19 : EC := .seq e10n16 e10n18
@[reducible] def e10n20 : EC := .seq (.reg e10r1) e10n19
@[reducible] def e10n21 : EC := .seq (.reg e10r0) e10n20
@[reducible] def e10 : EF := ⟨30, 1, [(.inl 2)], e10n21⟩
theorem e10_ok : compFn Tryd.prog {} Tryd.f10 = some e10 := by kernel_rfl
theorem e10_nm : (Tryd.f10.name == "runtime.NumGoroutine") = false := by kernel_rfl
/- yucca/bits.Of -/
@[reducible] def e11r0 : List Ins := [
  ⟨(some 2), none, .alloc 16 (.agg [(.int .u64 0), (.int .u64 0), (.int .u64 0), (.int .u64 0), (.int .u64 0), (.int .u64 0), (.int .u64 0), (.int .u64 0), (.int .u64 0), (.int .u64 0), (.int .u64 0), (.int .u64 0), (.int .u64 0), (.int .u64 0), (.int .u64 0), (.int .u64 0)]), .any⟩]
@[reducible] def e11r1 : List Ins := [
  ⟨(some 3), none, .alloc 16 (.agg [(.int .u64 0), (.int .u64 0), (.int .u64 0), (.int .u64 0), (.int .u64 0), (.int .u64 0), (.int .u64 0), (.int .u64 0), (.int .u64 0), (.int .u64 0), (.int .u64 0), (.int .u64 0), (.int .u64 0), (.int .u64 0), (.int .u64 0), (.int .u64 0)]), .any⟩]
@[reducible] def e11r2 : List Ins := [
  ⟨(some 6), none, .mov (.t 0), .any⟩,
  ⟨(some 7), none, .len (.t 6), .any⟩,
  ⟨(some 8), none, .mov (.c (.int .i64 0)), .any⟩]
@[reducible] def e11r3 : List Ins := [
  ⟨(some 9), none, .bin .lss (.t 8) (.t 7), .any⟩]
@[reducible] def e11n4 : EC := .cond (.t 9) .skip (.exit 0)
@[reducible] def e11r5 : List Ins := [
  ⟨(some 10), none, .iaddr 1 (.t 6) (.t 8), .any⟩,
  ⟨(some 11), none, .load false 1 (.t 10), .any⟩,
  ⟨(some 5), none, .mov (.t 11), .any⟩]
@[reducible] def e11r6 : List Ins := [
  ⟨(some 12), none, .mov (.t 5), .any⟩,
  ⟨(some 13), none, .call (.c (.fn 27 [])) [(.t 12)], .any⟩]
@[reducible] def e11r7 : List Ins := [
  ⟨(some 14), none, .mov (.t 5), .n⟩,
  ⟨(some 15), none, .bin .quo (.t 14) (.c (.int .i64 64)), .n⟩,
  ⟨(some 16), none, .faddr 0 (.t 3), .n⟩,
  ⟨(some 17), none, .iaddrA 16 1 (.t 16) (.t 15), .n⟩,
  ⟨(some 18), none, .load false 1 (.t 17), .r⟩,
  ⟨(some 19), none, .mov (.t 5), .n⟩,
  ⟨(some 20), none, .bin .rem (.t 19) (.c (.int .i64 64)), .n⟩,
  ⟨(some 21), none, .bin .shl (.c (.int .u64 1)) (.t 20), .n⟩,
  ⟨(some 22), none, .bin .or (.t 18) (.t 21), .n⟩,
  ⟨(some 23), none, .faddr 0 (.t 3), .n⟩,
  ⟨(some 24), none, .iaddrA 16 1 (.t 23) (.t 15), .n⟩,
  ⟨none, none, .store 1 (.t 24) (.t 22), .w⟩]
@[reducible] def e11n8 : EC := .cond (.t 13) (.reg e11r7) .skip
@[reducible] def e11n9 : EC := .seq (.reg e11r6) e11n8
@[reducible] def e11n10 : EC := .seq (.reg e11r5) e11n9
@[reducible] def e11n11 : EC := .block 1 e11n10
@[reducible] def e11r12 : List Ins := [
  ⟨(some 25), none, .bin .add (.t 8) (.c (.int .i64 1)), .any⟩,
  ⟨(some 8), none, .mov (.t 25), .any⟩]
@[reducible] def e11n13 : EC := .seq e11n11 (.reg e11r12)
@[reducible] def e11n14 : EC := .seq e11n4 e11n13
@[reducible] def e11n15 : EC := .seq (.reg e11r3) e11n14
@[reducible] def e11n16 : EC := .loop e11n15
@[reducible] def e11n17 : EC := .block 0 e11n16
@[reducible] def e11n18 : EC := .seq (.reg e11r2) e11n17
@[reducible] def e11r19 : List Ins := [
  ⟨(some 26), none, .load true 16 (.t 3), .any⟩,
  ⟨none, none, .store 16 (.t 2) (.t 26), .any⟩]
@[reducible] def e11n20 : EC := .seq (.reg e11r19) .ret
@[reducible] def e11n21 : EC := .seq e11n18 e11n20
@[reducible] def e11n22 : EC := .seq (.reg e11r1) e11n21
@[reducible] def e11n23 : EC := .seq (.reg e11r0) e11n22
@[reducible] def e11 : EF := ⟨27, 1, [(.inr (2, true, 16))], e11n23⟩
theorem e11_ok : compFn Tryd.prog {} Tryd.f11 = some e11 := by kernel_rfl
theorem e11_nm : (Tryd.f11.name == "runtime.NumGoroutine") = false := by kernel_rfl
/- (yucca/bits.Set).List -/
@[reducible] def e12r0 : List Ins := [
  ⟨(some 1), none, .box 16 (.t 0), .any⟩,
  ⟨(some 2), none, .mov (.c (.sl 1 true [])), .any⟩]
@[reducible] def e12r1 : List Ins := [
  ⟨(some 3), none, .mov (.c (.sl 1 true [])), .any⟩]
@[reducible] def e12r2 : List Ins := [
  ⟨(some 6), none, .faddr 0 (.t 1), .any⟩,
  ⟨(some 7), none, .load true 16 (.t 6), .any⟩,
  ⟨(some 8), none, .mov (.c (.int .i64 0)), .any⟩]
@[reducible] def e12r3 : List Ins := [
  ⟨(some 9), none, .bin .lss (.t 8) (.c (.int .i64 16)), .any⟩]
@[reducible] def e12n4 : EC := .cond (.t 9) .skip (.exit 0)
@[reducible] def e12r5 : List Ins := [
  ⟨(some 10), none, .mov (.t 8), .any⟩,
  ⟨(some 11), none, .idxA false 16 1 (.t 7) (.t 8), .any⟩,
  ⟨(some 4), none, .mov (.t 10), .any⟩,
  ⟨(some 5), none, .mov (.t 11), .any⟩]
@[reducible] def e12r6 : List Ins := [
  ⟨(some 12), none, .mov (.t 5), .any⟩,
  ⟨(some 13), none, .bin .neq (.t 12) (.c (.int .u64 0)), .any⟩]
@[reducible] def e12n7 : EC := .cond (.t 13) .skip (.exit 2)
@[reducible] def e12n8 : EC := .seq (.reg e12r6) e12n7
@[reducible] def e12r9 : List Ins := [
  ⟨(some 18), none, .mov (.t 3), .any⟩,
  ⟨(some 19), none, .mov (.t 4), .any⟩,
  ⟨(some 20), none, .bin .mul (.t 19) (.c (.int .i64 64)), .any⟩,
  ⟨(some 21), none, .mov (.t 5), .any⟩,
  ⟨(some 22), none, .call (.c (.fn 28 [])) [(.t 21)], .any⟩,
  ⟨(some 23), none, .bin .add (.t 20) (.t 22), .any⟩,
  ⟨(some 24), none, .lit false 1 false (.int .i64 0) 1 [(0, (.t 23))], .any⟩,
  ⟨(some 25), none, .append false 1 8 (.t 18) (.t 24), .any⟩,
  ⟨(some 3), none, .mov (.t 25), .any⟩]
@[reducible] def e12n10 : EC := .block 3 (.reg e12r9)
@[reducible] def e12r11 : List Ins := [
  ⟨(some 14), none, .mov (.t 5), .any⟩,
  ⟨(some 15), none, .mov (.t 5), .any⟩,
  ⟨(some 16), none, .bin .sub (.t 15) (.c (.int .u64 1)), .any⟩,
  ⟨(some 17), none, .bin .and (.t 14) (.t 16), .any⟩,
  ⟨(some 5), none, .mov (.t 17), .any⟩]
@[reducible] def e12n12 : EC := .seq e12n10 (.reg e12r11)
@[reducible] def e12n13 : EC := .seq e12n8 e12n12
@[reducible] def e12n14 : EC := .loop e12n13
@[reducible] def e12n15 : EC := .block 2 e12n14
@[reducible] def e12n16 : EC := .seq (.reg e12r5) e12n15
@[reducible] def e12n17 : EC := .block 1 e12n16
@[reducible] def e12r18 : List Ins := [
  ⟨(some 26), none, .bin .add (.t 8) (.c (.int .i64 1)), .any⟩,
  ⟨(some 8), none, .mov (.t 26), .any⟩]
@[reducible] def e12n19 : EC := .seq e12n17 (.reg e12r18)
@[reducible] def e12n20 : EC := .seq e12n4 e12n19
@[reducible] def e12n21 : EC := .seq (.reg e12r3) e12n20
@[reducible] def e12n22 : EC := .loop e12n21
@[reducible] def e12n23 : EC := .block 0 e12n22
@[reducible] def e12n24 : EC := .seq (.reg e12r2) e12n23
@[reducible] def e12r25 : List Ins := [
  ⟨(some 27), none, .mov (.t 3), .any⟩,
  ⟨(some 2), none, .mov (.t 27), .any⟩]
@[reducible] def e12n26 : EC := .seq (.reg e12r25) .ret
@[reducible] def e12n27 : EC := .seq e12n24 e12n26
@[reducible] def e12n28 : EC := .seq (.reg e12r1) e12n27
@[reducible] def e12n29 : EC := .seq (.reg e12r0) e12n28
@[reducible] def e12 : EF := ⟨28, 1, [(.inl 2)], e12n29⟩
theorem e12_ok : compFn Tryd.prog {} Tryd.f12 = some e12 := by kernel_rfl
theorem e12_nm : (Tryd.f12.name == "runtime.NumGoroutine") = false := by kernel_rfl
/- yucca/yuccaref0.EqInts -/
@[reducible] def e13r0 : List Ins := [
  ⟨(some 4), none, .mov (.c (.bool false)), .any⟩]
@[reducible] def e13r1 : List Ins := [
  ⟨(some 6), none, .mov (.t 0), .any⟩,
  ⟨(some 7), none, .len (.t 6), .any⟩,
  ⟨(some 8), none, .mov (.t 1), .any⟩,
  ⟨(some 9), none, .len (.t 8), .any⟩,
  ⟨(some 10), none, .bin .neq (.t 7) (.t 9), .any⟩]
@[reducible] def e13r2 : List Ins := [
  ⟨(some 4), none, .mov (.c (.bool false)), .any⟩]
@[reducible] def e13n3 : EC := .seq (.reg e13r2) .ret
@[reducible] def e13n4 : EC := .cond (.t 10) e13n3 .skip
@[reducible] def e13n5 : EC := .seq (.reg e13r1) e13n4
@[reducible] def e13r6 : List Ins := [
  ⟨(some 5), none, .mov (.c (.int .i64 0)), .any⟩]
@[reducible] def e13r7 : List Ins := [
  ⟨(some 11), none, .mov (.t 5), .any⟩,
  ⟨(some 12), none, .mov (.t 0), .any⟩,
  ⟨(some 13), none, .len (.t 12), .any⟩,
  ⟨(some 14), none, .bin .lss (.t 11) (.t 13), .any⟩]
@[reducible] def e13n8 : EC := .cond (.t 14) .skip (.exit 0)
@[reducible] def e13n9 : EC := .seq (.reg e13r7) e13n8
@[reducible] def e13r10 : List Ins := [
  ⟨(some 17), none, .mov (.t 0), .n⟩,
  ⟨(some 18), none, .mov (.t 5), .n⟩,
  ⟨(some 19), none, .iaddr 1 (.t 17) (.t 18), .n⟩,
  ⟨(some 20), none, .load false 1 (.t 19), .r⟩,
  ⟨(some 21), none, .mov (.t 1), .n⟩,
  ⟨(some 22), none, .mov (.t 5), .n⟩,
  ⟨(some 23), none, .iaddr 1 (.t 21) (.t 22), .n⟩,
  ⟨(some 24), none, .load false 1 (.t 23), .r⟩,
  ⟨(some 25), none, .bin .neq (.t 20) (.t 24), .n⟩]
@[reducible] def e13r11 : List Ins := [
  ⟨(some 4), none, .mov (.c (.bool false)), .any⟩]
@[reducible] def e13n12 : EC := .seq (.reg e13r11) .ret
@[reducible] def e13n13 : EC := .cond (.t 25) e13n12 .skip
@[reducible] def e13n14 : EC := .seq (.reg e13r10) e13n13
@[reducible] def e13n15 : EC := .block 1 e13n14
@[reducible] def e13r16 : List Ins := [
  ⟨(some 15), none, .mov (.t 5), .any⟩,
  ⟨(some 16), none, .bin .add (.t 15) (.c (.int .i64 1)), .any⟩,
  ⟨(some 5), none, .mov (.t 16), .any⟩]
@[reducible] def e13n17 : EC := .seq e13n15 (.reg e13r16)
@[reducible] def e13n18 : EC := .seq e13n9 e13n17
@[reducible] def e13n19 : EC := .loop e13n18
@[reducible] def e13n20 : EC := .block 0 e13n19
@[reducible] def e13n21 : EC := .seq (.reg e13r6) e13n20
@[reducible] def e13r22 : List Ins := [
  ⟨(some 4), none, .mov (.c (.bool true)), .any⟩]
@[reducible] def e13n23 : EC := .seq (.reg e13r22) .ret
@[reducible] def e13n24 : EC := .seq e13n21 e13n23
@[reducible] def e13n25 : EC := .seq e13n5 e13n24
@[reducible] def e13n26 : EC := .seq (.reg e13r0) e13n25
@[reducible] def e13 : EF := ⟨26, 2, [(.inl 4)], e13n26⟩
theorem e13_ok : compFn Tryd.prog {} Tryd.f13 = some e13 := by kernel_rfl
theorem e13_nm : (Tryd.f13.name == "runtime.NumGoroutine") = false := by kernel_rfl
/- (yucca/bits.Set).Len -/
@[reducible] def e14r0 : List Ins := [
  ⟨(some 1), none, .box 16 (.t 0), .any⟩,
  ⟨(some 2), none, .mov (.c (.int .i64 0)), .any⟩]
@[reducible] def e14r1 : List Ins := [
  ⟨(some 3), none, .mov (.c (.int .i64 0)), .any⟩]
@[reducible] def e14r2 : List Ins := [
  ⟨(some 6), none, .faddr 0 (.t 1), .any⟩,
  ⟨(some 7), none, .load true 16 (.t 6), .any⟩,
  ⟨(some 8), none, .mov (.c (.int .i64 0)), .any⟩]
@[reducible] def e14r3 : List Ins := [
  ⟨(some 9), none, .bin .lss (.t 8) (.c (.int .i64 16)), .any⟩]
@[reducible] def e14n4 : EC := .cond (.t 9) .skip (.exit 0)
@[reducible] def e14r5 : List Ins := [
  ⟨(some 10), none, .idxA false 16 1 (.t 7) (.t 8), .any⟩,
  ⟨(some 5), none, .mov (.t 10), .any⟩]
@[reducible] def e14r6 : List Ins := [
  ⟨(some 11), none, .mov (.t 3), .any⟩,
  ⟨(some 12), none, .mov (.t 5), .any⟩,
  ⟨(some 13), none, .call (.c (.fn 29 [])) [(.t 12)], .any⟩,
  ⟨(some 14), none, .bin .add (.t 11) (.t 13), .any⟩,
  ⟨(some 3), none, .mov (.t 14), .any⟩]
@[reducible] def e14n7 : EC := .seq (.reg e14r5) (.reg e14r6)
@[reducible] def e14n8 : EC := .block 1 e14n7
@[reducible] def e14r9 : List Ins := [
  ⟨(some 15), none, .bin .add (.t 8) (.c (.int .i64 1)), .any⟩,
  ⟨(some 8), none, .mov (.t 15), .any⟩]
@[reducible] def e14n10 : EC := .seq e14n8 (.reg e14r9)
@[reducible] def e14n11 : EC := .seq e14n4 e14n10
@[reducible] def e14n12 : EC := .seq (.reg e14r3) e14n11
@[reducible] def e14n13 : EC := .loop e14n12
@[reducible] def e14n14 : EC := .block 0 e14n13
@[reducible] def e14n15 : EC := .seq (.reg e14r2) e14n14
@[reducible] def e14r16 : List Ins := [
  ⟨(some 16), none, .mov (.t 3), .any⟩,
  ⟨(some 2), none, .mov (.t 16), .any⟩]
@[reducible] def e14n17 : EC := .seq (.reg e14r16) .ret
@[reducible] def e14n18 : EC := .seq e14n15 e14n17
@[reducible] def e14n19 : EC := .seq (.reg e14r1) e14n18
@[reducible] def e14n20 : EC := .seq (.reg e14r0) e14n19
@[reducible] def e14 : EF := ⟨17, 1, [(.inl 2)], e14n20⟩
theorem e14_ok : compFn Tryd.prog {} Tryd.f14 = some e14 := by kernel_rfl
theorem e14_nm : (Tryd.f14.name == "runtime.NumGoroutine") = false := by kernel_rfl
/- (yucca/bits.Set).Has -/
@[reducible] def e15r0 : List Ins := [
  ⟨(some 2), none, .box 16 (.t 0), .any⟩,
  ⟨(some 4), none, .mov (.c (.bool false)), .any⟩]
@[reducible] def e15r1 : List Ins := [
  ⟨(some 5), none, .mov (.t 1), .any⟩,
  ⟨(some 6), none, .call (.c (.fn 27 [])) [(.t 5)], .any⟩,
  ⟨(some 7), none, .mov (.t 6), .any⟩,
  ⟨(some 8), (some (7, true)), .mov (.t 1), .any⟩,
  ⟨(some 9), (some (7, true)), .bin .quo (.t 8) (.c (.int .i64 64)), .any⟩,
  ⟨(some 10), (some (7, true)), .faddr 0 (.t 2), .any⟩,
  ⟨(some 11), (some (7, true)), .iaddrA 16 1 (.t 10) (.t 9), .any⟩,
  ⟨(some 12), (some (7, true)), .load false 1 (.t 11), .any⟩,
  ⟨(some 13), (some (7, true)), .mov (.t 1), .any⟩,
  ⟨(some 14), (some (7, true)), .bin .rem (.t 13) (.c (.int .i64 64)), .any⟩,
  ⟨(some 15), (some (7, true)), .bin .shr (.t 12) (.t 14), .any⟩,
  ⟨(some 16), (some (7, true)), .bin .and (.t 15) (.c (.int .u64 1)), .any⟩,
  ⟨(some 17), (some (7, true)), .bin .eql (.t 16) (.c (.int .u64 1)), .any⟩,
  ⟨(some 18), none, .pick (.t 7) (.t 17) (.c (.bool false)), .any⟩,
  ⟨(some 4), none, .mov (.t 18), .any⟩]
@[reducible] def e15n2 : EC := .seq (.reg e15r1) .ret
@[reducible] def e15n3 : EC := .seq (.reg e15r0) e15n2
@[reducible] def e15 : EF := ⟨19, 2, [(.inl 4)], e15n3⟩
theorem e15_ok : compFn Tryd.prog {} Tryd.f15 = some e15 := by kernel_rfl
theorem e15_nm : (Tryd.f15.name == "runtime.NumGoroutine") = false := by kernel_rfl
/- yucca/yuccaref0.Has -/
@[reducible] def e16r0 : List Ins := [
  ⟨(some 4), none, .mov (.c (.bool false)), .any⟩]
@[reducible] def e16r1 : List Ins := [
  ⟨(some 5), none, .mov (.c (.int .i64 0)), .any⟩]
@[reducible] def e16r2 : List Ins := [
  ⟨(some 6), none, .mov (.t 5), .any⟩,
  ⟨(some 7), none, .mov (.t 0), .any⟩,
  ⟨(some 8), none, .len (.t 7), .any⟩,
  ⟨(some 9), none, .bin .lss (.t 6) (.t 8), .any⟩]
@[reducible] def e16n3 : EC := .cond (.t 9) .skip (.exit 0)
@[reducible] def e16n4 : EC := .seq (.reg e16r2) e16n3
@[reducible] def e16r5 : List Ins := [
  ⟨(some 12), none, .mov (.t 0), .any⟩,
  ⟨(some 13), none, .mov (.t 5), .any⟩,
  ⟨(some 14), none, .iaddr 1 (.t 12) (.t 13), .any⟩,
  ⟨(some 15), none, .load false 1 (.t 14), .any⟩,
  ⟨(some 16), none, .mov (.t 1), .any⟩,
  ⟨(some 17), none, .bin .eql (.t 15) (.t 16), .any⟩]
@[reducible] def e16r6 : List Ins := [
  ⟨(some 4), none, .mov (.c (.bool true)), .any⟩]
@[reducible] def e16n7 : EC := .seq (.reg e16r6) .ret
@[reducible] def e16n8 : EC := .cond (.t 17) e16n7 .skip
@[reducible] def e16n9 : EC := .seq (.reg e16r5) e16n8
@[reducible] def e16n10 : EC := .block 1 e16n9
@[reducible] def e16r11 : List Ins := [
  ⟨(some 10), none, .mov (.t 5), .any⟩,
  ⟨(some 11), none, .bin .add (.t 10) (.c (.int .i64 1)), .any⟩,
  ⟨(some 5), none, .mov (.t 11), .any⟩]
@[reducible] def e16n12 : EC := .seq e16n10 (.reg e16r11)
@[reducible] def e16n13 : EC := .seq e16n4 e16n12
@[reducible] def e16n14 : EC := .loop e16n13
@[reducible] def e16n15 : EC := .block 0 e16n14
@[reducible] def e16n16 : EC := .seq (.reg e16r1) e16n15
@[reducible] def e16r17 : List Ins := [
  ⟨(some 4), none, .mov (.c (.bool false)), .any⟩]
@[reducible] def e16n18 : EC := .seq (.reg e16r17) .ret
@[reducible] def e16n19 : EC := .seq e16n16 e16n18
@[reducible] def e16n20 : EC := .seq (.reg e16r0) e16n19
@[reducible] def e16 : EF := ⟨18, 2, [(.inl 4)], e16n20⟩
theorem e16_ok : compFn Tryd.prog {} Tryd.f16 = some e16 := by kernel_rfl
theorem e16_nm : (Tryd.f16.name == "runtime.NumGoroutine") = false := by kernel_rfl
/- yucca/yuccalaw0.Spoil -/
@[reducible] def e17r0 : List Ins := [
  ⟨(some 2), none, .mov (.c (.int .i64 0)), .any⟩]
@[reducible] def e17r1 : List Ins := [
  ⟨(some 3), none, .mov (.t 2), .any⟩,
  ⟨(some 4), none, .mov (.t 0), .any⟩,
  ⟨(some 5), none, .len (.t 4), .any⟩,
  ⟨(some 6), none, .bin .lss (.t 3) (.t 5), .any⟩]
@[reducible] def e17n2 : EC := .cond (.t 6) .skip (.exit 0)
@[reducible] def e17n3 : EC := .seq (.reg e17r1) e17n2
@[reducible] def e17r4 : List Ins := [
  ⟨(some 9), none, .mov (.t 0), .any⟩,
  ⟨(some 10), none, .mov (.t 2), .any⟩,
  ⟨(some 11), none, .iaddr 1 (.t 9) (.t 10), .any⟩,
  ⟨none, none, .store 1 (.t 11) (.c (.int .i64 (-77))), .any⟩]
@[reducible] def e17n5 : EC := .block 1 (.reg e17r4)
@[reducible] def e17r6 : List Ins := [
  ⟨(some 7), none, .mov (.t 2), .any⟩,
  ⟨(some 8), none, .bin .add (.t 7) (.c (.int .i64 1)), .any⟩,
  ⟨(some 2), none, .mov (.t 8), .any⟩]
@[reducible] def e17n7 : EC := .seq e17n5 (.reg e17r6)
@[reducible] def e17n8 : EC := .seq e17n3 e17n7
@[reducible] def e17n9 : EC := .loop e17n8
@[reducible] def e17n10 : EC := .block 0 e17n9
@[reducible] def e17n11 : EC := .seq (.reg e17r0) e17n10
@[reducible] def e17 : EF := ⟨12, 1, [], e17n11⟩
theorem e17_ok : compFn Tryd.prog {} Tryd.f17 = some e17 := by kernel_rfl
theorem e17_nm : (Tryd.f17.name == "runtime.NumGoroutine") = false := by kernel_rfl
/- yucca/bits.Unpair -/
@[reducible] def e18r0 : List Ins := [
  ⟨(some 2), none, .mov (.c (.int .i64 0)), .any⟩,
  ⟨(some 3), none, .mov (.c (.int .i64 0)), .any⟩]
@[reducible] def e18r1 : List Ins := [
  ⟨(some 6), none, .mov (.t 0), .any⟩,
  ⟨(some 7), none, .bin .lss (.t 6) (.c (.int .i64 0)), .any⟩,
  ⟨(some 8), none, .mov (.t 7), .any⟩,
  ⟨(some 9), (some (8, false)), .mov (.t 0), .any⟩,
  ⟨(some 10), (some (8, false)), .bin .gtr (.t 9) (.c (.int .i64 1998000)), .any⟩,
  ⟨(some 11), none, .pick (.t 8) (.c (.bool true)) (.t 10), .any⟩]
@[reducible] def e18r2 : List Ins := [
  ⟨(some 2), none, .mov (.c (.int .i64 (-1))), .any⟩,
  ⟨(some 3), none, .mov (.c (.int .i64 (-1))), .any⟩]
@[reducible] def e18n3 : EC := .seq (.reg e18r2) .ret
@[reducible] def e18n4 : EC := .cond (.t 11) e18n3 .skip
@[reducible] def e18n5 : EC := .seq (.reg e18r1) e18n4
@[reducible] def e18r6 : List Ins := [
  ⟨(some 4), none, .mov (.c (.int .i64 0)), .any⟩]
@[reducible] def e18r7 : List Ins := [
  ⟨(some 12), none, .mov (.t 4), .any⟩,
  ⟨(some 13), none, .bin .add (.t 12) (.c (.int .i64 1)), .any⟩,
  ⟨(some 14), none, .mov (.t 4), .any⟩,
  ⟨(some 15), none, .bin .add (.t 14) (.c (.int .i64 2)), .any⟩,
  ⟨(some 16), none, .bin .mul (.t 13) (.t 15), .any⟩,
  ⟨(some 17), none, .bin .quo (.t 16) (.c (.int .i64 2)), .any⟩,
  ⟨(some 18), none, .mov (.t 0), .any⟩,
  ⟨(some 19), none, .bin .leq (.t 17) (.t 18), .any⟩]
@[reducible] def e18n8 : EC := .cond (.t 19) .skip (.exit 0)
@[reducible] def e18n9 : EC := .seq (.reg e18r7) e18n8
@[reducible] def e18r10 : List Ins := [
  ⟨(some 20), none, .mov (.t 4), .any⟩,
  ⟨(some 21), none, .bin .add (.t 20) (.c (.int .i64 1)), .any⟩,
  ⟨(some 4), none, .mov (.t 21), .any⟩]
@[reducible] def e18n11 : EC := .block 1 (.reg e18r10)
@[reducible] def e18n12 : EC := .seq e18n9 e18n11
@[reducible] def e18n13 : EC := .loop e18n12
@[reducible] def e18n14 : EC := .block 0 e18n13
@[reducible] def e18r15 : List Ins := [
  ⟨(some 22), none, .mov (.t 0), .any⟩,
  ⟨(some 23), none, .mov (.t 4), .any⟩,
  ⟨(some 24), none, .mov (.t 4), .any⟩,
  ⟨(some 25), none, .bin .add (.t 24) (.c (.int .i64 1)), .any⟩,
  ⟨(some 26), none, .bin .mul (.t 23) (.t 25), .any⟩,
  ⟨(some 27), none, .bin .quo (.t 26) (.c (.int .i64 2)), .any⟩,
  ⟨(some 28), none, .bin .sub (.t 22) (.t 27), .any⟩,
  ⟨(some 5), none, .mov (.t 28), .any⟩]
@[reducible] def e18r16 : List Ins := [
  ⟨(some 29), none, .mov (.t 5), .any⟩,
  ⟨(some 30), none, .bin .gtr (.t 29) (.c (.int .i64 999)), .any⟩,
  ⟨(some 31), none, .mov (.t 30), .any⟩,
  ⟨(some 32), (some (31, false)), .mov (.t 4), .any⟩,
  ⟨(some 33), (some (31, false)), .mov (.t 5), .any⟩,
  ⟨(some 34), (some (31, false)), .bin .sub (.t 32) (.t 33), .any⟩,
  ⟨(some 35), (some (31, false)), .bin .gtr (.t 34) (.c (.int .i64 999)), .any⟩,
  ⟨(some 36), none, .pick (.t 31) (.c (.bool true)) (.t 35), .any⟩]
@[reducible] def e18r17 : List Ins := [
  ⟨(some 2), none, .mov (.c (.int .i64 (-1))), .any⟩,
  ⟨(some 3), none, .mov (.c (.int .i64 (-1))), .any⟩]
@[reducible] def e18n18 : EC := .seq (.reg e18r17) .ret
@[reducible] def e18n19 : EC := .cond (.t 36) e18n18 .skip
@[reducible] def e18n20 : EC := .seq (.reg e18r16) e18n19
@[reducible] def e18r21 : List Ins := [
  ⟨(some 37), none, .mov (.t 5), .any⟩,
  ⟨(some 38), none, .mov (.t 4), .any⟩,
  ⟨(some 39), none, .mov (.t 5), .any⟩,
  ⟨(some 40), none, .bin .sub (.t 38) (.t 39), .any⟩,
  ⟨(some 2), none, .mov (.t 37), .any⟩,
  ⟨(some 3), none, .mov (.t 40), .any⟩]
@[reducible] def e18n22 : EC := .seq (.reg e18r21) .ret
@[reducible] def e18n23 : EC := .seq e18n20 e18n22
@[reducible] def e18n24 : EC := .seq (.reg e18r15) e18n23
@[reducible] def e18n25 : EC := .seq e18n14 e18n24
@[reducible] def e18n26 : EC := .seq (.reg e18r6) e18n25
@[reducible] def e18n27 : EC := .seq e18n5 e18n26
@[reducible] def e18n28 : EC := .seq (.reg e18r0) e18n27
@[reducible] def e18 : EF := ⟨41, 1, [(.inl 2), (.inl 3)], e18n28⟩
theorem e18_ok : compFn Tryd.prog {} Tryd.f18 = some e18 := by kernel_rfl
theorem e18_nm : (Tryd.f18.name == "runtime.NumGoroutine") = false := by kernel_rfl
/- yucca/yuccaref1.Unpair -/
@[reducible] def e19r0 : List Ins := [
  ⟨(some 2), none, .mov (.c (.int .i64 0)), .any⟩,
  ⟨(some 3), none, .mov (.c (.int .i64 0)), .any⟩]
@[reducible] def e19r1 : List Ins := [
  ⟨(some 6), none, .mov (.t 0), .any⟩,
  ⟨(some 7), none, .bin .lss (.t 6) (.c (.int .i64 0)), .any⟩,
  ⟨(some 8), none, .mov (.t 7), .any⟩,
  ⟨(some 9), (some (8, false)), .mov (.t 0), .any⟩,
  ⟨(some 10), (some (8, false)), .bin .gtr (.t 9) (.c (.int .i64 1998000)), .any⟩,
  ⟨(some 11), none, .pick (.t 8) (.c (.bool true)) (.t 10), .any⟩]
@[reducible] def e19r2 : List Ins := [
  ⟨(some 2), none, .mov (.c (.int .i64 (-1))), .any⟩,
  ⟨(some 3), none, .mov (.c (.int .i64 (-1))), .any⟩]
@[reducible] def e19n3 : EC := .seq (.reg e19r2) .ret
@[reducible] def e19n4 : EC := .cond (.t 11) e19n3 .skip
@[reducible] def e19n5 : EC := .seq (.reg e19r1) e19n4
@[reducible] def e19r6 : List Ins := [
  ⟨(some 4), none, .mov (.c (.int .i64 0)), .any⟩]
@[reducible] def e19r7 : List Ins := [
  ⟨(some 12), none, .mov (.t 4), .any⟩,
  ⟨(some 13), none, .bin .add (.t 12) (.c (.int .i64 1)), .any⟩,
  ⟨(some 14), none, .mov (.t 4), .any⟩,
  ⟨(some 15), none, .bin .add (.t 14) (.c (.int .i64 2)), .any⟩,
  ⟨(some 16), none, .bin .mul (.t 13) (.t 15), .any⟩,
  ⟨(some 17), none, .bin .quo (.t 16) (.c (.int .i64 2)), .any⟩,
  ⟨(some 18), none, .mov (.t 0), .any⟩,
  ⟨(some 19), none, .bin .leq (.t 17) (.t 18), .any⟩]
@[reducible] def e19n8 : EC := .cond (.t 19) .skip (.exit 0)
@[reducible] def e19n9 : EC := .seq (.reg e19r7) e19n8
@[reducible] def e19r10 : List Ins := [
  ⟨(some 20), none, .mov (.t 4), .any⟩,
  ⟨(some 21), none, .bin .add (.t 20) (.c (.int .i64 1)), .any⟩,
  ⟨(some 4), none, .mov (.t 21), .any⟩]
@[reducible] def e19n11 : EC := .block 1 (.reg e19r10)
@[reducible] def e19n12 : EC := .seq e19n9 e19n11
@[reducible] def e19n13 : EC := .loop e19n12
@[reducible] def e19n14 : EC := .block 0 e19n13
@[reducible] def e19r15 : List Ins := [
  ⟨(some 22), none, .mov (.t 0), .any⟩,
  ⟨(some 23), none, .mov (.t 4), .any⟩,
  ⟨(some 24), none, .mov (.t 4), .any⟩,
  ⟨(some 25), none, .bin .add (.t 24) (.c (.int .i64 1)), .any⟩,
  ⟨(some 26), none, .bin .mul (.t 23) (.t 25), .any⟩,
  ⟨(some 27), none, .bin .quo (.t 26) (.c (.int .i64 2)), .any⟩,
  ⟨(some 28), none, .bin .sub (.t 22) (.t 27), .any⟩,
  ⟨(some 5), none, .mov (.t 28), .any⟩]
@[reducible] def e19r16 : List Ins := [
  ⟨(some 29), none, .mov (.t 5), .any⟩,
  ⟨(some 30), none, .bin .gtr (.t 29) (.c (.int .i64 999)), .any⟩,
  ⟨(some 31), none, .mov (.t 30), .any⟩,
  ⟨(some 32), (some (31, false)), .mov (.t 4), .any⟩,
  ⟨(some 33), (some (31, false)), .mov (.t 5), .any⟩,
  ⟨(some 34), (some (31, false)), .bin .sub (.t 32) (.t 33), .any⟩,
  ⟨(some 35), (some (31, false)), .bin .gtr (.t 34) (.c (.int .i64 999)), .any⟩,
  ⟨(some 36), none, .pick (.t 31) (.c (.bool true)) (.t 35), .any⟩]
@[reducible] def e19r17 : List Ins := [
  ⟨(some 2), none, .mov (.c (.int .i64 (-1))), .any⟩,
  ⟨(some 3), none, .mov (.c (.int .i64 (-1))), .any⟩]
@[reducible] def e19n18 : EC := .seq (.reg e19r17) .ret
@[reducible] def e19n19 : EC := .cond (.t 36) e19n18 .skip
@[reducible] def e19n20 : EC := .seq (.reg e19r16) e19n19
@[reducible] def e19r21 : List Ins := [
  ⟨(some 37), none, .mov (.t 5), .any⟩,
  ⟨(some 38), none, .mov (.t 4), .any⟩,
  ⟨(some 39), none, .mov (.t 5), .any⟩,
  ⟨(some 40), none, .bin .sub (.t 38) (.t 39), .any⟩,
  ⟨(some 2), none, .mov (.t 37), .any⟩,
  ⟨(some 3), none, .mov (.t 40), .any⟩]
@[reducible] def e19n22 : EC := .seq (.reg e19r21) .ret
@[reducible] def e19n23 : EC := .seq e19n20 e19n22
@[reducible] def e19n24 : EC := .seq (.reg e19r15) e19n23
@[reducible] def e19n25 : EC := .seq e19n14 e19n24
@[reducible] def e19n26 : EC := .seq (.reg e19r6) e19n25
@[reducible] def e19n27 : EC := .seq e19n5 e19n26
@[reducible] def e19n28 : EC := .seq (.reg e19r0) e19n27
@[reducible] def e19 : EF := ⟨41, 1, [(.inl 2), (.inl 3)], e19n28⟩
theorem e19_ok : compFn Tryd.prog {} Tryd.f19 = some e19 := by kernel_rfl
theorem e19_nm : (Tryd.f19.name == "runtime.NumGoroutine") = false := by kernel_rfl
/- yucca/bits.Pair -/
@[reducible] def e20r0 : List Ins := [
  ⟨(some 4), none, .mov (.c (.int .i64 0)), .any⟩]
@[reducible] def e20r1 : List Ins := [
  ⟨(some 5), none, .mov (.t 0), .any⟩,
  ⟨(some 6), none, .bin .lss (.t 5) (.c (.int .i64 0)), .any⟩,
  ⟨(some 7), none, .mov (.t 6), .any⟩,
  ⟨(some 8), (some (7, false)), .mov (.t 0), .any⟩,
  ⟨(some 9), (some (7, false)), .bin .gtr (.t 8) (.c (.int .i64 999)), .any⟩,
  ⟨(some 10), none, .pick (.t 7) (.c (.bool true)) (.t 9), .any⟩,
  ⟨(some 11), none, .mov (.t 10), .any⟩,
  ⟨(some 12), (some (11, false)), .mov (.t 1), .any⟩,
  ⟨(some 13), (some (11, false)), .bin .lss (.t 12) (.c (.int .i64 0)), .any⟩,
  ⟨(some 14), none, .pick (.t 11) (.c (.bool true)) (.t 13), .any⟩,
  ⟨(some 15), none, .mov (.t 14), .any⟩,
  ⟨(some 16), (some (15, false)), .mov (.t 1), .any⟩,
  ⟨(some 17), (some (15, false)), .bin .gtr (.t 16) (.c (.int .i64 999)), .any⟩,
  ⟨(some 18), none, .pick (.t 15) (.c (.bool true)) (.t 17), .any⟩]
@[reducible] def e20r2 : List Ins := [
  ⟨(some 4), none, .mov (.c (.int .i64 (-1))), .any⟩]
@[reducible] def e20n3 : EC := .seq (.reg e20r2) .ret
@[reducible] def e20n4 : EC := .cond (.t 18) e20n3 .skip
@[reducible] def e20n5 : EC := .seq (.reg e20r1) e20n4
@[reducible] def e20r6 : List Ins := [
  ⟨(some 19), none, .mov (.t 0), .any⟩,
  ⟨(some 20), none, .mov (.t 1), .any⟩,
  ⟨(some 21), none, .bin .add (.t 19) (.t 20), .any⟩,
  ⟨(some 22), none, .mov (.t 0), .any⟩,
  ⟨(some 23), none, .mov (.t 1), .any⟩,
  ⟨(some 24), none, .bin .add (.t 22) (.t 23), .any⟩,
  ⟨(some 25), none, .bin .add (.t 24) (.c (.int .i64 1)), .any⟩,
  ⟨(some 26), none, .bin .mul (.t 21) (.t 25), .any⟩,
  ⟨(some 27), none, .bin .quo (.t 26) (.c (.int .i64 2)), .any⟩,
  ⟨(some 28), none, .mov (.t 0), .any⟩,
  ⟨(some 29), none, .bin .add (.t 27) (.t 28), .any⟩,
  ⟨(some 4), none, .mov (.t 29), .any⟩]
@[reducible] def e20n7 : EC := .seq (.reg e20r6) .ret
@[reducible] def e20n8 : EC := .seq e20n5 e20n7
@[reducible] def e20n9 : EC := .seq (.reg e20r0) e20n8
@[reducible] def e20 : EF := ⟨30, 2, [(.inl 4)], e20n9⟩
theorem e20_ok : compFn Tryd.prog {} Tryd.f20 = some e20 := by kernel_rfl
theorem e20_nm : (Tryd.f20.name == "runtime.NumGoroutine") = false := by kernel_rfl
/- yucca/yuccaref1.Pair -/
@[reducible] def e21r0 : List Ins := [
  ⟨(some 4), none, .mov (.c (.int .i64 0)), .any⟩]
@[reducible] def e21r1 : List Ins := [
  ⟨(some 5), none, .mov (.t 0), .any⟩,
  ⟨(some 6), none, .bin .lss (.t 5) (.c (.int .i64 0)), .any⟩,
  ⟨(some 7), none, .mov (.t 6), .any⟩,
  ⟨(some 8), (some (7, false)), .mov (.t 0), .any⟩,
  ⟨(some 9), (some (7, false)), .bin .gtr (.t 8) (.c (.int .i64 999)), .any⟩,
  ⟨(some 10), none, .pick (.t 7) (.c (.bool true)) (.t 9), .any⟩,
  ⟨(some 11), none, .mov (.t 10), .any⟩,
  ⟨(some 12), (some (11, false)), .mov (.t 1), .any⟩,
  ⟨(some 13), (some (11, false)), .bin .lss (.t 12) (.c (.int .i64 0)), .any⟩,
  ⟨(some 14), none, .pick (.t 11) (.c (.bool true)) (.t 13), .any⟩,
  ⟨(some 15), none, .mov (.t 14), .any⟩,
  ⟨(some 16), (some (15, false)), .mov (.t 1), .any⟩,
  ⟨(some 17), (some (15, false)), .bin .gtr (.t 16) (.c (.int .i64 999)), .any⟩,
  ⟨(some 18), none, .pick (.t 15) (.c (.bool true)) (.t 17), .any⟩]
@[reducible] def e21r2 : List Ins := [
  ⟨(some 4), none, .mov (.c (.int .i64 (-1))), .any⟩]
@[reducible] def e21n3 : EC := .seq (.reg e21r2) .ret
@[reducible] def e21n4 : EC := .cond (.t 18) e21n3 .skip
@[reducible] def e21n5 : EC := .seq (.reg e21r1) e21n4
@[reducible] def e21r6 : List Ins := [
  ⟨(some 19), none, .mov (.t 0), .any⟩,
  ⟨(some 20), none, .mov (.t 1), .any⟩,
  ⟨(some 21), none, .bin .add (.t 19) (.t 20), .any⟩,
  ⟨(some 22), none, .mov (.t 0), .any⟩,
  ⟨(some 23), none, .mov (.t 1), .any⟩,
  ⟨(some 24), none, .bin .add (.t 22) (.t 23), .any⟩,
  ⟨(some 25), none, .bin .add (.t 24) (.c (.int .i64 1)), .any⟩,
  ⟨(some 26), none, .bin .mul (.t 21) (.t 25), .any⟩,
  ⟨(some 27), none, .bin .quo (.t 26) (.c (.int .i64 2)), .any⟩,
  ⟨(some 28), none, .mov (.t 0), .any⟩,
  ⟨(some 29), none, .bin .add (.t 27) (.t 28), .any⟩,
  ⟨(some 4), none, .mov (.t 29), .any⟩]
@[reducible] def e21n7 : EC := .seq (.reg e21r6) .ret
@[reducible] def e21n8 : EC := .seq e21n5 e21n7
@[reducible] def e21n9 : EC := .seq (.reg e21r0) e21n8
@[reducible] def e21 : EF := ⟨30, 2, [(.inl 4)], e21n9⟩
theorem e21_ok : compFn Tryd.prog {} Tryd.f21 = some e21 := by kernel_rfl
theorem e21_nm : (Tryd.f21.name == "runtime.NumGoroutine") = false := by kernel_rfl
/- yucca/bits.Or -/
@[reducible] def e22r0 : List Ins := [
  ⟨(some 2), none, .box 16 (.t 0), .any⟩,
  ⟨(some 3), none, .box 16 (.t 1), .any⟩,
  ⟨(some 4), none, .alloc 16 (.agg [(.int .u64 0), (.int .u64 0), (.int .u64 0), (.int .u64 0), (.int .u64 0), (.int .u64 0), (.int .u64 0), (.int .u64 0), (.int .u64 0), (.int .u64 0), (.int .u64 0), (.int .u64 0), (.int .u64 0), (.int .u64 0), (.int .u64 0), (.int .u64 0)]), .any⟩]
@[reducible] def e22r1 : List Ins := [
  ⟨(some 6), none, .mov (.c (.int .i64 0)), .any⟩]
@[reducible] def e22r2 : List Ins := [
  ⟨(some 7), none, .bin .lss (.t 6) (.c (.int .i64 16)), .any⟩]
@[reducible] def e22n3 : EC := .cond (.t 7) .skip (.exit 0)
@[reducible] def e22r4 : List Ins := [
  ⟨(some 8), none, .mov (.t 6), .any⟩,
  ⟨(some 5), none, .mov (.t 8), .any⟩]
@[reducible] def e22r5 : List Ins := [
  ⟨(some 9), none, .mov (.t 5), .n⟩,
  ⟨(some 10), none, .faddr 0 (.t 2), .n⟩,
  ⟨(some 11), none, .iaddrA 16 1 (.t 10) (.t 9), .n⟩,
  ⟨(some 12), none, .load false 1 (.t 11), .r⟩,
  ⟨(some 13), none, .mov (.t 5), .n⟩,
  ⟨(some 14), none, .faddr 0 (.t 3), .n⟩,
  ⟨(some 15), none, .iaddrA 16 1 (.t 14) (.t 13), .n⟩,
  ⟨(some 16), none, .load false 1 (.t 15), .r⟩,
  ⟨(some 17), none, .bin .or (.t 12) (.t 16), .n⟩,
  ⟨(some 18), none, .faddr 0 (.t 2), .n⟩,
  ⟨(some 19), none, .iaddrA 16 1 (.t 18) (.t 9), .n⟩,
  ⟨none, none, .store 1 (.t 19) (.t 17), .w⟩]
@[reducible] def e22n6 : EC := .seq (.reg e22r4) (.reg e22r5)
@[reducible] def e22n7 : EC := .block 1 e22n6
@[reducible] def e22r8 : List Ins := [
  ⟨(some 20), none, .bin .add (.t 6) (.c (.int .i64 1)), .any⟩,
  ⟨(some 6), none, .mov (.t 20), .any⟩]
@[reducible] def e22n9 : EC := .seq e22n7 (.reg e22r8)
@[reducible] def e22n10 : EC := .seq e22n3 e22n9
@[reducible] def e22n11 : EC := .seq (.reg e22r2) e22n10
@[reducible] def e22n12 : EC := .loop e22n11
@[reducible] def e22n13 : EC := .block 0 e22n12
@[reducible] def e22n14 : EC := .seq (.reg e22r1) e22n13
@[reducible] def e22r15 : List Ins := [
  ⟨(some 21), none, .load true 16 (.t 2), .any⟩,
  ⟨none, none, .store 16 (.t 4) (.t 21), .any⟩]
@[reducible] def e22n16 : EC := .seq (.reg e22r15) .ret
@[reducible] def e22n17 : EC := .seq e22n14 e22n16
@[reducible] def e22n18 : EC := .seq (.reg e22r0) e22n17
@[reducible] def e22 : EF := ⟨22, 2, [(.inr (4, true, 16))], e22n18⟩
theorem e22_ok : compFn Tryd.prog {} Tryd.f22 = some e22 := by kernel_rfl
theorem e22_nm : (Tryd.f22.name == "runtime.NumGoroutine") = false := by kernel_rfl
/- yucca/bits.And -/
@[reducible] def e23r0 : List Ins := [
  ⟨(some 2), none, .box 16 (.t 0), .any⟩,
  ⟨(some 3), none, .box 16 (.t 1), .any⟩,
  ⟨(some 4), none, .alloc 16 (.agg [(.int .u64 0), (.int .u64 0), (.int .u64 0), (.int .u64 0), (.int .u64 0), (.int .u64 0), (.int .u64 0), (.int .u64 0), (.int .u64 0), (.int .u64 0), (.int .u64 0), (.int .u64 0), (.int .u64 0), (.int .u64 0), (.int .u64 0), (.int .u64 0)]), .any⟩]
@[reducible] def e23r1 : List Ins := [
  ⟨(some 6), none, .mov (.c (.int .i64 0)), .any⟩]
@[reducible] def e23r2 : List Ins := [
  ⟨(some 7), none, .bin .lss (.t 6) (.c (.int .i64 16)), .any⟩]
@[reducible] def e23n3 : EC := .cond (.t 7) .skip (.exit 0)
@[reducible] def e23r4 : List Ins := [
  ⟨(some 8), none, .mov (.t 6), .any⟩,
  ⟨(some 5), none, .mov (.t 8), .any⟩]
@[reducible] def e23r5 : List Ins := [
  ⟨(some 9), none, .mov (.t 5), .n⟩,
  ⟨(some 10), none, .faddr 0 (.t 2), .n⟩,
  ⟨(some 11), none, .iaddrA 16 1 (.t 10) (.t 9), .n⟩,
  ⟨(some 12), none, .load false 1 (.t 11), .r⟩,
  ⟨(some 13), none, .mov (.t 5), .n⟩,
  ⟨(some 14), none, .faddr 0 (.t 3), .n⟩,
  ⟨(some 15), none, .iaddrA 16 1 (.t 14) (.t 13), .n⟩,
  ⟨(some 16), none, .load false 1 (.t 15), .r⟩,
  ⟨(some 17), none, .bin .and (.t 12) (.t 16), .n⟩,
  ⟨(some 18), none, .faddr 0 (.t 2), .n⟩,
  ⟨(some 19), none, .iaddrA 16 1 (.t 18) (.t 9), .n⟩,
  ⟨none, none, .store 1 (.t 19) (.t 17), .w⟩]
@[reducible] def e23n6 : EC := .seq (.reg e23r4) (.reg e23r5)
@[reducible] def e23n7 : EC := .block 1 e23n6
@[reducible] def e23r8 : List Ins := [
  ⟨(some 20), none, .bin .add (.t 6) (.c (.int .i64 1)), .any⟩,
  ⟨(some 6), none, .mov (.t 20), .any⟩]
@[reducible] def e23n9 : EC := .seq e23n7 (.reg e23r8)
@[reducible] def e23n10 : EC := .seq e23n3 e23n9
@[reducible] def e23n11 : EC := .seq (.reg e23r2) e23n10
@[reducible] def e23n12 : EC := .loop e23n11
@[reducible] def e23n13 : EC := .block 0 e23n12
@[reducible] def e23n14 : EC := .seq (.reg e23r1) e23n13
@[reducible] def e23r15 : List Ins := [
  ⟨(some 21), none, .load true 16 (.t 2), .any⟩,
  ⟨none, none, .store 16 (.t 4) (.t 21), .any⟩]
@[reducible] def e23n16 : EC := .seq (.reg e23r15) .ret
@[reducible] def e23n17 : EC := .seq e23n14 e23n16
@[reducible] def e23n18 : EC := .seq (.reg e23r0) e23n17
@[reducible] def e23 : EF := ⟨22, 2, [(.inr (4, true, 16))], e23n18⟩
theorem e23_ok : compFn Tryd.prog {} Tryd.f23 = some e23 := by kernel_rfl
theorem e23_nm : (Tryd.f23.name == "runtime.NumGoroutine") = false := by kernel_rfl
/- yucca/bits.Without -/
@[reducible] def e24r0 : List Ins := [
  ⟨(some 2), none, .box 16 (.t 0), .any⟩,
  ⟨(some 3), none, .box 16 (.t 1), .any⟩,
  ⟨(some 4), none, .alloc 16 (.agg [(.int .u64 0), (.int .u64 0), (.int .u64 0), (.int .u64 0), (.int .u64 0), (.int .u64 0), (.int .u64 0), (.int .u64 0), (.int .u64 0), (.int .u64 0), (.int .u64 0), (.int .u64 0), (.int .u64 0), (.int .u64 0), (.int .u64 0), (.int .u64 0)]), .any⟩]
@[reducible] def e24r1 : List Ins := [
  ⟨(some 6), none, .mov (.c (.int .i64 0)), .any⟩]
@[reducible] def e24r2 : List Ins := [
  ⟨(some 7), none, .bin .lss (.t 6) (.c (.int .i64 16)), .any⟩]
@[reducible] def e24n3 : EC := .cond (.t 7) .skip (.exit 0)
@[reducible] def e24r4 : List Ins := [
  ⟨(some 8), none, .mov (.t 6), .any⟩,
  ⟨(some 5), none, .mov (.t 8), .any⟩]
@[reducible] def e24r5 : List Ins := [
  ⟨(some 9), none, .mov (.t 5), .n⟩,
  ⟨(some 10), none, .faddr 0 (.t 2), .n⟩,
  ⟨(some 11), none, .iaddrA 16 1 (.t 10) (.t 9), .n⟩,
  ⟨(some 12), none, .load false 1 (.t 11), .r⟩,
  ⟨(some 13), none, .mov (.t 5), .n⟩,
  ⟨(some 14), none, .faddr 0 (.t 3), .n⟩,
  ⟨(some 15), none, .iaddrA 16 1 (.t 14) (.t 13), .n⟩,
  ⟨(some 16), none, .load false 1 (.t 15), .r⟩,
  ⟨(some 17), none, .bin .andNot (.t 12) (.t 16), .n⟩,
  ⟨(some 18), none, .faddr 0 (.t 2), .n⟩,
  ⟨(some 19), none, .iaddrA 16 1 (.t 18) (.t 9), .n⟩,
  ⟨none, none, .store 1 (.t 19) (.t 17), .w⟩]
@[reducible] def e24n6 : EC := .seq (.reg e24r4) (.reg e24r5)
@[reducible] def e24n7 : EC := .block 1 e24n6
@[reducible] def e24r8 : List Ins := [
  ⟨(some 20), none, .bin .add (.t 6) (.c (.int .i64 1)), .any⟩,
  ⟨(some 6), none, .mov (.t 20), .any⟩]
@[reducible] def e24n9 : EC := .seq e24n7 (.reg e24r8)
@[reducible] def e24n10 : EC := .seq e24n3 e24n9
@[reducible] def e24n11 : EC := .seq (.reg e24r2) e24n10
@[reducible] def e24n12 : EC := .loop e24n11
@[reducible] def e24n13 : EC := .block 0 e24n12
@[reducible] def e24n14 : EC := .seq (.reg e24r1) e24n13
@[reducible] def e24r15 : List Ins := [
  ⟨(some 21), none, .load true 16 (.t 2), .any⟩,
  ⟨none, none, .store 16 (.t 4) (.t 21), .any⟩]
@[reducible] def e24n16 : EC := .seq (.reg e24r15) .ret
@[reducible] def e24n17 : EC := .seq e24n14 e24n16
@[reducible] def e24n18 : EC := .seq (.reg e24r0) e24n17
@[reducible] def e24 : EF := ⟨22, 2, [(.inr (4, true, 16))], e24n18⟩
theorem e24_ok : compFn Tryd.prog {} Tryd.f24 = some e24 := by kernel_rfl
theorem e24_nm : (Tryd.f24.name == "runtime.NumGoroutine") = false := by kernel_rfl
/- yucca/bits.Eq -/
@[reducible] def e25r0 : List Ins := [
  ⟨(some 2), none, .box 16 (.t 0), .any⟩,
  ⟨(some 3), none, .box 16 (.t 1), .any⟩,
  ⟨(some 4), none, .mov (.c (.bool false)), .any⟩]
@[reducible] def e25r1 : List Ins := [
  ⟨(some 5), none, .load true 16 (.t 2), .any⟩,
  ⟨(some 6), none, .load true 16 (.t 3), .any⟩,
  ⟨(some 7), none, .eqagg false [1, 1, 1, 1, 1, 1, 1, 1, 1, 1, 1, 1, 1, 1, 1, 1] (.t 5) (.t 6), .any⟩,
  ⟨(some 4), none, .mov (.t 7), .any⟩]
@[reducible] def e25n2 : EC := .seq (.reg e25r1) .ret
@[reducible] def e25n3 : EC := .seq (.reg e25r0) e25n2
@[reducible] def e25 : EF := ⟨8, 2, [(.inl 4)], e25n3⟩
theorem e25_ok : compFn Tryd.prog {} Tryd.f25 = some e25 := by kernel_rfl
theorem e25_nm : (Tryd.f25.name == "runtime.NumGoroutine") = false := by kernel_rfl
/- yucca/yuccaref0.Put -/
@[reducible] def e26r0 : List Ins := [
  ⟨(some 4), none, .mov (.c (.sl 1 true [])), .any⟩]
@[reducible] def e26r1 : List Ins := [
  ⟨(some 7), none, .mov (.t 0), .any⟩,
  ⟨(some 8), none, .len (.t 7), .any⟩,
  ⟨(some 5), none, .mov (.t 8), .any⟩]
@[reducible] def e26r2 : List Ins := [
  ⟨(some 9), none, .mov (.t 5), .any⟩,
  ⟨(some 10), none, .bin .gtr (.t 9) (.c (.int .i64 0)), .any⟩,
  ⟨(some 11), none, .mov (.t 10), .any⟩,
  ⟨(some 12), (some (11, true)), .mov (.t 0), .any⟩,
  ⟨(some 13), (some (11, true)), .mov (.t 5), .any⟩,
  ⟨(some 14), (some (11, true)), .bin .sub (.t 13) (.c (.int .i64 1)), .any⟩,
  ⟨(some 15), (some (11, true)), .iaddr 1 (.t 12) (.t 14), .any⟩,
  ⟨(some 16), (some (11, true)), .load false 1 (.t 15), .any⟩,
  ⟨(some 17), (some (11, true)), .mov (.t 1), .any⟩,
  ⟨(some 18), (some (11, true)), .bin .gtr (.t 16) (.t 17), .any⟩,
  ⟨(some 19), none, .pick (.t 11) (.t 18) (.c (.bool false)), .any⟩]
@[reducible] def e26n3 : EC := .cond (.t 19) .skip (.exit 0)
@[reducible] def e26n4 : EC := .seq (.reg e26r2) e26n3
@[reducible] def e26r5 : List Ins := [
  ⟨(some 20), none, .mov (.t 5), .any⟩,
  ⟨(some 21), none, .bin .sub (.t 20) (.c (.int .i64 1)), .any⟩,
  ⟨(some 5), none, .mov (.t 21), .any⟩]
@[reducible] def e26n6 : EC := .block 1 (.reg e26r5)
@[reducible] def e26n7 : EC := .seq e26n4 e26n6
@[reducible] def e26n8 : EC := .loop e26n7
@[reducible] def e26n9 : EC := .block 0 e26n8
@[reducible] def e26r10 : List Ins := [
  ⟨(some 22), none, .mov (.t 5), .any⟩,
  ⟨(some 23), none, .bin .gtr (.t 22) (.c (.int .i64 0)), .any⟩,
  ⟨(some 24), none, .mov (.t 23), .any⟩,
  ⟨(some 25), (some (24, true)), .mov (.t 0), .any⟩,
  ⟨(some 26), (some (24, true)), .mov (.t 5), .any⟩,
  ⟨(some 27), (some (24, true)), .bin .sub (.t 26) (.c (.int .i64 1)), .any⟩,
  ⟨(some 28), (some (24, true)), .iaddr 1 (.t 25) (.t 27), .any⟩,
  ⟨(some 29), (some (24, true)), .load false 1 (.t 28), .any⟩,
  ⟨(some 30), (some (24, true)), .mov (.t 1), .any⟩,
  ⟨(some 31), (some (24, true)), .bin .eql (.t 29) (.t 30), .any⟩,
  ⟨(some 32), none, .pick (.t 24) (.t 31) (.c (.bool false)), .any⟩]
@[reducible] def e26r11 : List Ins := [
  ⟨(some 33), none, .mov (.t 0), .any⟩,
  ⟨(some 4), none, .mov (.t 33), .any⟩]
@[reducible] def e26n12 : EC := .seq (.reg e26r11) .ret
@[reducible] def e26n13 : EC := .cond (.t 32) e26n12 .skip
@[reducible] def e26n14 : EC := .seq (.reg e26r10) e26n13
@[reducible] def e26r15 : List Ins := [
  ⟨(some 34), none, .lit false 1 false (.int .i64 0) 0 [], .any⟩,
  ⟨(some 35), none, .mov (.t 0), .any⟩,
  ⟨(some 36), none, .mov (.t 5), .any⟩,
  ⟨(some 37), none, .slc 1 (.t 35) none (some (.t 36)) none, .any⟩,
  ⟨(some 38), none, .append false 1 8 (.t 34) (.t 37), .any⟩,
  ⟨(some 6), none, .mov (.t 38), .any⟩]
@[reducible] def e26r16 : List Ins := [
  ⟨(some 39), none, .mov (.t 6), .n⟩,
  ⟨(some 40), none, .mov (.t 1), .n⟩,
  ⟨(some 41), none, .lit false 1 false (.int .i64 0) 1 [(0, (.t 40))], .n⟩,
  ⟨(some 42), none, .append false 1 8 (.t 39) (.t 41), .t⟩,
  ⟨(some 43), none, .mov (.t 0), .n⟩,
  ⟨(some 44), none, .mov (.t 5), .n⟩,
  ⟨(some 45), none, .slc 1 (.t 43) (some (.t 44)) none none, .n⟩,
  ⟨(some 46), none, .append false 1 8 (.t 42) (.t 45), .t⟩,
  ⟨(some 4), none, .mov (.t 46), .n⟩]
@[reducible] def e26n17 : EC := .seq (.reg e26r16) .ret
@[reducible] def e26n18 : EC := .seq (.reg e26r15) e26n17
@[reducible] def e26n19 : EC := .seq e26n14 e26n18
@[reducible] def e26n20 : EC := .seq e26n9 e26n19
@[reducible] def e26n21 : EC := .seq (.reg e26r1) e26n20
@[reducible] def e26n22 : EC := .seq (.reg e26r0) e26n21
@[reducible] def e26 : EF := ⟨47, 2, [(.inl 4)], e26n22⟩
theorem e26_ok : compFn Tryd.prog {} Tryd.f26 = some e26 := by kernel_rfl
theorem e26_nm : (Tryd.f26.name == "runtime.NumGoroutine") = false := by kernel_rfl
/- yucca/bits.fits -/
@[reducible] def e27r0 : List Ins := [
  ⟨(some 2), none, .mov (.c (.bool false)), .any⟩]
@[reducible] def e27r1 : List Ins := [
  ⟨(some 3), none, .mov (.t 0), .any⟩,
  ⟨(some 4), none, .bin .geq (.t 3) (.c (.int .i64 0)), .any⟩,
  ⟨(some 5), none, .mov (.t 4), .any⟩,
  ⟨(some 6), (some (5, true)), .mov (.t 0), .any⟩,
  ⟨(some 7), (some (5, true)), .bin .lss (.t 6) (.c (.int .i64 1024)), .any⟩,
  ⟨(some 8), none, .pick (.t 5) (.t 7) (.c (.bool false)), .any⟩,
  ⟨(some 2), none, .mov (.t 8), .any⟩]
@[reducible] def e27n2 : EC := .seq (.reg e27r1) .ret
@[reducible] def e27n3 : EC := .seq (.reg e27r0) e27n2
@[reducible] def e27 : EF := ⟨9, 1, [(.inl 2)], e27n3⟩
theorem e27_ok : compFn Tryd.prog {} Tryd.f27 = some e27 := by kernel_rfl
theorem e27_nm : (Tryd.f27.name == "runtime.NumGoroutine") = false := by kernel_rfl
/- math/bits.TrailingZeros64 -/
@[reducible] def e28r0 : List Ins := [
  ⟨(some 2), none, .mov (.c (.int .i64 0)), .any⟩]
@[reducible] def e28r1 : List Ins := [
  ⟨(some 3), none, .mov (.t 0), .any⟩,
  ⟨(some 4), none, .bin .eql (.t 3) (.c (.int .u64 0)), .any⟩]
@[reducible] def e28r2 : List Ins := [
  ⟨(some 2), none, .mov (.c (.int .i64 64)), .any⟩]
@[reducible] def e28n3 : EC := .seq (.reg e28r2) .ret
@[reducible] def e28n4 : EC := .cond (.t 4) e28n3 .skip
@[reducible] def e28n5 : EC := .seq (.reg e28r1) e28n4
@[reducible] def e28r6 : List Ins := [
  ⟨(some 5), none, .mov (.t 0), .any⟩,
  ⟨(some 6), none, .mov (.t 0), .any⟩,
  ⟨(some 7), none, .un .neg (.t 6), .any⟩,
  ⟨(some 8), none, .bin .and (.t 5) (.t 7), .any⟩,
  ⟨(some 9), none, .bin .mul (.t 8) (.c (.int .u64 285870213051353865)), .any⟩,
  ⟨(some 10), none, .bin .shr (.t 9) (.c (.int .u64 58)), .any⟩,
  ⟨(some 11), none, .iaddrA 64 1 (.c (Glob.G Tryd.prog 0)) (.t 10), .any⟩,
  ⟨(some 12), none, .load false 1 (.t 11), .any⟩,
  ⟨(some 13), none, .conv .i64 (.t 12), .any⟩,
  ⟨(some 2), none, .mov (.t 13), .any⟩]
@[reducible] def e28n7 : EC := .seq (.reg e28r6) .ret
@[reducible] def e28n8 : EC := .seq e28n5 e28n7
@[reducible] def e28n9 : EC := .seq (.reg e28r0) e28n8
@[reducible] def e28 : EF := ⟨14, 1, [(.inl 2)], e28n9⟩
theorem e28_ok : compFn Tryd.prog {} Tryd.f28 = some e28 := by kernel_rfl
theorem e28_nm : (Tryd.f28.name == "runtime.NumGoroutine") = false := by kernel_rfl
/- math/bits.OnesCount64 -/
@[reducible] def e29r0 : List Ins := [
  ⟨(some 2), none, .mov (.c (.int .i64 0)), .any⟩]
@[reducible] def e29r1 : List Ins := [
  ⟨(some 3), none, .mov (.t 0), .any⟩,
  ⟨(some 4), none, .bin .shr (.t 3) (.c (.int .u64 1)), .any⟩,
  ⟨(some 5), none, .bin .and (.t 4) (.c (.int .u64 6148914691236517205)), .any⟩,
  ⟨(some 6), none, .mov (.t 0), .any⟩,
  ⟨(some 7), none, .bin .and (.t 6) (.c (.int .u64 6148914691236517205)), .any⟩,
  ⟨(some 8), none, .bin .add (.t 5) (.t 7), .any⟩,
  ⟨(some 0), none, .mov (.t 8), .any⟩]
@[reducible] def e29r2 : List Ins := [
  ⟨(some 9), none, .mov (.t 0), .any⟩,
  ⟨(some 10), none, .bin .shr (.t 9) (.c (.int .u64 2)), .any⟩,
  ⟨(some 11), none, .bin .and (.t 10) (.c (.int .u64 3689348814741910323)), .any⟩,
  ⟨(some 12), none, .mov (.t 0), .any⟩,
  ⟨(some 13), none, .bin .and (.t 12) (.c (.int .u64 3689348814741910323)), .any⟩,
  ⟨(some 14), none, .bin .add (.t 11) (.t 13), .any⟩,
  ⟨(some 0), none, .mov (.t 14), .any⟩]
@[reducible] def e29r3 : List Ins := [
  ⟨(some 15), none, .mov (.t 0), .any⟩,
  ⟨(some 16), none, .bin .shr (.t 15) (.c (.int .u64 4)), .any⟩,
  ⟨(some 17), none, .mov (.t 0), .any⟩,
  ⟨(some 18), none, .bin .add (.t 16) (.t 17), .any⟩,
  ⟨(some 19), none, .bin .and (.t 18) (.c (.int .u64 1085102592571150095)), .any⟩,
  ⟨(some 0), none, .mov (.t 19), .any⟩]
@[reducible] def e29r4 : List Ins := [
  ⟨(some 20), none, .mov (.t 0), .any⟩,
  ⟨(some 21), none, .mov (.t 0), .any⟩,
  ⟨(some 22), none, .bin .shr (.t 21) (.c (.int .u64 8)), .any⟩,
  ⟨(some 23), none, .bin .add (.t 20) (.t 22), .any⟩,
  ⟨(some 0), none, .mov (.t 23), .any⟩]
@[reducible] def e29r5 : List Ins := [
  ⟨(some 24), none, .mov (.t 0), .any⟩,
  ⟨(some 25), none, .mov (.t 0), .any⟩,
  ⟨(some 26), none, .bin .shr (.t 25) (.c (.int .u64 16)), .any⟩,
  ⟨(some 27), none, .bin .add (.t 24) (.t 26), .any⟩,
  ⟨(some 0), none, .mov (.t 27), .any⟩]
@[reducible] def e29r6 : List Ins := [
  ⟨(some 28), none, .mov (.t 0), .any⟩,
  ⟨(some 29), none, .mov (.t 0), .any⟩,
  ⟨(some 30), none, .bin .shr (.t 29) (.c (.int .u64 32)), .any⟩,
  ⟨(some 31), none, .bin .add (.t 28) (.t 30), .any⟩,
  ⟨(some 0), none, .mov (.t 31), .any⟩]
@[reducible] def e29r7 : List Ins := [
  ⟨(some 32), none, .mov (.t 0), .any⟩,
  ⟨(some 33), none, .conv .i64 (.t 32), .any⟩,
  ⟨(some 34), none, .bin .and (.t 33) (.c (.int .i64 127)), .any⟩,
  ⟨(some 2), none, .mov (.t 34), .any⟩]
@[reducible] def e29n8 : EC := .seq (.reg e29r7) .ret
@[reducible] def e29n9 : EC := .seq (.reg e29r6) e29n8
@[reducible] def e29n10 : EC := .seq (.reg e29r5) e29n9
@[reducible] def e29n11 : EC := .seq (.reg e29r4) e29n10
@[reducible] def e29n12 : EC := .seq (.reg e29r3) e29n11
@[reducible] def e29n13 : EC := .seq (.reg e29r2) e29n12
@[reducible] def e29n14 : EC := .seq (.reg e29r1) e29n13
@[reducible] def e29n15 : EC := .seq (.reg e29r0) e29n14
@[reducible] def e29 : EF := ⟨35, 1, [(.inl 2)], e29n15⟩
theorem e29_ok : compFn Tryd.prog {} Tryd.f29 = some e29 := by kernel_rfl
theorem e29_nm : (Tryd.f29.name == "runtime.NumGoroutine") = false := by kernel_rfl
/- gosem.cut.vars -/
@[reducible] def e49r0 : List Ins := [
  ⟨(some 0), none, .build [(.int .u8 0), (.int .u8 0), (.int .u8 0), (.int .u8 0), (.int .u8 0), (.int .u8 0), (.int .u8 0), (.int .u8 0), (.int .u8 0), (.int .u8 0), (.int .u8 0), (.int .u8 0), (.int .u8 0), (.int .u8 0), (.int .u8 0), (.int .u8 0), (.int .u8 0), (.int .u8 0), (.int .u8 0), (.int .u8 0), (.int .u8 0), (.int .u8 0), (.int .u8 0), (.int .u8 0), (.int .u8 0), (.int .u8 0), (.int .u8 0), (.int .u8 0), (.int .u8 0), (.int .u8 0), (.int .u8 0), (.int .u8 0), (.int .u8 0), (.int .u8 0), (.int .u8 0), (.int .u8 0), (.int .u8 0), (.int .u8 0), (.int .u8 0), (.int .u8 0), (.int .u8 0), (.int .u8 0), (.int .u8 0), (.int .u8 0), (.int .u8 0), (.int .u8 0), (.int .u8 0), (.int .u8 0), (.int .u8 0), (.int .u8 0), (.int .u8 0), (.int .u8 0), (.int .u8 0), (.int .u8 0), (.int .u8 0), (.int .u8 0), (.int .u8 0), (.int .u8 0), (.int .u8 0), (.int .u8 0), (.int .u8 0), (.int .u8 0), (.int .u8 0), (.int .u8 0)] [(0, 1, (.c (.int .u8 0))), (1, 1, (.c (.int .u8 1))), (2, 1, (.c (.int .u8 56))), (3, 1, (.c (.int .u8 2))), (4, 1, (.c (.int .u8 57))), (5, 1, (.c (.int .u8 49))), (6, 1, (.c (.int .u8 28))), (7, 1, (.c (.int .u8 3))), (8, 1, (.c (.int .u8 61))), (9, 1, (.c (.int .u8 58))), (10, 1, (.c (.int .u8 42))), (11, 1, (.c (.int .u8 50))), (12, 1, (.c (.int .u8 38))), (13, 1, (.c (.int .u8 29))), (14, 1, (.c (.int .u8 17))), (15, 1, (.c (.int .u8 4))), (16, 1, (.c (.int .u8 62))), (17, 1, (.c (.int .u8 47))), (18, 1, (.c (.int .u8 59))), (19, 1, (.c (.int .u8 36))), (20, 1, (.c (.int .u8 45))), (21, 1, (.c (.int .u8 43))), (22, 1, (.c (.int .u8 51))), (23, 1, (.c (.int .u8 22))), (24, 1, (.c (.int .u8 53))), (25, 1, (.c (.int .u8 39))), (26, 1, (.c (.int .u8 33))), (27, 1, (.c (.int .u8 30))), (28, 1, (.c (.int .u8 24))), (29, 1, (.c (.int .u8 18))), (30, 1, (.c (.int .u8 12))), (31, 1, (.c (.int .u8 5))), (32, 1, (.c (.int .u8 63))), (33, 1, (.c (.int .u8 55))), (34, 1, (.c (.int .u8 48))), (35, 1, (.c (.int .u8 27))), (36, 1, (.c (.int .u8 60))), (37, 1, (.c (.int .u8 41))), (38, 1, (.c (.int .u8 37))), (39, 1, (.c (.int .u8 16))), (40, 1, (.c (.int .u8 46))), (41, 1, (.c (.int .u8 35))), (42, 1, (.c (.int .u8 44))), (43, 1, (.c (.int .u8 21))), (44, 1, (.c (.int .u8 52))), (45, 1, (.c (.int .u8 32))), (46, 1, (.c (.int .u8 23))), (47, 1, (.c (.int .u8 11))), (48, 1, (.c (.int .u8 54))), (49, 1, (.c (.int .u8 26))), (50, 1, (.c (.int .u8 40))), (51, 1, (.c (.int .u8 15))), (52, 1, (.c (.int .u8 34))), (53, 1, (.c (.int .u8 20))), (54, 1, (.c (.int .u8 31))), (55, 1, (.c (.int .u8 10))), (56, 1, (.c (.int .u8 25))), (57, 1, (.c (.int .u8 14))), (58, 1, (.c (.int .u8 19))), (59, 1, (.c (.int .u8 9))), (60, 1, (.c (.int .u8 13))), (61, 1, (.c (.int .u8 8))), (62, 1, (.c (.int .u8 7))), (63, 1, (.c (.int .u8 6)))], .any⟩,
  ⟨none, none, .store 64 (.c (Glob.G Tryd.prog 0)) (.t 0), .any⟩]
@[reducible] def e49 : EF := ⟨1, 0, [], (.reg e49r0)⟩
theorem e49_ok : compFn Tryd.prog {} Tryd.f49 = some e49 := by kernel_rfl
theorem e49_nm : (Tryd.f49.name == "runtime.NumGoroutine") = false := by kernel_rfl
end Go.Proofs
