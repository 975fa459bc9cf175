/-
  Part of a proof that a law of the given program answers true: contracts of its functions, and the law. Holds for inputs of at most 1048576 values and letters in all.
-/
import Derived.Test.YtpnfbnlhjdnnpaaCA
set_option linter.unusedSimpArgs false
set_option linter.unusedVariables false
set_option maxRecDepth 100000
namespace Go.Proofs
open Go.E
/- yucca/yuccaref7.May -/
@[reducible] def e39r0 : List Ins := [
  ⟨(some 1), none, .box 4 (.t 0), .any⟩,
  ⟨(some 2), none, .mov (.c (.bool false)), .any⟩]
@[reducible] def e39r1 : List Ins := [
  ⟨(some 3), none, .mov (.c (.int .i64 0)), .any⟩]
@[reducible] def e39r2 : List Ins := [
  ⟨(some 8), none, .mov (.t 3), .any⟩,
  ⟨(some 9), none, .bin .add (.t 8) (.c (.int .i64 1)), .any⟩,
  ⟨(some 10), none, .faddr 0 (.t 1), .any⟩,
  ⟨(some 11), none, .load false 1 (.t 10), .any⟩,
  ⟨(some 12), none, .lenS (.t 11), .any⟩,
  ⟨(some 13), none, .bin .lss (.t 9) (.t 12), .any⟩]
@[reducible] def e39n3 : EC := .cond (.t 13) .skip (.exit 0)
@[reducible] def e39n4 : EC := .seq (.reg e39r2) e39n3
@[reducible] def e39r5 : List Ins := [
  ⟨(some 16), none, .faddr 0 (.t 1), .any⟩,
  ⟨(some 17), none, .load false 1 (.t 16), .any⟩,
  ⟨(some 18), none, .mov (.t 3), .any⟩,
  ⟨(some 19), none, .mov (.t 3), .any⟩,
  ⟨(some 20), none, .bin .add (.t 19) (.c (.int .i64 2)), .any⟩,
  ⟨(some 21), none, .slcS (.t 17) (some (.t 18)) (some (.t 20)), .any⟩,
  ⟨(some 22), none, .bin .eql (.t 21) (.c (.str [37, 125])), .any⟩]
@[reducible] def e39r6 : List Ins := [
  ⟨(some 2), none, .mov (.c (.bool false)), .any⟩]
@[reducible] def e39n7 : EC := .seq (.reg e39r6) .ret
@[reducible] def e39n8 : EC := .cond (.t 22) e39n7 .skip
@[reducible] def e39n9 : EC := .seq (.reg e39r5) e39n8
@[reducible] def e39n10 : EC := .block 1 e39n9
@[reducible] def e39r11 : List Ins := [
  ⟨(some 14), none, .mov (.t 3), .any⟩,
  ⟨(some 15), none, .bin .add (.t 14) (.c (.int .i64 1)), .any⟩,
  ⟨(some 3), none, .mov (.t 15), .any⟩]
@[reducible] def e39n12 : EC := .seq e39n10 (.reg e39r11)
@[reducible] def e39n13 : EC := .seq e39n4 e39n12
@[reducible] def e39n14 : EC := .loop e39n13
@[reducible] def e39n15 : EC := .block 0 e39n14
@[reducible] def e39n16 : EC := .seq (.reg e39r1) e39n15
@[reducible] def e39r17 : List Ins := [
  ⟨(some 4), none, .mov (.c (.int .i64 0)), .any⟩]
@[reducible] def e39r18 : List Ins := [
  ⟨(some 23), none, .mov (.t 4), .any⟩,
  ⟨(some 24), none, .faddr 1 (.t 1), .any⟩,
  ⟨(some 25), none, .load false 1 (.t 24), .any⟩,
  ⟨(some 26), none, .len (.t 25), .any⟩,
  ⟨(some 27), none, .bin .lss (.t 23) (.t 26), .any⟩]
@[reducible] def e39n19 : EC := .cond (.t 27) .skip (.exit 2)
@[reducible] def e39n20 : EC := .seq (.reg e39r18) e39n19
@[reducible] def e39r21 : List Ins := [
  ⟨(some 30), none, .faddr 1 (.t 1), .any⟩,
  ⟨(some 31), none, .load false 1 (.t 30), .any⟩,
  ⟨(some 32), none, .mov (.t 4), .any⟩,
  ⟨(some 33), none, .iaddr 4 (.t 31) (.t 32), .any⟩,
  ⟨(some 34), none, .load true 4 (.t 33), .any⟩,
  ⟨(some 35), none, .call (.c (.fn 48 [])) [(.t 34)], .any⟩,
  ⟨(some 36), none, .un .not (.t 35), .any⟩]
@[reducible] def e39r22 : List Ins := [
  ⟨(some 2), none, .mov (.c (.bool false)), .any⟩]
@[reducible] def e39n23 : EC := .seq (.reg e39r22) .ret
@[reducible] def e39n24 : EC := .cond (.t 36) e39n23 .skip
@[reducible] def e39n25 : EC := .seq (.reg e39r21) e39n24
@[reducible] def e39n26 : EC := .block 3 e39n25
@[reducible] def e39r27 : List Ins := [
  ⟨(some 28), none, .mov (.t 4), .any⟩,
  ⟨(some 29), none, .bin .add (.t 28) (.c (.int .i64 1)), .any⟩,
  ⟨(some 4), none, .mov (.t 29), .any⟩]
@[reducible] def e39n28 : EC := .seq e39n26 (.reg e39r27)
@[reducible] def e39n29 : EC := .seq e39n20 e39n28
@[reducible] def e39n30 : EC := .loop e39n29
@[reducible] def e39n31 : EC := .block 2 e39n30
@[reducible] def e39n32 : EC := .seq (.reg e39r17) e39n31
@[reducible] def e39r33 : List Ins := [
  ⟨(some 5), none, .mov (.c (.int .i64 0)), .any⟩]
@[reducible] def e39r34 : List Ins := [
  ⟨(some 37), none, .mov (.t 5), .any⟩,
  ⟨(some 38), none, .faddr 2 (.t 1), .any⟩,
  ⟨(some 39), none, .load false 1 (.t 38), .any⟩,
  ⟨(some 40), none, .len (.t 39), .any⟩,
  ⟨(some 41), none, .bin .lss (.t 37) (.t 40), .any⟩]
@[reducible] def e39n35 : EC := .cond (.t 41) .skip (.exit 4)
@[reducible] def e39n36 : EC := .seq (.reg e39r34) e39n35
@[reducible] def e39r37 : List Ins := [
  ⟨(some 44), none, .faddr 2 (.t 1), .any⟩,
  ⟨(some 45), none, .load false 1 (.t 44), .any⟩,
  ⟨(some 46), none, .mov (.t 5), .any⟩,
  ⟨(some 47), none, .iaddr 3 (.t 45) (.t 46), .any⟩,
  ⟨(some 48), none, .load true 3 (.t 47), .any⟩,
  ⟨(some 6), none, .alloc 3 (.agg [(.str []), (.sl 6 true []), (.int .i64 0)]), .any⟩,
  ⟨none, none, .store 3 (.t 6) (.t 48), .any⟩]
@[reducible] def e39r38 : List Ins := [
  ⟨(some 49), none, .faddr 0 (.t 6), .any⟩,
  ⟨(some 50), none, .load false 1 (.t 49), .any⟩,
  ⟨(some 51), none, .call (.c (.fn 49 [])) [(.t 50)], .any⟩,
  ⟨(some 52), none, .un .not (.t 51), .any⟩,
  ⟨(some 53), none, .mov (.t 52), .any⟩,
  ⟨(some 54), (some (53, false)), .faddr 1 (.t 6), .any⟩,
  ⟨(some 55), (some (53, false)), .load false 1 (.t 54), .any⟩,
  ⟨(some 56), (some (53, false)), .len (.t 55), .any⟩,
  ⟨(some 57), (some (53, false)), .bin .eql (.t 56) (.c (.int .i64 0)), .any⟩,
  ⟨(some 58), none, .pick (.t 53) (.c (.bool true)) (.t 57), .any⟩]
@[reducible] def e39r39 : List Ins := [
  ⟨(some 2), none, .mov (.c (.bool false)), .any⟩]
@[reducible] def e39n40 : EC := .seq (.reg e39r39) .ret
@[reducible] def e39n41 : EC := .cond (.t 58) e39n40 .skip
@[reducible] def e39n42 : EC := .seq (.reg e39r38) e39n41
@[reducible] def e39r43 : List Ins := [
  ⟨(some 7), none, .mov (.c (.int .i64 0)), .any⟩]
@[reducible] def e39r44 : List Ins := [
  ⟨(some 59), none, .mov (.t 7), .any⟩,
  ⟨(some 60), none, .faddr 1 (.t 6), .any⟩,
  ⟨(some 61), none, .load false 1 (.t 60), .any⟩,
  ⟨(some 62), none, .len (.t 61), .any⟩,
  ⟨(some 63), none, .bin .lss (.t 59) (.t 62), .any⟩]
@[reducible] def e39n45 : EC := .cond (.t 63) .skip (.exit 6)
@[reducible] def e39n46 : EC := .seq (.reg e39r44) e39n45
@[reducible] def e39r47 : List Ins := [
  ⟨(some 66), none, .faddr 1 (.t 6), .any⟩,
  ⟨(some 67), none, .load false 1 (.t 66), .any⟩,
  ⟨(some 68), none, .mov (.t 7), .any⟩,
  ⟨(some 69), none, .iaddr 6 (.t 67) (.t 68), .any⟩,
  ⟨(some 70), none, .load true 6 (.t 69), .any⟩,
  ⟨(some 71), none, .call (.c (.fn 50 [])) [(.t 70)], .any⟩,
  ⟨(some 72), none, .un .not (.t 71), .any⟩]
@[reducible] def e39r48 : List Ins := [
  ⟨(some 2), none, .mov (.c (.bool false)), .any⟩]
@[reducible] def e39n49 : EC := .seq (.reg e39r48) .ret
@[reducible] def e39n50 : EC := .cond (.t 72) e39n49 .skip
@[reducible] def e39n51 : EC := .seq (.reg e39r47) e39n50
@[reducible] def e39n52 : EC := .block 7 e39n51
@[reducible] def e39r53 : List Ins := [
  ⟨(some 64), none, .mov (.t 7), .any⟩,
  ⟨(some 65), none, .bin .add (.t 64) (.c (.int .i64 1)), .any⟩,
  ⟨(some 7), none, .mov (.t 65), .any⟩]
@[reducible] def e39n54 : EC := .seq e39n52 (.reg e39r53)
@[reducible] def e39n55 : EC := .seq e39n46 e39n54
@[reducible] def e39n56 : EC := .loop e39n55
@[reducible] def e39n57 : EC := .block 6 e39n56
@[reducible] def e39n58 : EC := .seq (.reg e39r43) e39n57
@[reducible] def e39n59 : EC := .seq e39n42 e39n58
@[reducible] def e39n60 : EC := .seq (.reg e39r37) e39n59
@[reducible] def e39n61 : EC := .block 5 e39n60
@[reducible] def e39r62 : List Ins := [
  ⟨(some 42), none, .mov (.t 5), .any⟩,
  ⟨(some 43), none, .bin .add (.t 42) (.c (.int .i64 1)), .any⟩,
  ⟨(some 5), none, .mov (.t 43), .any⟩]
@[reducible] def e39n63 : EC := .seq e39n61 (.reg e39r62)
@[reducible] def e39n64 : EC := .seq e39n36 e39n63
@[reducible] def e39n65 : EC := .loop e39n64
@[reducible] def e39n66 : EC := .block 4 e39n65
@[reducible] def e39n67 : EC := .seq (.reg e39r33) e39n66
@[reducible] def e39r68 : List Ins := [
  ⟨(some 73), none, .faddr 2 (.t 1), .any⟩,
  ⟨(some 74), none, .load false 1 (.t 73), .any⟩,
  ⟨(some 75), none, .len (.t 74), .any⟩,
  ⟨(some 76), none, .bin .gtr (.t 75) (.c (.int .i64 0)), .any⟩,
  ⟨(some 2), none, .mov (.t 76), .any⟩]
@[reducible] def e39n69 : EC := .seq (.reg e39r68) .ret
@[reducible] def e39n70 : EC := .seq e39n67 e39n69
@[reducible] def e39n71 : EC := .seq e39n32 e39n70
@[reducible] def e39n72 : EC := .seq e39n16 e39n71
@[reducible] def e39n73 : EC := .seq (.reg e39r0) e39n72
@[reducible] def e39 : EF := ⟨77, 1, [(.inl 2)], e39n73⟩
theorem e39_ok : compFn Try.prog {} Try.f39 = some e39 := by kernel_rfl
theorem e39_nm : (Try.f39.name == "runtime.NumGoroutine") = false := by kernel_rfl
/- (yucca/yuccaref9.maker).declare -/
@[reducible] def e40r0 : List Ins := [
  ⟨(some 4), none, .box 4 (.t 1), .any⟩,
  ⟨(some 5), none, .box 4 (.t 2), .any⟩]
@[reducible] def e40r1 : List Ins := [
  ⟨(some 9), none, .faddr 0 (.t 4), .any⟩,
  ⟨(some 10), none, .load false 1 (.t 9), .any⟩,
  ⟨(some 11), none, .bin .eql (.t 10) (.c (.int .i64 5)), .any⟩]
@[reducible] def e40r2 : List Ins := [
  ⟨(some 12), none, .mov (.t 0), .any⟩,
  ⟨(some 13), none, .faddr 0 (.t 5), .any⟩,
  ⟨(some 14), none, .load false 1 (.t 13), .any⟩,
  ⟨(some 15), none, .call (.c (.fn 45 [])) [(.t 12), (.t 14)], .any⟩,
  ⟨(some 6), none, .mov (.t 15), .any⟩]
@[reducible] def e40r3 : List Ins := [
  ⟨(some 16), none, .mov (.t 6), .any⟩,
  ⟨(some 17), none, .bin .lss (.t 16) (.c (.int .i64 0)), .any⟩]
@[reducible] def e40r4 : List Ins := [
  ⟨(some 18), none, .mov (.t 0), .n⟩,
  ⟨(some 19), none, .mov (.t 0), .n⟩,
  ⟨(some 20), none, .nilck (.t 19), .n⟩,
  ⟨(some 21), none, .faddr 6 (.t 20), .n⟩,
  ⟨(some 22), none, .load false 1 (.t 21), .r⟩,
  ⟨(some 23), none, .faddr 0 (.t 5), .n⟩,
  ⟨(some 24), none, .load false 1 (.t 23), .r⟩,
  ⟨(some 25), none, .faddr 1 (.t 4), .n⟩,
  ⟨(some 26), none, .load false 1 (.t 25), .r⟩,
  ⟨(some 27), none, .build [(.str []), (.str [])] [(0, 1, (.t 24)), (1, 1, (.t 26))], .n⟩,
  ⟨(some 28), none, .lit false 2 true (.agg [(.str []), (.str [])]) 1 [(0, (.t 27))], .n⟩,
  ⟨(some 29), none, .append false 2 32 (.t 22) (.t 28), .t⟩,
  ⟨(some 30), none, .nilck (.t 18), .n⟩,
  ⟨(some 31), none, .faddr 6 (.t 30), .n⟩,
  ⟨none, none, .store 1 (.t 31) (.t 29), .w⟩]
@[reducible] def e40r5 : List Ins := [
  ⟨(some 32), none, .mov (.t 0), .n⟩,
  ⟨(some 33), none, .nilck (.t 32), .n⟩,
  ⟨(some 34), none, .faddr 6 (.t 33), .n⟩,
  ⟨(some 35), none, .load false 1 (.t 34), .r⟩,
  ⟨(some 36), none, .mov (.t 6), .n⟩,
  ⟨(some 37), none, .iaddr 2 (.t 35) (.t 36), .n⟩,
  ⟨(some 38), none, .faddr 1 (.t 37), .n⟩,
  ⟨(some 39), none, .load false 1 (.t 38), .r⟩,
  ⟨(some 40), none, .faddr 1 (.t 4), .n⟩,
  ⟨(some 41), none, .load false 1 (.t 40), .r⟩,
  ⟨(some 42), none, .bin .neq (.t 39) (.t 41), .n⟩]
@[reducible] def e40r6 : List Ins := [
  ⟨(some 43), none, .mov (.t 0), .any⟩,
  ⟨(some 44), none, .faddr 3 (.t 5), .any⟩,
  ⟨(some 45), none, .load false 1 (.t 44), .any⟩,
  ⟨(some 46), none, .faddr 0 (.t 5), .any⟩,
  ⟨(some 47), none, .load false 1 (.t 46), .any⟩,
  ⟨(some 48), none, .call (.c (.fn 41 [])) [(.t 43), (.t 45), (.t 47)], .any⟩]
@[reducible] def e40n7 : EC := .cond (.t 42) (.reg e40r6) .skip
@[reducible] def e40n8 : EC := .seq (.reg e40r5) e40n7
@[reducible] def e40n9 : EC := .cond (.t 17) (.reg e40r4) e40n8
@[reducible] def e40n10 : EC := .seq (.reg e40r3) e40n9
@[reducible] def e40n11 : EC := .seq e40n10 .ret
@[reducible] def e40n12 : EC := .seq (.reg e40r2) e40n11
@[reducible] def e40n13 : EC := .cond (.t 11) e40n12 .skip
@[reducible] def e40n14 : EC := .seq (.reg e40r1) e40n13
@[reducible] def e40r15 : List Ins := [
  ⟨(some 49), none, .mov (.t 0), .any⟩,
  ⟨(some 50), none, .load true 4 (.t 5), .any⟩,
  ⟨(some 51), none, .call (.c (.fn 51 [])) [(.t 49), (.t 50)], .any⟩,
  ⟨(some 7), none, .mov (.t 51), .any⟩]
@[reducible] def e40r16 : List Ins := [
  ⟨(some 52), none, .mov (.t 0), .any⟩,
  ⟨(some 53), none, .nilck (.t 52), .any⟩,
  ⟨(some 54), none, .faddr 0 (.t 53), .any⟩,
  ⟨(some 55), none, .faddr 0 (.t 54), .any⟩,
  ⟨(some 56), none, .load false 1 (.t 55), .any⟩,
  ⟨(some 57), none, .mov (.t 7), .any⟩,
  ⟨(some 58), none, .iaddr 6 (.t 56) (.t 57), .any⟩,
  ⟨(some 8), none, .mov (.t 58), .any⟩]
@[reducible] def e40r17 : List Ins := [
  ⟨(some 59), none, .faddr 0 (.t 4), .any⟩,
  ⟨(some 60), none, .load false 1 (.t 59), .any⟩,
  ⟨(some 61), none, .bin .neq (.t 60) (.c (.int .i64 1)), .any⟩]
@[reducible] def e40r18 : List Ins := [
  ⟨(some 62), none, .mov (.t 8), .any⟩,
  ⟨(some 63), none, .nilck (.t 62), .any⟩,
  ⟨(some 64), none, .faddr 3 (.t 63), .any⟩,
  ⟨(some 65), none, .load false 1 (.t 64), .any⟩,
  ⟨(some 66), none, .bin .gtr (.t 65) (.c (.int .i64 0)), .any⟩]
@[reducible] def e40r19 : List Ins := [
  ⟨(some 67), none, .mov (.t 0), .any⟩,
  ⟨(some 68), none, .faddr 3 (.t 5), .any⟩,
  ⟨(some 69), none, .load false 1 (.t 68), .any⟩,
  ⟨(some 70), none, .faddr 0 (.t 5), .any⟩,
  ⟨(some 71), none, .load false 1 (.t 70), .any⟩,
  ⟨(some 72), none, .call (.c (.fn 41 [])) [(.t 67), (.t 69), (.t 71)], .any⟩]
@[reducible] def e40n20 : EC := .cond (.t 66) (.reg e40r19) .skip
@[reducible] def e40n21 : EC := .seq (.reg e40r18) e40n20
@[reducible] def e40r22 : List Ins := [
  ⟨(some 73), none, .mov (.t 8), .n⟩,
  ⟨(some 74), none, .mov (.t 8), .n⟩,
  ⟨(some 75), none, .mov (.t 0), .n⟩,
  ⟨(some 76), none, .nilck (.t 75), .n⟩,
  ⟨(some 77), none, .faddr 11 (.t 76), .n⟩,
  ⟨(some 78), none, .load false 1 (.t 77), (.l 26)⟩,
  ⟨(some 79), none, .faddr 0 (.t 4), .n⟩,
  ⟨(some 80), none, .load false 1 (.t 79), (.l 8)⟩,
  ⟨(some 81), none, .bin .sub (.t 80) (.c (.int .i64 1)), .n⟩,
  ⟨(some 82), none, .nilck (.t 73), .n⟩,
  ⟨(some 83), none, .faddr 3 (.t 82), .n⟩,
  ⟨none, none, .store 1 (.t 83) (.t 78), (.s 13)⟩,
  ⟨(some 84), none, .nilck (.t 74), .n⟩,
  ⟨(some 85), none, .faddr 4 (.t 84), .n⟩,
  ⟨none, none, .store 1 (.t 85) (.t 81), (.s 13)⟩]
@[reducible] def e40n23 : EC := .seq e40n21 (.reg e40r22)
@[reducible] def e40n24 : EC := .cond (.t 61) e40n23 .skip
@[reducible] def e40n25 : EC := .seq (.reg e40r17) e40n24
@[reducible] def e40r26 : List Ins := [
  ⟨(some 86), none, .faddr 2 (.t 5), .any⟩,
  ⟨(some 87), none, .load false 1 (.t 86), .any⟩,
  ⟨(some 88), none, .bin .gtr (.t 87) (.c (.int .i64 0)), .any⟩]
@[reducible] def e40r27 : List Ins := [
  ⟨(some 89), none, .mov (.t 7), .any⟩,
  ⟨(some 90), none, .bin .eql (.t 89) (.c (.int .i64 1)), .any⟩,
  ⟨(some 91), none, .mov (.t 90), .any⟩,
  ⟨(some 92), (some (91, false)), .mov (.t 0), .any⟩,
  ⟨(some 93), (some (91, false)), .nilck (.t 92), .any⟩,
  ⟨(some 94), (some (91, false)), .faddr 5 (.t 93), .any⟩,
  ⟨(some 95), (some (91, false)), .load false 1 (.t 94), .any⟩,
  ⟨(some 96), (some (91, false)), .mov (.t 7), .any⟩,
  ⟨(some 97), (some (91, false)), .iaddr 1 (.t 95) (.t 96), .any⟩,
  ⟨(some 98), (some (91, false)), .load false 1 (.t 97), .any⟩,
  ⟨(some 99), none, .pick (.t 91) (.c (.bool true)) (.t 98), .any⟩,
  ⟨(some 100), none, .mov (.t 99), .any⟩,
  ⟨(some 101), (some (100, false)), .mov (.t 0), .any⟩,
  ⟨(some 102), (some (100, false)), .faddr 2 (.t 5), .any⟩,
  ⟨(some 103), (some (100, false)), .load false 1 (.t 102), .any⟩,
  ⟨(some 104), (some (100, false)), .call (.c (.fn 52 [])) [(.t 101), (.t 103)], .any⟩,
  ⟨(some 105), (some (100, false)), .bin .geq (.t 104) (.c (.int .i64 0)), .any⟩,
  ⟨(some 106), none, .pick (.t 100) (.c (.bool true)) (.t 105), .any⟩]
@[reducible] def e40r28 : List Ins := [
  ⟨(some 107), none, .mov (.t 0), .any⟩,
  ⟨(some 108), none, .faddr 3 (.t 5), .any⟩,
  ⟨(some 109), none, .load false 1 (.t 108), .any⟩,
  ⟨(some 110), none, .faddr 0 (.t 5), .any⟩,
  ⟨(some 111), none, .load false 1 (.t 110), .any⟩,
  ⟨(some 112), none, .call (.c (.fn 41 [])) [(.t 107), (.t 109), (.t 111)], .any⟩]
@[reducible] def e40n29 : EC := .cond (.t 106) (.reg e40r28) .skip
@[reducible] def e40n30 : EC := .seq (.reg e40r27) e40n29
@[reducible] def e40r31 : List Ins := [
  ⟨(some 113), none, .mov (.t 8), .any⟩,
  ⟨(some 114), none, .faddr 2 (.t 5), .any⟩,
  ⟨(some 115), none, .load false 1 (.t 114), .any⟩,
  ⟨(some 116), none, .nilck (.t 113), .any⟩,
  ⟨(some 117), none, .faddr 2 (.t 116), .any⟩,
  ⟨none, none, .store 1 (.t 117) (.t 115), .any⟩]
@[reducible] def e40r32 : List Ins := [
  ⟨(some 118), none, .mov (.t 0), .any⟩,
  ⟨(some 119), none, .nilck (.t 118), .any⟩,
  ⟨(some 120), none, .faddr 5 (.t 119), .any⟩,
  ⟨(some 121), none, .load false 1 (.t 120), .any⟩,
  ⟨(some 122), none, .mov (.t 7), .any⟩,
  ⟨(some 123), none, .iaddr 1 (.t 121) (.t 122), .any⟩,
  ⟨none, none, .store 1 (.t 123) (.c (.bool true)), .any⟩]
@[reducible] def e40n33 : EC := .seq (.reg e40r31) (.reg e40r32)
@[reducible] def e40n34 : EC := .seq e40n30 e40n33
@[reducible] def e40n35 : EC := .cond (.t 88) e40n34 .skip
@[reducible] def e40n36 : EC := .seq (.reg e40r26) e40n35
@[reducible] def e40r37 : List Ins := [
  ⟨(some 124), none, .faddr 1 (.t 4), .any⟩,
  ⟨(some 125), none, .load false 1 (.t 124), .any⟩,
  ⟨(some 126), none, .bin .neq (.t 125) (.c (.str [])), .any⟩]
@[reducible] def e40r38 : List Ins := [
  ⟨(some 127), none, .mov (.t 8), .n⟩,
  ⟨(some 128), none, .nilck (.t 127), .n⟩,
  ⟨(some 129), none, .faddr 5 (.t 128), .n⟩,
  ⟨(some 130), none, .load false 1 (.t 129), .r⟩,
  ⟨(some 131), none, .bin .neq (.t 130) (.c (.str [])), .n⟩,
  ⟨(some 132), none, .mov (.t 131), .n⟩,
  ⟨(some 133), (some (132, true)), .mov (.t 8), .n⟩,
  ⟨(some 134), (some (132, true)), .nilck (.t 133), .n⟩,
  ⟨(some 135), (some (132, true)), .faddr 5 (.t 134), .n⟩,
  ⟨(some 136), (some (132, true)), .load false 1 (.t 135), .r⟩,
  ⟨(some 137), (some (132, true)), .faddr 1 (.t 4), .n⟩,
  ⟨(some 138), (some (132, true)), .load false 1 (.t 137), .r⟩,
  ⟨(some 139), (some (132, true)), .bin .neq (.t 136) (.t 138), .n⟩,
  ⟨(some 140), none, .pick (.t 132) (.t 139) (.c (.bool false)), .n⟩]
@[reducible] def e40r39 : List Ins := [
  ⟨(some 141), none, .mov (.t 0), .any⟩,
  ⟨(some 142), none, .faddr 3 (.t 5), .any⟩,
  ⟨(some 143), none, .load false 1 (.t 142), .any⟩,
  ⟨(some 144), none, .faddr 0 (.t 5), .any⟩,
  ⟨(some 145), none, .load false 1 (.t 144), .any⟩,
  ⟨(some 146), none, .call (.c (.fn 41 [])) [(.t 141), (.t 143), (.t 145)], .any⟩]
@[reducible] def e40n40 : EC := .cond (.t 140) (.reg e40r39) .skip
@[reducible] def e40n41 : EC := .seq (.reg e40r38) e40n40
@[reducible] def e40r42 : List Ins := [
  ⟨(some 147), none, .mov (.t 8), .any⟩,
  ⟨(some 148), none, .faddr 1 (.t 4), .any⟩,
  ⟨(some 149), none, .load false 1 (.t 148), .any⟩,
  ⟨(some 150), none, .nilck (.t 147), .any⟩,
  ⟨(some 151), none, .faddr 5 (.t 150), .any⟩,
  ⟨none, none, .store 1 (.t 151) (.t 149), .any⟩]
@[reducible] def e40n43 : EC := .seq e40n41 (.reg e40r42)
@[reducible] def e40n44 : EC := .cond (.t 126) e40n43 .skip
@[reducible] def e40n45 : EC := .seq (.reg e40r37) e40n44
@[reducible] def e40n46 : EC := .seq e40n36 e40n45
@[reducible] def e40n47 : EC := .seq e40n25 e40n46
@[reducible] def e40n48 : EC := .seq (.reg e40r16) e40n47
@[reducible] def e40n49 : EC := .seq (.reg e40r15) e40n48
@[reducible] def e40n50 : EC := .seq e40n14 e40n49
@[reducible] def e40n51 : EC := .seq (.reg e40r0) e40n50
@[reducible] def e40 : EF := ⟨152, 3, [], e40n51⟩
theorem e40_ok : compFn Try.prog { mu := fun t => [].contains t, cl := fun r i => ([(12, 5, Cls.l 26), (12, 7, Cls.l 8), (12, 11, Cls.s 13), (12, 14, Cls.s 13), (2, 3, Cls.b), (6, 5, Cls.w), (7, 2, Cls.w), (11, 5, Cls.w), (14, 15, Cls.b), (15, 5, Cls.w), (20, 5, Cls.w)].find? fun x => x.1 == r && x.2.1 == i).map (·.2.2) } Try.f40 = some e40 := by kernel_rfl
theorem e40_nm : (Try.f40.name == "runtime.NumGoroutine") = false := by kernel_rfl
/- (yucca/yuccaref9.maker).fail -/
@[reducible] def e41r0 : List Ins := [
  ⟨(some 6), none, .mov (.t 0), .any⟩,
  ⟨(some 7), none, .nilck (.t 6), .any⟩,
  ⟨(some 8), none, .faddr 8 (.t 7), .any⟩,
  ⟨(some 9), none, .load false 1 (.t 8), .any⟩,
  ⟨(some 10), none, .bin .eql (.t 9) (.c (.int .i64 0)), .any⟩]
@[reducible] def e41r1 : List Ins := [
  ⟨(some 11), none, .mov (.t 0), .any⟩,
  ⟨(some 12), none, .mov (.t 0), .any⟩,
  ⟨(some 13), none, .mov (.t 0), .any⟩,
  ⟨(some 14), none, .mov (.t 1), .any⟩,
  ⟨(some 15), none, .mov (.t 2), .any⟩,
  ⟨(some 16), none, .nilck (.t 11), .any⟩,
  ⟨(some 17), none, .faddr 8 (.t 16), .any⟩,
  ⟨none, none, .store 1 (.t 17) (.c (.int .i64 3)), .any⟩,
  ⟨(some 18), none, .nilck (.t 12), .any⟩,
  ⟨(some 19), none, .faddr 9 (.t 18), .any⟩,
  ⟨none, none, .store 1 (.t 19) (.t 14), .any⟩,
  ⟨(some 20), none, .nilck (.t 13), .any⟩,
  ⟨(some 21), none, .faddr 10 (.t 20), .any⟩,
  ⟨none, none, .store 1 (.t 21) (.t 15), .any⟩]
@[reducible] def e41n2 : EC := .cond (.t 10) (.reg e41r1) .skip
@[reducible] def e41n3 : EC := .seq (.reg e41r0) e41n2
@[reducible] def e41 : EF := ⟨22, 3, [], e41n3⟩
theorem e41_ok : compFn Try.prog {} Try.f41 = some e41 := by kernel_rfl
theorem e41_nm : (Try.f41.name == "runtime.NumGoroutine") = false := by kernel_rfl
/- (yucca/yuccaref9.maker).tok -/
@[reducible] def e42r0 : List Ins := [
  ⟨(some 3), none, .box 4 (.t 1), .any⟩,
  ⟨(some 4), none, .mov (.c (.int .i64 0)), .any⟩]
@[reducible] def e42r1 : List Ins := [
  ⟨(some 5), none, .mov (.c (.int .i64 1)), .any⟩]
@[reducible] def e42r2 : List Ins := [
  ⟨(some 6), none, .mov (.t 5), .any⟩,
  ⟨(some 7), none, .mov (.t 0), .any⟩,
  ⟨(some 8), none, .nilck (.t 7), .any⟩,
  ⟨(some 9), none, .faddr 0 (.t 8), .any⟩,
  ⟨(some 10), none, .faddr 0 (.t 9), .any⟩,
  ⟨(some 11), none, .load false 1 (.t 10), .any⟩,
  ⟨(some 12), none, .len (.t 11), .any⟩,
  ⟨(some 13), none, .bin .lss (.t 6) (.t 12), .any⟩]
@[reducible] def e42n3 : EC := .cond (.t 13) .skip (.exit 0)
@[reducible] def e42n4 : EC := .seq (.reg e42r2) e42n3
@[reducible] def e42r5 : List Ins := [
  ⟨(some 16), none, .mov (.t 0), .n⟩,
  ⟨(some 17), none, .nilck (.t 16), .n⟩,
  ⟨(some 18), none, .faddr 0 (.t 17), .n⟩,
  ⟨(some 19), none, .faddr 0 (.t 18), .n⟩,
  ⟨(some 20), none, .load false 1 (.t 19), .r⟩,
  ⟨(some 21), none, .mov (.t 5), .n⟩,
  ⟨(some 22), none, .iaddr 6 (.t 20) (.t 21), .n⟩,
  ⟨(some 23), none, .faddr 0 (.t 22), .n⟩,
  ⟨(some 24), none, .load false 1 (.t 23), .r⟩,
  ⟨(some 25), none, .faddr 0 (.t 3), .n⟩,
  ⟨(some 26), none, .load false 1 (.t 25), .r⟩,
  ⟨(some 27), none, .bin .eql (.t 24) (.t 26), .n⟩,
  ⟨(some 28), none, .mov (.t 27), .n⟩,
  ⟨(some 29), (some (28, true)), .mov (.t 0), .n⟩,
  ⟨(some 30), (some (28, true)), .nilck (.t 29), .n⟩,
  ⟨(some 31), (some (28, true)), .faddr 0 (.t 30), .n⟩,
  ⟨(some 32), (some (28, true)), .faddr 0 (.t 31), .n⟩,
  ⟨(some 33), (some (28, true)), .load false 1 (.t 32), .r⟩,
  ⟨(some 34), (some (28, true)), .mov (.t 5), .n⟩,
  ⟨(some 35), (some (28, true)), .iaddr 6 (.t 33) (.t 34), .n⟩,
  ⟨(some 36), (some (28, true)), .faddr 1 (.t 35), .n⟩,
  ⟨(some 37), (some (28, true)), .load false 1 (.t 36), .r⟩,
  ⟨(some 38), (some (28, true)), .faddr 1 (.t 3), .n⟩,
  ⟨(some 39), (some (28, true)), .load false 1 (.t 38), .r⟩,
  ⟨(some 40), (some (28, true)), .eqb false (.t 37) (.t 39), .n⟩,
  ⟨(some 41), none, .pick (.t 28) (.t 40) (.c (.bool false)), .n⟩,
  ⟨(some 42), none, .mov (.t 41), .n⟩,
  ⟨(some 43), (some (42, true)), .mov (.t 5), .n⟩,
  ⟨(some 44), (some (42, true)), .bin .neq (.t 43) (.c (.int .i64 2)), .n⟩,
  ⟨(some 45), none, .pick (.t 42) (.t 44) (.c (.bool false)), .n⟩]
@[reducible] def e42r6 : List Ins := [
  ⟨(some 46), none, .mov (.t 5), .any⟩,
  ⟨(some 4), none, .mov (.t 46), .any⟩]
@[reducible] def e42n7 : EC := .seq (.reg e42r6) .ret
@[reducible] def e42n8 : EC := .cond (.t 45) e42n7 .skip
@[reducible] def e42n9 : EC := .seq (.reg e42r5) e42n8
@[reducible] def e42n10 : EC := .block 1 e42n9
@[reducible] def e42r11 : List Ins := [
  ⟨(some 14), none, .mov (.t 5), .any⟩,
  ⟨(some 15), none, .bin .add (.t 14) (.c (.int .i64 1)), .any⟩,
  ⟨(some 5), none, .mov (.t 15), .any⟩]
@[reducible] def e42n12 : EC := .seq e42n10 (.reg e42r11)
@[reducible] def e42n13 : EC := .seq e42n4 e42n12
@[reducible] def e42n14 : EC := .loop e42n13
@[reducible] def e42n15 : EC := .block 0 e42n14
@[reducible] def e42n16 : EC := .seq (.reg e42r1) e42n15
@[reducible] def e42r17 : List Ins := [
  ⟨(some 4), none, .mov (.c (.int .i64 (-1))), .any⟩]
@[reducible] def e42n18 : EC := .seq (.reg e42r17) .ret
@[reducible] def e42n19 : EC := .seq e42n16 e42n18
@[reducible] def e42n20 : EC := .seq (.reg e42r0) e42n19
@[reducible] def e42 : EF := ⟨47, 2, [(.inl 4)], e42n20⟩
theorem e42_ok : compFn Try.prog {} Try.f42 = some e42 := by kernel_rfl
theorem e42_nm : (Try.f42.name == "runtime.NumGoroutine") = false := by kernel_rfl
/- (yucca/yuccaref9.maker).left -/
@[reducible] def e43r0 : List Ins := [
  ⟨(some 4), none, .mov (.c (.int .i64 0)), .any⟩]
@[reducible] def e43r1 : List Ins := [
  ⟨(some 5), none, .mov (.c (.int .i64 0)), .any⟩]
@[reducible] def e43r2 : List Ins := [
  ⟨(some 6), none, .mov (.t 5), .any⟩,
  ⟨(some 7), none, .mov (.t 0), .any⟩,
  ⟨(some 8), none, .nilck (.t 7), .any⟩,
  ⟨(some 9), none, .faddr 7 (.t 8), .any⟩,
  ⟨(some 10), none, .load false 1 (.t 9), .any⟩,
  ⟨(some 11), none, .len (.t 10), .any⟩,
  ⟨(some 12), none, .bin .lss (.t 6) (.t 11), .any⟩]
@[reducible] def e43n3 : EC := .cond (.t 12) .skip (.exit 0)
@[reducible] def e43n4 : EC := .seq (.reg e43r2) e43n3
@[reducible] def e43r5 : List Ins := [
  ⟨(some 15), none, .mov (.t 0), .any⟩,
  ⟨(some 16), none, .nilck (.t 15), .any⟩,
  ⟨(some 17), none, .faddr 7 (.t 16), .any⟩,
  ⟨(some 18), none, .load false 1 (.t 17), .any⟩,
  ⟨(some 19), none, .mov (.t 5), .any⟩,
  ⟨(some 20), none, .iaddr 1 (.t 18) (.t 19), .any⟩,
  ⟨(some 21), none, .load false 1 (.t 20), .any⟩,
  ⟨(some 22), none, .mov (.t 1), .any⟩,
  ⟨(some 23), none, .bin .eql (.t 21) (.t 22), .any⟩]
@[reducible] def e43r6 : List Ins := [
  ⟨(some 24), none, .mov (.t 5), .any⟩,
  ⟨(some 4), none, .mov (.t 24), .any⟩]
@[reducible] def e43n7 : EC := .seq (.reg e43r6) .ret
@[reducible] def e43n8 : EC := .cond (.t 23) e43n7 .skip
@[reducible] def e43n9 : EC := .seq (.reg e43r5) e43n8
@[reducible] def e43n10 : EC := .block 1 e43n9
@[reducible] def e43r11 : List Ins := [
  ⟨(some 13), none, .mov (.t 5), .any⟩,
  ⟨(some 14), none, .bin .add (.t 13) (.c (.int .i64 1)), .any⟩,
  ⟨(some 5), none, .mov (.t 14), .any⟩]
@[reducible] def e43n12 : EC := .seq e43n10 (.reg e43r11)
@[reducible] def e43n13 : EC := .seq e43n4 e43n12
@[reducible] def e43n14 : EC := .loop e43n13
@[reducible] def e43n15 : EC := .block 0 e43n14
@[reducible] def e43n16 : EC := .seq (.reg e43r1) e43n15
@[reducible] def e43r17 : List Ins := [
  ⟨(some 4), none, .mov (.c (.int .i64 (-1))), .any⟩]
@[reducible] def e43n18 : EC := .seq (.reg e43r17) .ret
@[reducible] def e43n19 : EC := .seq e43n16 e43n18
@[reducible] def e43n20 : EC := .seq (.reg e43r0) e43n19
@[reducible] def e43 : EF := ⟨25, 2, [(.inl 4)], e43n20⟩
theorem e43_ok : compFn Try.prog {} Try.f43 = some e43 := by kernel_rfl
theorem e43_nm : (Try.f43.name == "runtime.NumGoroutine") = false := by kernel_rfl
/- (yucca/yuccaref9.maker).alt -/
@[reducible] def e44r0 : List Ins := [
  ⟨(some 5), none, .box 6 (.t 2), .any⟩]
@[reducible] def e44r1 : List Ins := [
  ⟨(some 10), none, .mov (.t 0), .n⟩,
  ⟨(some 11), none, .mov (.t 1), .n⟩,
  ⟨(some 12), none, .call (.c (.fn 43 [])) [(.t 10), (.t 11)], .b⟩,
  ⟨(some 13), none, .bin .add (.c (.int .i64 1)) (.t 12), .n⟩,
  ⟨(some 14), none, .faddr 5 (.t 5), .n⟩,
  ⟨(some 15), none, .load false 1 (.t 14), .r⟩,
  ⟨(some 16), none, .build [(.int .i64 0), (.sl 1 true []), (.int .i64 0), (.str []), (.sl 1 true []), (.int .i64 0)] [(0, 1, (.t 13)), (2, 1, (.c (.int .i64 (-1)))), (5, 1, (.t 15))], .n⟩,
  ⟨(some 6), none, .alloc 6 (.agg [(.int .i64 0), (.sl 1 true []), (.int .i64 0), (.str []), (.sl 1 true []), (.int .i64 0)]), .a⟩,
  ⟨none, none, .store 6 (.t 6) (.t 16), .w⟩]
@[reducible] def e44r2 : List Ins := [
  ⟨(some 7), none, .mov (.c (.int .i64 0)), .any⟩]
@[reducible] def e44r3 : List Ins := [
  ⟨(some 17), none, .mov (.t 7), .any⟩,
  ⟨(some 18), none, .faddr 0 (.t 5), .any⟩,
  ⟨(some 19), none, .load false 1 (.t 18), .any⟩,
  ⟨(some 20), none, .len (.t 19), .any⟩,
  ⟨(some 21), none, .bin .lss (.t 17) (.t 20), .any⟩]
@[reducible] def e44n4 : EC := .cond (.t 21) .skip (.exit 0)
@[reducible] def e44n5 : EC := .seq (.reg e44r3) e44n4
@[reducible] def e44r6 : List Ins := [
  ⟨(some 24), none, .faddr 0 (.t 5), .any⟩,
  ⟨(some 25), none, .load false 1 (.t 24), .any⟩,
  ⟨(some 26), none, .mov (.t 7), .any⟩,
  ⟨(some 27), none, .iaddr 6 (.t 25) (.t 26), .any⟩,
  ⟨(some 28), none, .load true 6 (.t 27), .any⟩,
  ⟨(some 8), none, .alloc 6 (.agg [(.str []), (.bool false), (.int .i64 0), (.int .i64 0), (.str []), (.int .i64 0)]), .any⟩,
  ⟨none, none, .store 6 (.t 8) (.t 28), .any⟩]
@[reducible] def e44r7 : List Ins := [
  ⟨(some 83), none, .faddr 4 (.t 8), .any⟩,
  ⟨(some 84), none, .load false 1 (.t 83), .any⟩,
  ⟨(some 85), none, .bin .eql (.t 84) (.c (.str [])), .any⟩,
  ⟨(some 82), none, .mov (.t 85), .any⟩]
@[reducible] def e44r8 : List Ins := [
  ⟨(some 86), none, .faddr 1 (.t 6), .n⟩,
  ⟨(some 87), none, .load false 1 (.t 86), (.l 12)⟩,
  ⟨(some 88), none, .mov (.t 0), .n⟩,
  ⟨(some 89), none, .faddr 0 (.t 8), .n⟩,
  ⟨(some 90), none, .load true 4 (.t 89), .r⟩,
  ⟨(some 91), none, .call (.c (.fn 53 [])) [(.t 88), (.t 90)], (.v 12)⟩,
  ⟨(some 92), none, .lit false 1 false (.int .i64 0) 1 [(0, (.t 91))], .n⟩,
  ⟨(some 93), none, .append false 1 8 (.t 87) (.t 92), .t⟩,
  ⟨(some 94), none, .faddr 1 (.t 6), .n⟩,
  ⟨none, none, .store 1 (.t 94) (.t 93), .w⟩]
@[reducible] def e44r9 : List Ins := [
  ⟨(some 96), none, .mov (.t 7), .any⟩,
  ⟨(some 97), none, .bin .add (.t 96) (.c (.int .i64 1)), .any⟩,
  ⟨(some 98), none, .faddr 0 (.t 5), .any⟩,
  ⟨(some 99), none, .load false 1 (.t 98), .any⟩,
  ⟨(some 100), none, .len (.t 99), .any⟩,
  ⟨(some 101), none, .bin .eql (.t 97) (.t 100), .any⟩,
  ⟨(some 95), none, .mov (.t 101), .any⟩]
@[reducible] def e44r10 : List Ins := [
  ⟨(some 102), none, .faddr 4 (.t 8), .n⟩,
  ⟨(some 103), none, .load false 1 (.t 102), (.l 13)⟩,
  ⟨(some 104), none, .faddr 5 (.t 8), .n⟩,
  ⟨(some 105), none, .load false 1 (.t 104), (.l 13)⟩,
  ⟨(some 106), none, .faddr 3 (.t 6), .n⟩,
  ⟨none, none, .store 1 (.t 106) (.t 103), (.s 12)⟩,
  ⟨(some 107), none, .faddr 5 (.t 6), .n⟩,
  ⟨none, none, .store 1 (.t 107) (.t 105), (.s 12)⟩]
@[reducible] def e44r11 : List Ins := [
  ⟨(some 29), none, .mov (.t 0), .any⟩,
  ⟨(some 30), none, .nilck (.t 29), .any⟩,
  ⟨(some 31), none, .faddr 12 (.t 30), .any⟩,
  ⟨(some 32), none, .load false 1 (.t 31), .any⟩,
  ⟨(some 33), none, .bin .add (.t 32) (.c (.int .i64 1)), .any⟩,
  ⟨(some 34), none, .nilck (.t 29), .any⟩,
  ⟨(some 35), none, .faddr 12 (.t 34), .any⟩,
  ⟨none, none, .store 1 (.t 35) (.t 33), .any⟩]
@[reducible] def e44r12 : List Ins := [
  ⟨(some 36), none, .mov (.t 0), .n⟩,
  ⟨(some 37), none, .mov (.t 0), .n⟩,
  ⟨(some 38), none, .nilck (.t 37), .n⟩,
  ⟨(some 39), none, .faddr 0 (.t 38), .n⟩,
  ⟨(some 40), none, .faddr 2 (.t 39), .n⟩,
  ⟨(some 41), none, .load false 1 (.t 40), .r⟩,
  ⟨(some 42), none, .mov (.t 0), .n⟩,
  ⟨(some 43), none, .nilck (.t 42), .n⟩,
  ⟨(some 44), none, .faddr 7 (.t 43), .n⟩,
  ⟨(some 45), none, .load false 1 (.t 44), .r⟩,
  ⟨(some 46), none, .len (.t 45), .n⟩,
  ⟨(some 47), none, .mov (.t 0), .n⟩,
  ⟨(some 48), none, .nilck (.t 47), .n⟩,
  ⟨(some 49), none, .faddr 12 (.t 48), .n⟩,
  ⟨(some 50), none, .load false 1 (.t 49), .r⟩,
  ⟨(some 51), none, .bin .add (.t 46) (.t 50), .n⟩,
  ⟨(some 52), none, .faddr 4 (.t 8), .n⟩,
  ⟨(some 53), none, .load false 1 (.t 52), .r⟩,
  ⟨(some 54), none, .lit false 1 false (.int .i64 0) 0 [], .n⟩,
  ⟨(some 55), none, .faddr 1 (.t 6), .n⟩,
  ⟨(some 56), none, .load false 1 (.t 55), .r⟩,
  ⟨(some 57), none, .append false 1 8 (.t 54) (.t 56), .t⟩,
  ⟨(some 58), none, .faddr 5 (.t 8), .n⟩,
  ⟨(some 59), none, .load false 1 (.t 58), .r⟩,
  ⟨(some 60), none, .build [(.int .i64 0), (.sl 1 true []), (.int .i64 0), (.str []), (.sl 1 true []), (.int .i64 0)] [(0, 1, (.t 51)), (2, 1, (.c (.int .i64 (-1)))), (3, 1, (.t 53)), (4, 1, (.t 57)), (5, 1, (.t 59))], .n⟩,
  ⟨(some 61), none, .lit false 6 true (.agg [(.int .i64 0), (.sl 1 true []), (.int .i64 0), (.str []), (.sl 1 true []), (.int .i64 0)]) 1 [(0, (.t 60))], .n⟩,
  ⟨(some 62), none, .append false 6 88 (.t 41) (.t 61), .t⟩,
  ⟨(some 63), none, .nilck (.t 36), .n⟩,
  ⟨(some 64), none, .faddr 0 (.t 63), .n⟩,
  ⟨(some 65), none, .faddr 2 (.t 64), .n⟩,
  ⟨none, none, .store 1 (.t 65) (.t 62), .w⟩]
@[reducible] def e44r13 : List Ins := [
  ⟨(some 66), none, .faddr 1 (.t 6), .n⟩,
  ⟨(some 67), none, .load false 1 (.t 66), .r⟩,
  ⟨(some 68), none, .mov (.t 0), .n⟩,
  ⟨(some 69), none, .nilck (.t 68), .n⟩,
  ⟨(some 70), none, .faddr 7 (.t 69), .n⟩,
  ⟨(some 71), none, .load false 1 (.t 70), .r⟩,
  ⟨(some 72), none, .len (.t 71), .n⟩,
  ⟨(some 73), none, .bin .add (.c (.int .i64 1000)) (.t 72), .n⟩,
  ⟨(some 74), none, .mov (.t 0), .n⟩,
  ⟨(some 75), none, .nilck (.t 74), .n⟩,
  ⟨(some 76), none, .faddr 12 (.t 75), .n⟩,
  ⟨(some 77), none, .load false 1 (.t 76), .r⟩,
  ⟨(some 78), none, .bin .add (.t 73) (.t 77), .n⟩,
  ⟨(some 79), none, .lit false 1 false (.int .i64 0) 1 [(0, (.t 78))], .n⟩,
  ⟨(some 80), none, .append false 1 8 (.t 67) (.t 79), .t⟩,
  ⟨(some 81), none, .faddr 1 (.t 6), .n⟩,
  ⟨none, none, .store 1 (.t 81) (.t 80), .w⟩]
@[reducible] def e44n14 : EC := .seq (.reg e44r12) (.reg e44r13)
@[reducible] def e44n15 : EC := .seq (.reg e44r11) e44n14
@[reducible] def e44n16 : EC := .cond (.t 95) (.reg e44r10) e44n15
@[reducible] def e44n17 : EC := .seq (.reg e44r9) e44n16
@[reducible] def e44n18 : EC := .cond (.t 82) (.reg e44r8) e44n17
@[reducible] def e44n19 : EC := .seq (.reg e44r7) e44n18
@[reducible] def e44n20 : EC := .block 2 e44n19
@[reducible] def e44n21 : EC := .seq (.reg e44r6) e44n20
@[reducible] def e44n22 : EC := .block 1 e44n21
@[reducible] def e44r23 : List Ins := [
  ⟨(some 22), none, .mov (.t 7), .any⟩,
  ⟨(some 23), none, .bin .add (.t 22) (.c (.int .i64 1)), .any⟩,
  ⟨(some 7), none, .mov (.t 23), .any⟩]
@[reducible] def e44n24 : EC := .seq e44n22 (.reg e44r23)
@[reducible] def e44n25 : EC := .seq e44n5 e44n24
@[reducible] def e44n26 : EC := .loop e44n25
@[reducible] def e44n27 : EC := .block 0 e44n26
@[reducible] def e44n28 : EC := .seq (.reg e44r2) e44n27
@[reducible] def e44r29 : List Ins := [
  ⟨(some 9), none, .mov (.c (.int .i64 0)), .any⟩]
@[reducible] def e44r30 : List Ins := [
  ⟨(some 108), none, .mov (.t 9), .any⟩,
  ⟨(some 109), none, .faddr 1 (.t 6), .any⟩,
  ⟨(some 110), none, .load false 1 (.t 109), .any⟩,
  ⟨(some 111), none, .len (.t 110), .any⟩,
  ⟨(some 112), none, .bin .lss (.t 108) (.t 111), .any⟩]
@[reducible] def e44n31 : EC := .cond (.t 112) .skip (.exit 3)
@[reducible] def e44n32 : EC := .seq (.reg e44r30) e44n31
@[reducible] def e44r33 : List Ins := [
  ⟨(some 115), none, .faddr 1 (.t 6), .any⟩,
  ⟨(some 116), none, .load false 1 (.t 115), .any⟩,
  ⟨(some 117), none, .mov (.t 9), .any⟩,
  ⟨(some 118), none, .iaddr 1 (.t 116) (.t 117), .any⟩,
  ⟨(some 119), none, .load false 1 (.t 118), .any⟩,
  ⟨(some 120), none, .bin .lss (.t 119) (.c (.int .i64 1000)), .any⟩]
@[reducible] def e44r34 : List Ins := [
  ⟨(some 121), none, .faddr 1 (.t 6), .any⟩,
  ⟨(some 122), none, .load false 1 (.t 121), .any⟩,
  ⟨(some 123), none, .mov (.t 9), .any⟩,
  ⟨(some 124), none, .iaddr 1 (.t 122) (.t 123), .any⟩,
  ⟨(some 125), none, .load false 1 (.t 124), .any⟩,
  ⟨(some 126), none, .faddr 2 (.t 6), .any⟩,
  ⟨none, none, .store 1 (.t 126) (.t 125), .any⟩]
@[reducible] def e44n35 : EC := .cond (.t 120) (.reg e44r34) .skip
@[reducible] def e44n36 : EC := .seq (.reg e44r33) e44n35
@[reducible] def e44n37 : EC := .block 4 e44n36
@[reducible] def e44r38 : List Ins := [
  ⟨(some 113), none, .mov (.t 9), .any⟩,
  ⟨(some 114), none, .bin .add (.t 113) (.c (.int .i64 1)), .any⟩,
  ⟨(some 9), none, .mov (.t 114), .any⟩]
@[reducible] def e44n39 : EC := .seq e44n37 (.reg e44r38)
@[reducible] def e44n40 : EC := .seq e44n32 e44n39
@[reducible] def e44n41 : EC := .loop e44n40
@[reducible] def e44n42 : EC := .block 3 e44n41
@[reducible] def e44n43 : EC := .seq (.reg e44r29) e44n42
@[reducible] def e44r44 : List Ins := [
  ⟨(some 127), none, .faddr 1 (.t 5), .any⟩,
  ⟨(some 128), none, .faddr 0 (.t 127), .any⟩,
  ⟨(some 129), none, .load false 1 (.t 128), .any⟩,
  ⟨(some 130), none, .bin .neq (.t 129) (.c (.str [])), .any⟩]
@[reducible] def e44r45 : List Ins := [
  ⟨(some 131), none, .faddr 2 (.t 6), .any⟩,
  ⟨none, none, .store 1 (.t 131) (.c (.int .i64 (-1))), .any⟩]
@[reducible] def e44r46 : List Ins := [
  ⟨(some 132), none, .faddr 1 (.t 5), .any⟩,
  ⟨(some 133), none, .faddr 1 (.t 132), .any⟩,
  ⟨(some 134), none, .load false 1 (.t 133), .any⟩,
  ⟨(some 135), none, .mov (.t 134), .any⟩,
  ⟨(some 136), (some (135, false)), .mov (.t 0), .any⟩,
  ⟨(some 137), (some (135, false)), .faddr 1 (.t 5), .any⟩,
  ⟨(some 138), (some (135, false)), .faddr 0 (.t 137), .any⟩,
  ⟨(some 139), (some (135, false)), .load false 1 (.t 138), .any⟩,
  ⟨(some 140), (some (135, false)), .call (.c (.fn 43 [])) [(.t 136), (.t 139)], .any⟩,
  ⟨(some 141), (some (135, false)), .bin .lss (.t 140) (.c (.int .i64 0)), .any⟩,
  ⟨(some 142), none, .pick (.t 135) (.c (.bool true)) (.t 141), .any⟩]
@[reducible] def e44r47 : List Ins := [
  ⟨(some 143), none, .mov (.t 0), .any⟩,
  ⟨(some 144), none, .faddr 1 (.t 5), .any⟩,
  ⟨(some 145), none, .load true 4 (.t 144), .any⟩,
  ⟨(some 146), none, .call (.c (.fn 53 [])) [(.t 143), (.t 145)], .any⟩,
  ⟨(some 147), none, .faddr 2 (.t 6), .any⟩,
  ⟨none, none, .store 1 (.t 147) (.t 146), .any⟩]
@[reducible] def e44r48 : List Ins := [
  ⟨(some 148), none, .mov (.t 0), .any⟩,
  ⟨(some 149), none, .faddr 1 (.t 5), .any⟩,
  ⟨(some 150), none, .faddr 3 (.t 149), .any⟩,
  ⟨(some 151), none, .load false 1 (.t 150), .any⟩,
  ⟨(some 152), none, .faddr 1 (.t 5), .any⟩,
  ⟨(some 153), none, .faddr 0 (.t 152), .any⟩,
  ⟨(some 154), none, .load false 1 (.t 153), .any⟩,
  ⟨(some 155), none, .call (.c (.fn 41 [])) [(.t 148), (.t 151), (.t 154)], .any⟩]
@[reducible] def e44n49 : EC := .cond (.t 142) (.reg e44r47) (.reg e44r48)
@[reducible] def e44n50 : EC := .seq (.reg e44r46) e44n49
@[reducible] def e44n51 : EC := .seq (.reg e44r45) e44n50
@[reducible] def e44n52 : EC := .cond (.t 130) e44n51 .skip
@[reducible] def e44n53 : EC := .seq (.reg e44r44) e44n52
@[reducible] def e44r54 : List Ins := [
  ⟨(some 156), none, .lit false 1 false (.int .i64 0) 0 [], .any⟩,
  ⟨(some 157), none, .faddr 1 (.t 6), .any⟩,
  ⟨(some 158), none, .load false 1 (.t 157), .any⟩,
  ⟨(some 159), none, .append false 1 8 (.t 156) (.t 158), .any⟩,
  ⟨(some 160), none, .faddr 4 (.t 6), .any⟩,
  ⟨none, none, .store 1 (.t 160) (.t 159), .any⟩]
@[reducible] def e44r55 : List Ins := [
  ⟨(some 161), none, .mov (.t 0), .n⟩,
  ⟨(some 162), none, .mov (.t 0), .n⟩,
  ⟨(some 163), none, .nilck (.t 162), .n⟩,
  ⟨(some 164), none, .faddr 0 (.t 163), .n⟩,
  ⟨(some 165), none, .faddr 2 (.t 164), .n⟩,
  ⟨(some 166), none, .load false 1 (.t 165), .r⟩,
  ⟨(some 167), none, .load true 6 (.t 6), .r⟩,
  ⟨(some 168), none, .lit false 6 true (.agg [(.int .i64 0), (.sl 1 true []), (.int .i64 0), (.str []), (.sl 1 true []), (.int .i64 0)]) 1 [(0, (.t 167))], .n⟩,
  ⟨(some 169), none, .append false 6 88 (.t 166) (.t 168), .t⟩,
  ⟨(some 170), none, .nilck (.t 161), .n⟩,
  ⟨(some 171), none, .faddr 0 (.t 170), .n⟩,
  ⟨(some 172), none, .faddr 2 (.t 171), .n⟩,
  ⟨none, none, .store 1 (.t 172) (.t 169), .w⟩]
@[reducible] def e44n56 : EC := .seq (.reg e44r54) (.reg e44r55)
@[reducible] def e44n57 : EC := .seq e44n53 e44n56
@[reducible] def e44n58 : EC := .seq e44n43 e44n57
@[reducible] def e44n59 : EC := .seq e44n28 e44n58
@[reducible] def e44n60 : EC := .seq (.reg e44r1) e44n59
@[reducible] def e44n61 : EC := .seq (.reg e44r0) e44n60
@[reducible] def e44 : EF := ⟨173, 3, [], e44n61⟩
theorem e44_ok : compFn Try.prog { mu := fun t => [].contains t, cl := fun r i => ([(12, 1, Cls.l 13), (12, 3, Cls.l 13), (12, 5, Cls.s 12), (12, 7, Cls.s 12), (10, 1, Cls.l 12), (10, 5, Cls.v 12), (1, 2, Cls.b), (20, 8, Cls.b), (21, 3, Cls.w), (22, 7, Cls.w)].find? fun x => x.1 == r && x.2.1 == i).map (·.2.2) } Try.f44 = some e44 := by kernel_rfl
theorem e44_nm : (Try.f44.name == "runtime.NumGoroutine") = false := by kernel_rfl
/- (yucca/yuccaref9.maker).typeOf -/
@[reducible] def e45r0 : List Ins := [
  ⟨(some 4), none, .mov (.c (.int .i64 0)), .any⟩]
@[reducible] def e45r1 : List Ins := [
  ⟨(some 5), none, .mov (.c (.int .i64 0)), .any⟩]
@[reducible] def e45r2 : List Ins := [
  ⟨(some 6), none, .mov (.t 5), .any⟩,
  ⟨(some 7), none, .mov (.t 0), .any⟩,
  ⟨(some 8), none, .nilck (.t 7), .any⟩,
  ⟨(some 9), none, .faddr 6 (.t 8), .any⟩,
  ⟨(some 10), none, .load false 1 (.t 9), .any⟩,
  ⟨(some 11), none, .len (.t 10), .any⟩,
  ⟨(some 12), none, .bin .lss (.t 6) (.t 11), .any⟩]
@[reducible] def e45n3 : EC := .cond (.t 12) .skip (.exit 0)
@[reducible] def e45n4 : EC := .seq (.reg e45r2) e45n3
@[reducible] def e45r5 : List Ins := [
  ⟨(some 15), none, .mov (.t 0), .any⟩,
  ⟨(some 16), none, .nilck (.t 15), .any⟩,
  ⟨(some 17), none, .faddr 6 (.t 16), .any⟩,
  ⟨(some 18), none, .load false 1 (.t 17), .any⟩,
  ⟨(some 19), none, .mov (.t 5), .any⟩,
  ⟨(some 20), none, .iaddr 2 (.t 18) (.t 19), .any⟩,
  ⟨(some 21), none, .faddr 0 (.t 20), .any⟩,
  ⟨(some 22), none, .load false 1 (.t 21), .any⟩,
  ⟨(some 23), none, .mov (.t 1), .any⟩,
  ⟨(some 24), none, .bin .eql (.t 22) (.t 23), .any⟩]
@[reducible] def e45r6 : List Ins := [
  ⟨(some 25), none, .mov (.t 5), .any⟩,
  ⟨(some 4), none, .mov (.t 25), .any⟩]
@[reducible] def e45n7 : EC := .seq (.reg e45r6) .ret
@[reducible] def e45n8 : EC := .cond (.t 24) e45n7 .skip
@[reducible] def e45n9 : EC := .seq (.reg e45r5) e45n8
@[reducible] def e45n10 : EC := .block 1 e45n9
@[reducible] def e45r11 : List Ins := [
  ⟨(some 13), none, .mov (.t 5), .any⟩,
  ⟨(some 14), none, .bin .add (.t 13) (.c (.int .i64 1)), .any⟩,
  ⟨(some 5), none, .mov (.t 14), .any⟩]
@[reducible] def e45n12 : EC := .seq e45n10 (.reg e45r11)
@[reducible] def e45n13 : EC := .seq e45n4 e45n12
@[reducible] def e45n14 : EC := .loop e45n13
@[reducible] def e45n15 : EC := .block 0 e45n14
@[reducible] def e45n16 : EC := .seq (.reg e45r1) e45n15
@[reducible] def e45r17 : List Ins := [
  ⟨(some 4), none, .mov (.c (.int .i64 (-1))), .any⟩]
@[reducible] def e45n18 : EC := .seq (.reg e45r17) .ret
@[reducible] def e45n19 : EC := .seq e45n16 e45n18
@[reducible] def e45n20 : EC := .seq (.reg e45r0) e45n19
@[reducible] def e45 : EF := ⟨26, 2, [(.inl 4)], e45n20⟩
theorem e45_ok : compFn Try.prog {} Try.f45 = some e45 := by kernel_rfl
theorem e45_nm : (Try.f45.name == "runtime.NumGoroutine") = false := by kernel_rfl
/- yucca/yuccaref0.Digits -/
@[reducible] def e46r0 : List Ins := [
  ⟨(some 2), none, .mov (.c (.str [])), .any⟩]
@[reducible] def e46r1 : List Ins := [
  ⟨(some 5), none, .mov (.t 0), .any⟩,
  ⟨(some 6), none, .conv .u64 (.t 5), .any⟩,
  ⟨(some 3), none, .mov (.t 6), .any⟩]
@[reducible] def e46r2 : List Ins := [
  ⟨(some 7), none, .mov (.t 0), .any⟩,
  ⟨(some 8), none, .bin .lss (.t 7) (.c (.int .i64 0)), .any⟩]
@[reducible] def e46r3 : List Ins := [
  ⟨(some 9), none, .mov (.t 3), .any⟩,
  ⟨(some 10), none, .un .neg (.t 9), .any⟩,
  ⟨(some 3), none, .mov (.t 10), .any⟩]
@[reducible] def e46n4 : EC := .cond (.t 8) (.reg e46r3) .skip
@[reducible] def e46n5 : EC := .seq (.reg e46r2) e46n4
@[reducible] def e46r6 : List Ins := [
  ⟨(some 4), none, .mov (.c (.str [])), .any⟩]
@[reducible] def e46r7 : List Ins := [
  ⟨(some 11), none, .mov (.t 3), .any⟩,
  ⟨(some 12), none, .bin .gtr (.t 11) (.c (.int .u64 0)), .any⟩,
  ⟨(some 13), none, .mov (.t 12), .any⟩,
  ⟨(some 14), (some (13, false)), .mov (.t 4), .any⟩,
  ⟨(some 15), (some (13, false)), .bin .eql (.t 14) (.c (.str [])), .any⟩,
  ⟨(some 16), none, .pick (.t 13) (.c (.bool true)) (.t 15), .any⟩]
@[reducible] def e46n8 : EC := .cond (.t 16) .skip (.exit 0)
@[reducible] def e46n9 : EC := .seq (.reg e46r7) e46n8
@[reducible] def e46r10 : List Ins := [
  ⟨(some 17), none, .mov (.t 3), .any⟩,
  ⟨(some 18), none, .bin .rem (.t 17) (.c (.int .u64 10)), .any⟩,
  ⟨(some 19), none, .bin .add (.c (.int .u64 48)) (.t 18), .any⟩,
  ⟨(some 20), none, .conv .u8 (.t 19), .any⟩,
  ⟨(some 21), none, .lit false 1 false (.int .u8 0) 1 [(0, (.t 20))], .any⟩,
  ⟨(some 22), none, .by2s (.t 21), .any⟩,
  ⟨(some 23), none, .mov (.t 4), .any⟩,
  ⟨(some 24), none, .bin .add (.t 22) (.t 23), .any⟩,
  ⟨(some 4), none, .mov (.t 24), .any⟩]
@[reducible] def e46r11 : List Ins := [
  ⟨(some 25), none, .mov (.t 3), .any⟩,
  ⟨(some 26), none, .bin .quo (.t 25) (.c (.int .u64 10)), .any⟩,
  ⟨(some 3), none, .mov (.t 26), .any⟩]
@[reducible] def e46n12 : EC := .seq (.reg e46r10) (.reg e46r11)
@[reducible] def e46n13 : EC := .block 1 e46n12
@[reducible] def e46n14 : EC := .seq e46n9 e46n13
@[reducible] def e46n15 : EC := .loop e46n14
@[reducible] def e46n16 : EC := .block 0 e46n15
@[reducible] def e46r17 : List Ins := [
  ⟨(some 27), none, .mov (.t 0), .any⟩,
  ⟨(some 28), none, .bin .lss (.t 27) (.c (.int .i64 0)), .any⟩]
@[reducible] def e46r18 : List Ins := [
  ⟨(some 29), none, .mov (.t 4), .any⟩,
  ⟨(some 30), none, .bin .add (.c (.str [45])) (.t 29), .any⟩,
  ⟨(some 2), none, .mov (.t 30), .any⟩]
@[reducible] def e46n19 : EC := .seq (.reg e46r18) .ret
@[reducible] def e46n20 : EC := .cond (.t 28) e46n19 .skip
@[reducible] def e46n21 : EC := .seq (.reg e46r17) e46n20
@[reducible] def e46r22 : List Ins := [
  ⟨(some 31), none, .mov (.t 4), .any⟩,
  ⟨(some 2), none, .mov (.t 31), .any⟩]
@[reducible] def e46n23 : EC := .seq (.reg e46r22) .ret
@[reducible] def e46n24 : EC := .seq e46n21 e46n23
@[reducible] def e46n25 : EC := .seq e46n16 e46n24
@[reducible] def e46n26 : EC := .seq (.reg e46r6) e46n25
@[reducible] def e46n27 : EC := .seq e46n5 e46n26
@[reducible] def e46n28 : EC := .seq (.reg e46r1) e46n27
@[reducible] def e46n29 : EC := .seq (.reg e46r0) e46n28
@[reducible] def e46 : EF := ⟨32, 1, [(.inl 2)], e46n29⟩
theorem e46_ok : compFn Try.prog {} Try.f46 = some e46 := by kernel_rfl
theorem e46_nm : (Try.f46.name == "runtime.NumGoroutine") = false := by kernel_rfl
/- (yucca/many.counter).ways -/
@[reducible] def e47r0 : List Ins := [
  ⟨(some 8), none, .mov (.c (.int .i64 0)), .any⟩]
@[reducible] def e47r1 : List Ins := [
  ⟨(some 9), none, .alloc 25 (.agg [(.int .i64 0), (.int .i64 0), (.int .i64 0), (.int .i64 0), (.int .i64 0), (.int .i64 0), (.int .i64 0), (.int .i64 0), (.int .i64 0), (.int .i64 0), (.int .i64 0), (.int .i64 0), (.int .i64 0), (.int .i64 0), (.int .i64 0), (.int .i64 0), (.int .i64 0), (.int .i64 0), (.int .i64 0), (.int .i64 0), (.int .i64 0), (.int .i64 0), (.int .i64 0), (.int .i64 0), (.int .i64 0)]), .any⟩]
@[reducible] def e47r2 : List Ins := [
  ⟨(some 15), none, .mov (.t 2), .any⟩,
  ⟨(some 16), none, .iaddrA 25 1 (.t 9) (.t 15), .any⟩,
  ⟨none, none, .store 1 (.t 16) (.c (.int .i64 1)), .any⟩]
@[reducible] def e47r3 : List Ins := [
  ⟨(some 17), none, .mov (.t 1), .any⟩,
  ⟨(some 18), none, .len (.t 17), .any⟩,
  ⟨(some 19), none, .mov (.c (.int .i64 0)), .any⟩]
@[reducible] def e47r4 : List Ins := [
  ⟨(some 20), none, .bin .lss (.t 19) (.t 18), .any⟩]
@[reducible] def e47n5 : EC := .cond (.t 20) .skip (.exit 0)
@[reducible] def e47r6 : List Ins := [
  ⟨(some 21), none, .iaddr 1 (.t 17) (.t 19), .any⟩,
  ⟨(some 22), none, .load false 1 (.t 21), .any⟩,
  ⟨(some 11), none, .mov (.t 22), .any⟩]
@[reducible] def e47r7 : List Ins := [
  ⟨(some 12), none, .alloc 25 (.agg [(.int .i64 0), (.int .i64 0), (.int .i64 0), (.int .i64 0), (.int .i64 0), (.int .i64 0), (.int .i64 0), (.int .i64 0), (.int .i64 0), (.int .i64 0), (.int .i64 0), (.int .i64 0), (.int .i64 0), (.int .i64 0), (.int .i64 0), (.int .i64 0), (.int .i64 0), (.int .i64 0), (.int .i64 0), (.int .i64 0), (.int .i64 0), (.int .i64 0), (.int .i64 0), (.int .i64 0), (.int .i64 0)]), .any⟩]
@[reducible] def e47r8 : List Ins := [
  ⟨(some 23), none, .mov (.t 2), .any⟩,
  ⟨(some 13), none, .mov (.t 23), .any⟩]
@[reducible] def e47r9 : List Ins := [
  ⟨(some 24), none, .mov (.t 13), .any⟩,
  ⟨(some 25), none, .mov (.t 3), .any⟩,
  ⟨(some 26), none, .bin .leq (.t 24) (.t 25), .any⟩]
@[reducible] def e47n10 : EC := .cond (.t 26) .skip (.exit 2)
@[reducible] def e47n11 : EC := .seq (.reg e47r9) e47n10
@[reducible] def e47r12 : List Ins := [
  ⟨(some 29), none, .mov (.t 13), .any⟩,
  ⟨(some 30), none, .iaddrA 25 1 (.t 9) (.t 29), .any⟩,
  ⟨(some 31), none, .load false 1 (.t 30), .any⟩,
  ⟨(some 32), none, .bin .eql (.t 31) (.c (.int .i64 0)), .any⟩]
@[reducible] def e47n13 : EC := .cond (.t 32) (.exit 3) .skip
@[reducible] def e47n14 : EC := .seq (.reg e47r12) e47n13
@[reducible] def e47r15 : List Ins := [
  ⟨(some 33), none, .mov (.t 11), .any⟩,
  ⟨(some 34), none, .bin .lss (.t 33) (.c (.int .i64 1000)), .any⟩]
@[reducible] def e47r16 : List Ins := [
  ⟨(some 35), none, .mov (.t 13), .any⟩,
  ⟨(some 36), none, .mov (.t 3), .any⟩,
  ⟨(some 37), none, .bin .lss (.t 35) (.t 36), .any⟩,
  ⟨(some 38), none, .mov (.t 37), .any⟩,
  ⟨(some 39), (some (38, true)), .mov (.t 0), .any⟩,
  ⟨(some 40), (some (38, true)), .nilck (.t 39), .any⟩,
  ⟨(some 41), (some (38, true)), .faddr 5 (.t 40), .any⟩,
  ⟨(some 42), (some (38, true)), .load false 1 (.t 41), .any⟩,
  ⟨(some 43), (some (38, true)), .mov (.t 13), .any⟩,
  ⟨(some 44), (some (38, true)), .iaddr 1 (.t 42) (.t 43), .any⟩,
  ⟨(some 45), (some (38, true)), .load false 1 (.t 44), .any⟩,
  ⟨(some 46), (some (38, true)), .mov (.t 11), .any⟩,
  ⟨(some 47), (some (38, true)), .bin .eql (.t 45) (.t 46), .any⟩,
  ⟨(some 48), none, .pick (.t 38) (.t 47) (.c (.bool false)), .any⟩]
@[reducible] def e47r17 : List Ins := [
  ⟨(some 49), none, .mov (.t 13), .any⟩,
  ⟨(some 50), none, .bin .add (.t 49) (.c (.int .i64 1)), .any⟩,
  ⟨(some 51), none, .mov (.t 13), .any⟩,
  ⟨(some 52), none, .iaddrA 25 1 (.t 9) (.t 51), .any⟩,
  ⟨(some 53), none, .load false 1 (.t 52), .any⟩,
  ⟨(some 54), none, .iaddrA 25 1 (.t 12) (.t 50), .any⟩,
  ⟨none, none, .store 1 (.t 54) (.t 53), .any⟩]
@[reducible] def e47n18 : EC := .cond (.t 48) (.reg e47r17) .skip
@[reducible] def e47n19 : EC := .seq (.reg e47r16) e47n18
@[reducible] def e47n20 : EC := .seq e47n19 (.exit 3)
@[reducible] def e47n21 : EC := .cond (.t 34) e47n20 .skip
@[reducible] def e47n22 : EC := .seq (.reg e47r15) e47n21
@[reducible] def e47r23 : List Ins := [
  ⟨(some 55), none, .mov (.t 13), .any⟩,
  ⟨(some 14), none, .mov (.t 55), .any⟩]
@[reducible] def e47r24 : List Ins := [
  ⟨(some 56), none, .mov (.t 14), .any⟩,
  ⟨(some 57), none, .mov (.t 3), .any⟩,
  ⟨(some 58), none, .bin .leq (.t 56) (.t 57), .any⟩]
@[reducible] def e47n25 : EC := .cond (.t 58) .skip (.exit 4)
@[reducible] def e47n26 : EC := .seq (.reg e47r24) e47n25
@[reducible] def e47r27 : List Ins := [
  ⟨(some 61), none, .mov (.t 14), .n⟩,
  ⟨(some 62), none, .mov (.t 14), .n⟩,
  ⟨(some 63), none, .iaddrA 25 1 (.t 12) (.t 62), .n⟩,
  ⟨(some 64), none, .load false 1 (.t 63), .r⟩,
  ⟨(some 65), none, .mov (.t 13), .n⟩,
  ⟨(some 66), none, .iaddrA 25 1 (.t 9) (.t 65), .n⟩,
  ⟨(some 67), none, .load false 1 (.t 66), .r⟩,
  ⟨(some 68), none, .mov (.t 0), .n⟩,
  ⟨(some 69), none, .nilck (.t 68), .n⟩,
  ⟨(some 70), none, .faddr 6 (.t 69), .n⟩,
  ⟨(some 71), none, .load false 1 (.t 70), .r⟩,
  ⟨(some 72), none, .mov (.t 11), .n⟩,
  ⟨(some 73), none, .bin .sub (.t 72) (.c (.int .i64 1000)), .n⟩,
  ⟨(some 74), none, .mov (.t 13), .n⟩,
  ⟨(some 75), none, .mov (.t 14), .n⟩,
  ⟨(some 76), none, .iaddr 625 (.t 71) (.t 73), .n⟩,
  ⟨(some 77), none, .iaddrA 25 25 (.t 76) (.t 74), .n⟩,
  ⟨(some 78), none, .iaddrA 25 1 (.t 77) (.t 75), .n⟩,
  ⟨(some 79), none, .load false 1 (.t 78), .r⟩,
  ⟨(some 80), none, .bin .mul (.t 67) (.t 79), .n⟩,
  ⟨(some 81), none, .bin .add (.t 64) (.t 80), .n⟩,
  ⟨(some 82), none, .minmax false [(.c (.int .i64 2)), (.t 81)], .n⟩,
  ⟨(some 83), none, .iaddrA 25 1 (.t 12) (.t 61), .n⟩,
  ⟨none, none, .store 1 (.t 83) (.t 82), .w⟩]
@[reducible] def e47n28 : EC := .block 5 (.reg e47r27)
@[reducible] def e47r29 : List Ins := [
  ⟨(some 59), none, .mov (.t 14), .any⟩,
  ⟨(some 60), none, .bin .add (.t 59) (.c (.int .i64 1)), .any⟩,
  ⟨(some 14), none, .mov (.t 60), .any⟩]
@[reducible] def e47n30 : EC := .seq e47n28 (.reg e47r29)
@[reducible] def e47n31 : EC := .seq e47n26 e47n30
@[reducible] def e47n32 : EC := .loop e47n31
@[reducible] def e47n33 : EC := .block 4 e47n32
@[reducible] def e47n34 : EC := .seq (.reg e47r23) e47n33
@[reducible] def e47n35 : EC := .seq e47n22 e47n34
@[reducible] def e47n36 : EC := .seq e47n14 e47n35
@[reducible] def e47n37 : EC := .block 3 e47n36
@[reducible] def e47r38 : List Ins := [
  ⟨(some 27), none, .mov (.t 13), .any⟩,
  ⟨(some 28), none, .bin .add (.t 27) (.c (.int .i64 1)), .any⟩,
  ⟨(some 13), none, .mov (.t 28), .any⟩]
@[reducible] def e47n39 : EC := .seq e47n37 (.reg e47r38)
@[reducible] def e47n40 : EC := .seq e47n11 e47n39
@[reducible] def e47n41 : EC := .loop e47n40
@[reducible] def e47n42 : EC := .block 2 e47n41
@[reducible] def e47n43 : EC := .seq (.reg e47r8) e47n42
@[reducible] def e47r44 : List Ins := [
  ⟨(some 84), none, .load true 25 (.t 12), .any⟩,
  ⟨none, none, .store 25 (.t 9) (.t 84), .any⟩]
@[reducible] def e47n45 : EC := .seq e47n43 (.reg e47r44)
@[reducible] def e47n46 : EC := .seq (.reg e47r7) e47n45
@[reducible] def e47n47 : EC := .seq (.reg e47r6) e47n46
@[reducible] def e47n48 : EC := .block 1 e47n47
@[reducible] def e47r49 : List Ins := [
  ⟨(some 85), none, .bin .add (.t 19) (.c (.int .i64 1)), .any⟩,
  ⟨(some 19), none, .mov (.t 85), .any⟩]
@[reducible] def e47n50 : EC := .seq e47n48 (.reg e47r49)
@[reducible] def e47n51 : EC := .seq e47n5 e47n50
@[reducible] def e47n52 : EC := .seq (.reg e47r4) e47n51
@[reducible] def e47n53 : EC := .loop e47n52
@[reducible] def e47n54 : EC := .block 0 e47n53
@[reducible] def e47n55 : EC := .seq (.reg e47r3) e47n54
@[reducible] def e47r56 : List Ins := [
  ⟨(some 86), none, .mov (.t 3), .any⟩,
  ⟨(some 87), none, .iaddrA 25 1 (.t 9) (.t 86), .any⟩,
  ⟨(some 88), none, .load false 1 (.t 87), .any⟩,
  ⟨(some 8), none, .mov (.t 88), .any⟩]
@[reducible] def e47n57 : EC := .seq (.reg e47r56) .ret
@[reducible] def e47n58 : EC := .seq e47n55 e47n57
@[reducible] def e47n59 : EC := .seq (.reg e47r2) e47n58
@[reducible] def e47n60 : EC := .seq (.reg e47r1) e47n59
@[reducible] def e47n61 : EC := .seq (.reg e47r0) e47n60
@[reducible] def e47 : EF := ⟨89, 4, [(.inl 8)], e47n61⟩
theorem e47_ok : compFn Try.prog {} Try.f47 = some e47 := by kernel_rfl
theorem e47_nm : (Try.f47.name == "runtime.NumGoroutine") = false := by kernel_rfl
/- yucca/yuccaref7.mayDecl -/
@[reducible] def e48r0 : List Ins := [
  ⟨(some 1), none, .box 4 (.t 0), .any⟩,
  ⟨(some 2), none, .mov (.c (.bool false)), .any⟩]
@[reducible] def e48r1 : List Ins := [
  ⟨(some 4), none, .faddr 0 (.t 1), .any⟩,
  ⟨(some 5), none, .load false 1 (.t 4), .any⟩,
  ⟨(some 6), none, .bin .lss (.t 5) (.c (.int .i64 1)), .any⟩,
  ⟨(some 7), none, .mov (.t 6), .any⟩,
  ⟨(some 8), (some (7, false)), .faddr 0 (.t 1), .any⟩,
  ⟨(some 9), (some (7, false)), .load false 1 (.t 8), .any⟩,
  ⟨(some 10), (some (7, false)), .bin .gtr (.t 9) (.c (.int .i64 6)), .any⟩,
  ⟨(some 11), none, .pick (.t 7) (.c (.bool true)) (.t 10), .any⟩,
  ⟨(some 12), none, .mov (.t 11), .any⟩,
  ⟨(some 13), (some (12, false)), .faddr 2 (.t 1), .any⟩,
  ⟨(some 14), (some (12, false)), .load false 1 (.t 13), .any⟩,
  ⟨(some 15), (some (12, false)), .len (.t 14), .any⟩,
  ⟨(some 16), (some (12, false)), .bin .eql (.t 15) (.c (.int .i64 0)), .any⟩,
  ⟨(some 17), none, .pick (.t 12) (.c (.bool true)) (.t 16), .any⟩,
  ⟨(some 18), none, .mov (.t 17), .any⟩,
  ⟨(some 19), (some (18, false)), .faddr 0 (.t 1), .any⟩,
  ⟨(some 20), (some (18, false)), .load false 1 (.t 19), .any⟩,
  ⟨(some 21), (some (18, false)), .bin .eql (.t 20) (.c (.int .i64 6)), .any⟩,
  ⟨(some 22), (some (18, false)), .mov (.t 21), .any⟩,
  ⟨(some 23), (some (22, true)), .faddr 2 (.t 1), .any⟩,
  ⟨(some 24), (some (22, true)), .load false 1 (.t 23), .any⟩,
  ⟨(some 25), (some (22, true)), .len (.t 24), .any⟩,
  ⟨(some 26), (some (22, true)), .bin .neq (.t 25) (.c (.int .i64 1)), .any⟩,
  ⟨(some 27), (some (22, true)), .mov (.t 26), .any⟩,
  ⟨(some 28), (some (27, false)), .faddr 1 (.t 1), .any⟩,
  ⟨(some 29), (some (27, false)), .load false 1 (.t 28), .any⟩,
  ⟨(some 30), (some (27, false)), .bin .neq (.t 29) (.c (.str [])), .any⟩,
  ⟨(some 31), (some (22, true)), .pick (.t 27) (.c (.bool true)) (.t 30), .any⟩,
  ⟨(some 32), (some (18, false)), .pick (.t 22) (.t 31) (.c (.bool false)), .any⟩,
  ⟨(some 33), none, .pick (.t 18) (.c (.bool true)) (.t 32), .any⟩,
  ⟨(some 34), none, .mov (.t 33), .any⟩,
  ⟨(some 35), (some (34, false)), .faddr 0 (.t 1), .any⟩,
  ⟨(some 36), (some (34, false)), .load false 1 (.t 35), .any⟩,
  ⟨(some 37), (some (34, false)), .bin .eql (.t 36) (.c (.int .i64 5)), .any⟩,
  ⟨(some 38), (some (34, false)), .mov (.t 37), .any⟩,
  ⟨(some 39), (some (38, true)), .faddr 1 (.t 1), .any⟩,
  ⟨(some 40), (some (38, true)), .load false 1 (.t 39), .any⟩,
  ⟨(some 41), (some (38, true)), .bin .eql (.t 40) (.c (.str [])), .any⟩,
  ⟨(some 42), (some (34, false)), .pick (.t 38) (.t 41) (.c (.bool false)), .any⟩,
  ⟨(some 43), none, .pick (.t 34) (.c (.bool true)) (.t 42), .any⟩,
  ⟨(some 44), none, .mov (.t 43), .any⟩,
  ⟨(some 45), (some (44, false)), .faddr 1 (.t 1), .any⟩,
  ⟨(some 46), (some (44, false)), .load false 1 (.t 45), .any⟩,
  ⟨(some 47), (some (44, false)), .bin .neq (.t 46) (.c (.str [])), .any⟩,
  ⟨(some 48), (some (44, false)), .mov (.t 47), .any⟩,
  ⟨(some 49), (some (48, true)), .faddr 1 (.t 1), .any⟩,
  ⟨(some 50), (some (48, true)), .load false 1 (.t 49), .any⟩,
  ⟨(some 51), (some (48, true)), .call (.c (.fn 49 [])) [(.t 50)], .any⟩,
  ⟨(some 52), (some (48, true)), .un .not (.t 51), .any⟩,
  ⟨(some 53), (some (44, false)), .pick (.t 48) (.t 52) (.c (.bool false)), .any⟩,
  ⟨(some 54), none, .pick (.t 44) (.c (.bool true)) (.t 53), .any⟩]
@[reducible] def e48r2 : List Ins := [
  ⟨(some 2), none, .mov (.c (.bool false)), .any⟩]
@[reducible] def e48n3 : EC := .seq (.reg e48r2) .ret
@[reducible] def e48n4 : EC := .cond (.t 54) e48n3 .skip
@[reducible] def e48n5 : EC := .seq (.reg e48r1) e48n4
@[reducible] def e48r6 : List Ins := [
  ⟨(some 3), none, .mov (.c (.int .i64 0)), .any⟩]
@[reducible] def e48r7 : List Ins := [
  ⟨(some 55), none, .mov (.t 3), .any⟩,
  ⟨(some 56), none, .faddr 2 (.t 1), .any⟩,
  ⟨(some 57), none, .load false 1 (.t 56), .any⟩,
  ⟨(some 58), none, .len (.t 57), .any⟩,
  ⟨(some 59), none, .bin .lss (.t 55) (.t 58), .any⟩]
@[reducible] def e48n8 : EC := .cond (.t 59) .skip (.exit 0)
@[reducible] def e48n9 : EC := .seq (.reg e48r7) e48n8
@[reducible] def e48r10 : List Ins := [
  ⟨(some 62), none, .faddr 2 (.t 1), .n⟩,
  ⟨(some 63), none, .load false 1 (.t 62), .r⟩,
  ⟨(some 64), none, .mov (.t 3), .n⟩,
  ⟨(some 65), none, .iaddr 4 (.t 63) (.t 64), .n⟩,
  ⟨(some 66), none, .load true 4 (.t 65), .r⟩,
  ⟨(some 67), none, .faddr 0 (.t 1), .n⟩,
  ⟨(some 68), none, .load false 1 (.t 67), .r⟩,
  ⟨(some 69), none, .bin .eql (.t 68) (.c (.int .i64 1)), .n⟩,
  ⟨(some 70), none, .faddr 0 (.t 1), .n⟩,
  ⟨(some 71), none, .load false 1 (.t 70), .r⟩,
  ⟨(some 72), none, .bin .lss (.t 71) (.c (.int .i64 5)), .n⟩,
  ⟨(some 73), none, .call (.c (.fn 54 [])) [(.t 66), (.t 69), (.t 72)], .r⟩,
  ⟨(some 74), none, .un .not (.t 73), .n⟩]
@[reducible] def e48r11 : List Ins := [
  ⟨(some 2), none, .mov (.c (.bool false)), .any⟩]
@[reducible] def e48n12 : EC := .seq (.reg e48r11) .ret
@[reducible] def e48n13 : EC := .cond (.t 74) e48n12 .skip
@[reducible] def e48n14 : EC := .seq (.reg e48r10) e48n13
@[reducible] def e48n15 : EC := .block 1 e48n14
@[reducible] def e48r16 : List Ins := [
  ⟨(some 60), none, .mov (.t 3), .any⟩,
  ⟨(some 61), none, .bin .add (.t 60) (.c (.int .i64 1)), .any⟩,
  ⟨(some 3), none, .mov (.t 61), .any⟩]
@[reducible] def e48n17 : EC := .seq e48n15 (.reg e48r16)
@[reducible] def e48n18 : EC := .seq e48n9 e48n17
@[reducible] def e48n19 : EC := .loop e48n18
@[reducible] def e48n20 : EC := .block 0 e48n19
@[reducible] def e48n21 : EC := .seq (.reg e48r6) e48n20
@[reducible] def e48r22 : List Ins := [
  ⟨(some 2), none, .mov (.c (.bool true)), .any⟩]
@[reducible] def e48n23 : EC := .seq (.reg e48r22) .ret
@[reducible] def e48n24 : EC := .seq e48n21 e48n23
@[reducible] def e48n25 : EC := .seq e48n5 e48n24
@[reducible] def e48n26 : EC := .seq (.reg e48r0) e48n25
@[reducible] def e48 : EF := ⟨75, 1, [(.inl 2)], e48n26⟩
theorem e48_ok : compFn Try.prog {} Try.f48 = some e48 := by kernel_rfl
theorem e48_nm : (Try.f48.name == "runtime.NumGoroutine") = false := by kernel_rfl
/- yucca/yuccaref1.Name -/
@[reducible] def e49r0 : List Ins := [
  ⟨(some 2), none, .mov (.c (.bool false)), .any⟩]
@[reducible] def e49r1 : List Ins := [
  ⟨(some 3), none, .mov (.t 0), .any⟩,
  ⟨(some 4), none, .lenS (.t 3), .any⟩,
  ⟨(some 5), none, .bin .geq (.t 4) (.c (.int .i64 1)), .any⟩,
  ⟨(some 6), none, .mov (.t 5), .any⟩,
  ⟨(some 7), (some (6, true)), .mov (.t 0), .any⟩,
  ⟨(some 8), (some (6, true)), .lenS (.t 7), .any⟩,
  ⟨(some 9), (some (6, true)), .bin .leq (.t 8) (.c (.int .i64 20)), .any⟩,
  ⟨(some 10), none, .pick (.t 6) (.t 9) (.c (.bool false)), .any⟩,
  ⟨(some 11), none, .mov (.t 10), .any⟩,
  ⟨(some 12), (some (11, true)), .mov (.t 0), .any⟩,
  ⟨(some 13), (some (11, true)), .call (.c (.fn 55 [])) [(.t 12), (.c (.int .i64 0))], .any⟩,
  ⟨(some 14), (some (11, true)), .mov (.t 0), .any⟩,
  ⟨(some 15), (some (11, true)), .lenS (.t 14), .any⟩,
  ⟨(some 16), (some (11, true)), .bin .eql (.t 13) (.t 15), .any⟩,
  ⟨(some 17), none, .pick (.t 11) (.t 16) (.c (.bool false)), .any⟩,
  ⟨(some 2), none, .mov (.t 17), .any⟩]
@[reducible] def e49n2 : EC := .seq (.reg e49r1) .ret
@[reducible] def e49n3 : EC := .seq (.reg e49r0) e49n2
@[reducible] def e49 : EF := ⟨18, 1, [(.inl 2)], e49n3⟩
theorem e49_ok : compFn Try.prog {} Try.f49 = some e49 := by kernel_rfl
theorem e49_nm : (Try.f49.name == "runtime.NumGoroutine") = false := by kernel_rfl
/- yucca/yuccaref7.mayAlt -/
@[reducible] def e50r0 : List Ins := [
  ⟨(some 1), none, .box 6 (.t 0), .any⟩,
  ⟨(some 2), none, .mov (.c (.bool false)), .any⟩]
@[reducible] def e50r1 : List Ins := [
  ⟨(some 3), none, .mov (.c (.int .i64 0)), .any⟩]
@[reducible] def e50r2 : List Ins := [
  ⟨(some 5), none, .mov (.t 3), .any⟩,
  ⟨(some 6), none, .faddr 0 (.t 1), .any⟩,
  ⟨(some 7), none, .load false 1 (.t 6), .any⟩,
  ⟨(some 8), none, .len (.t 7), .any⟩,
  ⟨(some 9), none, .bin .lss (.t 5) (.t 8), .any⟩]
@[reducible] def e50n3 : EC := .cond (.t 9) .skip (.exit 0)
@[reducible] def e50n4 : EC := .seq (.reg e50r2) e50n3
@[reducible] def e50r5 : List Ins := [
  ⟨(some 12), none, .faddr 0 (.t 1), .any⟩,
  ⟨(some 13), none, .load false 1 (.t 12), .any⟩,
  ⟨(some 14), none, .mov (.t 3), .any⟩,
  ⟨(some 15), none, .iaddr 6 (.t 13) (.t 14), .any⟩,
  ⟨(some 16), none, .load true 6 (.t 15), .any⟩,
  ⟨(some 4), none, .alloc 6 (.agg [(.str []), (.bool false), (.int .i64 0), (.int .i64 0), (.str []), (.int .i64 0)]), .any⟩,
  ⟨none, none, .store 6 (.t 4) (.t 16), .any⟩]
@[reducible] def e50r6 : List Ins := [
  ⟨(some 17), none, .faddr 4 (.t 4), .n⟩,
  ⟨(some 18), none, .load false 1 (.t 17), .r⟩,
  ⟨(some 19), none, .bin .eql (.t 18) (.c (.str [])), .n⟩,
  ⟨(some 20), none, .mov (.t 19), .n⟩,
  ⟨(some 21), (some (20, true)), .faddr 0 (.t 4), .n⟩,
  ⟨(some 22), (some (20, true)), .load true 4 (.t 21), .r⟩,
  ⟨(some 23), (some (20, true)), .call (.c (.fn 54 [])) [(.t 22), (.c (.bool false)), (.c (.bool true))], .r⟩,
  ⟨(some 24), (some (20, true)), .un .not (.t 23), .n⟩,
  ⟨(some 25), none, .pick (.t 20) (.t 24) (.c (.bool false)), .n⟩,
  ⟨(some 26), none, .mov (.t 25), .n⟩,
  ⟨(some 27), (some (26, false)), .faddr 4 (.t 4), .n⟩,
  ⟨(some 28), (some (26, false)), .load false 1 (.t 27), .r⟩,
  ⟨(some 29), (some (26, false)), .bin .neq (.t 28) (.c (.str [])), .n⟩,
  ⟨(some 30), (some (26, false)), .mov (.t 29), .n⟩,
  ⟨(some 31), (some (30, true)), .faddr 0 (.t 4), .n⟩,
  ⟨(some 32), (some (30, true)), .load true 4 (.t 31), .r⟩,
  ⟨(some 33), (some (30, true)), .call (.c (.fn 56 [])) [(.t 32)], .r⟩,
  ⟨(some 34), (some (30, true)), .un .not (.t 33), .n⟩,
  ⟨(some 35), (some (30, true)), .mov (.t 34), .n⟩,
  ⟨(some 36), (some (35, false)), .faddr 4 (.t 4), .n⟩,
  ⟨(some 37), (some (35, false)), .load false 1 (.t 36), .r⟩,
  ⟨(some 38), (some (35, false)), .call (.c (.fn 57 [])) [(.t 37), (.c (.int .i64 0))], .r⟩,
  ⟨(some 39), (some (35, false)), .faddr 4 (.t 4), .n⟩,
  ⟨(some 40), (some (35, false)), .load false 1 (.t 39), .r⟩,
  ⟨(some 41), (some (35, false)), .lenS (.t 40), .n⟩,
  ⟨(some 42), (some (35, false)), .bin .neq (.t 38) (.t 41), .n⟩,
  ⟨(some 43), (some (30, true)), .pick (.t 35) (.c (.bool true)) (.t 42), .n⟩,
  ⟨(some 44), (some (26, false)), .pick (.t 30) (.t 43) (.c (.bool false)), .n⟩,
  ⟨(some 45), none, .pick (.t 26) (.c (.bool true)) (.t 44), .n⟩]
@[reducible] def e50r7 : List Ins := [
  ⟨(some 2), none, .mov (.c (.bool false)), .any⟩]
@[reducible] def e50n8 : EC := .seq (.reg e50r7) .ret
@[reducible] def e50n9 : EC := .cond (.t 45) e50n8 .skip
@[reducible] def e50n10 : EC := .seq (.reg e50r6) e50n9
@[reducible] def e50n11 : EC := .seq (.reg e50r5) e50n10
@[reducible] def e50n12 : EC := .block 1 e50n11
@[reducible] def e50r13 : List Ins := [
  ⟨(some 10), none, .mov (.t 3), .any⟩,
  ⟨(some 11), none, .bin .add (.t 10) (.c (.int .i64 1)), .any⟩,
  ⟨(some 3), none, .mov (.t 11), .any⟩]
@[reducible] def e50n14 : EC := .seq e50n12 (.reg e50r13)
@[reducible] def e50n15 : EC := .seq e50n4 e50n14
@[reducible] def e50n16 : EC := .loop e50n15
@[reducible] def e50n17 : EC := .block 0 e50n16
@[reducible] def e50n18 : EC := .seq (.reg e50r1) e50n17
@[reducible] def e50r19 : List Ins := [
  ⟨(some 46), none, .faddr 1 (.t 1), .any⟩,
  ⟨(some 47), none, .load true 4 (.t 46), .any⟩,
  ⟨(some 48), none, .call (.c (.fn 56 [])) [(.t 47)], .any⟩,
  ⟨(some 49), none, .mov (.t 48), .any⟩,
  ⟨(some 50), (some (49, false)), .faddr 1 (.t 1), .any⟩,
  ⟨(some 51), (some (49, false)), .load true 4 (.t 50), .any⟩,
  ⟨(some 52), (some (49, false)), .call (.c (.fn 54 [])) [(.t 51), (.c (.bool false)), (.c (.bool true))], .any⟩,
  ⟨(some 53), none, .pick (.t 49) (.c (.bool true)) (.t 52), .any⟩,
  ⟨(some 2), none, .mov (.t 53), .any⟩]
@[reducible] def e50n20 : EC := .seq (.reg e50r19) .ret
@[reducible] def e50n21 : EC := .seq e50n18 e50n20
@[reducible] def e50n22 : EC := .seq (.reg e50r0) e50n21
@[reducible] def e50 : EF := ⟨54, 1, [(.inl 2)], e50n22⟩
theorem e50_ok : compFn Try.prog {} Try.f50 = some e50 := by kernel_rfl
theorem e50_nm : (Try.f50.name == "runtime.NumGoroutine") = false := by kernel_rfl
/- (yucca/yuccaref9.maker).put -/
@[reducible] def e51r0 : List Ins := [
  ⟨(some 3), none, .box 4 (.t 1), .any⟩,
  ⟨(some 4), none, .mov (.c (.int .i64 0)), .any⟩]
@[reducible] def e51r1 : List Ins := [
  ⟨(some 7), none, .mov (.t 0), .any⟩,
  ⟨(some 8), none, .load true 4 (.t 3), .any⟩,
  ⟨(some 9), none, .call (.c (.fn 42 [])) [(.t 7), (.t 8)], .any⟩,
  ⟨(some 5), none, .mov (.t 9), .any⟩]
@[reducible] def e51r2 : List Ins := [
  ⟨(some 10), none, .mov (.t 5), .any⟩,
  ⟨(some 11), none, .bin .geq (.t 10) (.c (.int .i64 0)), .any⟩]
@[reducible] def e51r3 : List Ins := [
  ⟨(some 12), none, .mov (.t 5), .any⟩,
  ⟨(some 4), none, .mov (.t 12), .any⟩]
@[reducible] def e51n4 : EC := .seq (.reg e51r3) .ret
@[reducible] def e51n5 : EC := .cond (.t 11) e51n4 .skip
@[reducible] def e51n6 : EC := .seq (.reg e51r2) e51n5
@[reducible] def e51r7 : List Ins := [
  ⟨(some 13), none, .faddr 0 (.t 3), .any⟩,
  ⟨(some 14), none, .load false 1 (.t 13), .any⟩,
  ⟨(some 15), none, .faddr 1 (.t 3), .any⟩,
  ⟨(some 16), none, .load false 1 (.t 15), .any⟩,
  ⟨(some 17), none, .build [(.str []), (.bool false), (.int .i64 0), (.int .i64 0), (.int .i64 0), (.str [])] [(0, 1, (.t 14)), (1, 1, (.t 16))], .any⟩,
  ⟨(some 6), none, .alloc 6 (.agg [(.str []), (.bool false), (.int .i64 0), (.int .i64 0), (.int .i64 0), (.str [])]), .any⟩,
  ⟨none, none, .store 6 (.t 6) (.t 17), .any⟩]
@[reducible] def e51r8 : List Ins := [
  ⟨(some 18), none, .faddr 1 (.t 3), .any⟩,
  ⟨(some 19), none, .load false 1 (.t 18), .any⟩]
@[reducible] def e51r9 : List Ins := [
  ⟨(some 20), none, .faddr 0 (.t 3), .any⟩,
  ⟨(some 21), none, .load false 1 (.t 20), .any⟩,
  ⟨(some 22), none, .idxS (.t 21) (.c (.int .i64 0)), .any⟩,
  ⟨(some 23), none, .conv .i64 (.t 22), .any⟩,
  ⟨(some 24), none, .faddr 2 (.t 6), .any⟩,
  ⟨none, none, .store 1 (.t 24) (.t 23), .any⟩]
@[reducible] def e51r10 : List Ins := [
  ⟨(some 25), none, .mov (.t 0), .any⟩,
  ⟨(some 26), none, .faddr 2 (.t 6), .any⟩,
  ⟨(some 27), none, .load false 1 (.t 26), .any⟩,
  ⟨(some 28), none, .call (.c (.fn 52 [])) [(.t 25), (.t 27)], .any⟩,
  ⟨(some 29), none, .bin .geq (.t 28) (.c (.int .i64 0)), .any⟩]
@[reducible] def e51r11 : List Ins := [
  ⟨(some 30), none, .mov (.t 0), .any⟩,
  ⟨(some 31), none, .faddr 3 (.t 3), .any⟩,
  ⟨(some 32), none, .load false 1 (.t 31), .any⟩,
  ⟨(some 33), none, .faddr 0 (.t 3), .any⟩,
  ⟨(some 34), none, .load false 1 (.t 33), .any⟩,
  ⟨(some 35), none, .call (.c (.fn 41 [])) [(.t 30), (.t 32), (.t 34)], .any⟩]
@[reducible] def e51n12 : EC := .cond (.t 29) (.reg e51r11) .skip
@[reducible] def e51n13 : EC := .seq (.reg e51r10) e51n12
@[reducible] def e51n14 : EC := .seq (.reg e51r9) e51n13
@[reducible] def e51n15 : EC := .cond (.t 19) e51n14 .skip
@[reducible] def e51n16 : EC := .seq (.reg e51r8) e51n15
@[reducible] def e51r17 : List Ins := [
  ⟨(some 36), none, .mov (.t 0), .n⟩,
  ⟨(some 37), none, .mov (.t 0), .n⟩,
  ⟨(some 38), none, .nilck (.t 37), .n⟩,
  ⟨(some 39), none, .faddr 0 (.t 38), .n⟩,
  ⟨(some 40), none, .faddr 0 (.t 39), .n⟩,
  ⟨(some 41), none, .load false 1 (.t 40), .r⟩,
  ⟨(some 42), none, .load true 6 (.t 6), .r⟩,
  ⟨(some 43), none, .lit false 6 true (.agg [(.str []), (.bool false), (.int .i64 0), (.int .i64 0), (.int .i64 0), (.str [])]) 1 [(0, (.t 42))], .n⟩,
  ⟨(some 44), none, .append true 6 64 (.t 41) (.t 43), .w⟩,
  ⟨(some 45), none, .nilck (.t 36), .n⟩,
  ⟨(some 46), none, .faddr 0 (.t 45), .n⟩,
  ⟨(some 47), none, .faddr 0 (.t 46), .n⟩,
  ⟨none, none, .store 1 (.t 47) (.t 44), .w⟩]
@[reducible] def e51r18 : List Ins := [
  ⟨(some 48), none, .mov (.t 0), .n⟩,
  ⟨(some 49), none, .mov (.t 0), .n⟩,
  ⟨(some 50), none, .nilck (.t 49), .n⟩,
  ⟨(some 51), none, .faddr 5 (.t 50), .n⟩,
  ⟨(some 52), none, .load false 1 (.t 51), .r⟩,
  ⟨(some 53), none, .faddr 1 (.t 3), .n⟩,
  ⟨(some 54), none, .load false 1 (.t 53), .r⟩,
  ⟨(some 55), none, .lit false 1 false (.bool false) 1 [(0, (.t 54))], .n⟩,
  ⟨(some 56), none, .append true 1 1 (.t 52) (.t 55), .w⟩,
  ⟨(some 57), none, .nilck (.t 48), .n⟩,
  ⟨(some 58), none, .faddr 5 (.t 57), .n⟩,
  ⟨none, none, .store 1 (.t 58) (.t 56), .w⟩]
@[reducible] def e51r19 : List Ins := [
  ⟨(some 59), none, .mov (.t 0), .any⟩,
  ⟨(some 60), none, .nilck (.t 59), .any⟩,
  ⟨(some 61), none, .faddr 0 (.t 60), .any⟩,
  ⟨(some 62), none, .faddr 0 (.t 61), .any⟩,
  ⟨(some 63), none, .load false 1 (.t 62), .any⟩,
  ⟨(some 64), none, .len (.t 63), .any⟩,
  ⟨(some 65), none, .bin .sub (.t 64) (.c (.int .i64 1)), .any⟩,
  ⟨(some 4), none, .mov (.t 65), .any⟩]
@[reducible] def e51n20 : EC := .seq (.reg e51r19) .ret
@[reducible] def e51n21 : EC := .seq (.reg e51r18) e51n20
@[reducible] def e51n22 : EC := .seq (.reg e51r17) e51n21
@[reducible] def e51n23 : EC := .seq e51n16 e51n22
@[reducible] def e51n24 : EC := .seq (.reg e51r7) e51n23
@[reducible] def e51n25 : EC := .seq e51n6 e51n24
@[reducible] def e51n26 : EC := .seq (.reg e51r1) e51n25
@[reducible] def e51n27 : EC := .seq (.reg e51r0) e51n26
@[reducible] def e51 : EF := ⟨66, 2, [(.inl 4)], e51n27⟩
theorem e51_ok : compFn Try.prog { mu := fun t => [44, 56].contains t, cl := fun r i => ([(9, 8, Cls.w), (10, 8, Cls.w), (1, 2, Cls.b), (7, 3, Cls.b), (8, 5, Cls.w)].find? fun x => x.1 == r && x.2.1 == i).map (·.2.2) } Try.f51 = some e51 := by kernel_rfl
theorem e51_nm : (Try.f51.name == "runtime.NumGoroutine") = false := by kernel_rfl
/- (yucca/yuccaref9.maker).owner -/
@[reducible] def e52r0 : List Ins := [
  ⟨(some 4), none, .mov (.c (.int .i64 0)), .any⟩]
@[reducible] def e52r1 : List Ins := [
  ⟨(some 5), none, .mov (.c (.int .i64 3)), .any⟩]
@[reducible] def e52r2 : List Ins := [
  ⟨(some 6), none, .mov (.t 5), .any⟩,
  ⟨(some 7), none, .mov (.t 0), .any⟩,
  ⟨(some 8), none, .nilck (.t 7), .any⟩,
  ⟨(some 9), none, .faddr 0 (.t 8), .any⟩,
  ⟨(some 10), none, .faddr 0 (.t 9), .any⟩,
  ⟨(some 11), none, .load false 1 (.t 10), .any⟩,
  ⟨(some 12), none, .len (.t 11), .any⟩,
  ⟨(some 13), none, .bin .lss (.t 6) (.t 12), .any⟩]
@[reducible] def e52n3 : EC := .cond (.t 13) .skip (.exit 0)
@[reducible] def e52n4 : EC := .seq (.reg e52r2) e52n3
@[reducible] def e52r5 : List Ins := [
  ⟨(some 16), none, .mov (.t 0), .any⟩,
  ⟨(some 17), none, .nilck (.t 16), .any⟩,
  ⟨(some 18), none, .faddr 0 (.t 17), .any⟩,
  ⟨(some 19), none, .faddr 0 (.t 18), .any⟩,
  ⟨(some 20), none, .load false 1 (.t 19), .any⟩,
  ⟨(some 21), none, .mov (.t 5), .any⟩,
  ⟨(some 22), none, .iaddr 6 (.t 20) (.t 21), .any⟩,
  ⟨(some 23), none, .faddr 2 (.t 22), .any⟩,
  ⟨(some 24), none, .load false 1 (.t 23), .any⟩,
  ⟨(some 25), none, .mov (.t 1), .any⟩,
  ⟨(some 26), none, .bin .eql (.t 24) (.t 25), .any⟩]
@[reducible] def e52r6 : List Ins := [
  ⟨(some 27), none, .mov (.t 5), .any⟩,
  ⟨(some 4), none, .mov (.t 27), .any⟩]
@[reducible] def e52n7 : EC := .seq (.reg e52r6) .ret
@[reducible] def e52n8 : EC := .cond (.t 26) e52n7 .skip
@[reducible] def e52n9 : EC := .seq (.reg e52r5) e52n8
@[reducible] def e52n10 : EC := .block 1 e52n9
@[reducible] def e52r11 : List Ins := [
  ⟨(some 14), none, .mov (.t 5), .any⟩,
  ⟨(some 15), none, .bin .add (.t 14) (.c (.int .i64 1)), .any⟩,
  ⟨(some 5), none, .mov (.t 15), .any⟩]
@[reducible] def e52n12 : EC := .seq e52n10 (.reg e52r11)
@[reducible] def e52n13 : EC := .seq e52n4 e52n12
@[reducible] def e52n14 : EC := .loop e52n13
@[reducible] def e52n15 : EC := .block 0 e52n14
@[reducible] def e52n16 : EC := .seq (.reg e52r1) e52n15
@[reducible] def e52r17 : List Ins := [
  ⟨(some 4), none, .mov (.c (.int .i64 (-1))), .any⟩]
@[reducible] def e52n18 : EC := .seq (.reg e52r17) .ret
@[reducible] def e52n19 : EC := .seq e52n16 e52n18
@[reducible] def e52n20 : EC := .seq (.reg e52r0) e52n19
@[reducible] def e52 : EF := ⟨28, 2, [(.inl 4)], e52n20⟩
theorem e52_ok : compFn Try.prog {} Try.f52 = some e52 := by kernel_rfl
theorem e52_nm : (Try.f52.name == "runtime.NumGoroutine") = false := by kernel_rfl
/- (yucca/yuccaref9.maker).symbol -/
@[reducible] def e53r0 : List Ins := [
  ⟨(some 3), none, .box 4 (.t 1), .any⟩,
  ⟨(some 4), none, .mov (.c (.int .i64 0)), .any⟩]
@[reducible] def e53r1 : List Ins := [
  ⟨(some 7), none, .faddr 1 (.t 3), .any⟩,
  ⟨(some 8), none, .load false 1 (.t 7), .any⟩]
@[reducible] def e53r2 : List Ins := [
  ⟨(some 9), none, .mov (.t 0), .any⟩,
  ⟨(some 10), none, .load true 4 (.t 3), .any⟩,
  ⟨(some 11), none, .call (.c (.fn 51 [])) [(.t 9), (.t 10)], .any⟩,
  ⟨(some 4), none, .mov (.t 11), .any⟩]
@[reducible] def e53n3 : EC := .seq (.reg e53r2) .ret
@[reducible] def e53n4 : EC := .cond (.t 8) e53n3 .skip
@[reducible] def e53n5 : EC := .seq (.reg e53r1) e53n4
@[reducible] def e53r6 : List Ins := [
  ⟨(some 12), none, .mov (.t 0), .any⟩,
  ⟨(some 13), none, .faddr 0 (.t 3), .any⟩,
  ⟨(some 14), none, .load false 1 (.t 13), .any⟩,
  ⟨(some 15), none, .call (.c (.fn 43 [])) [(.t 12), (.t 14)], .any⟩,
  ⟨(some 5), none, .mov (.t 15), .any⟩]
@[reducible] def e53r7 : List Ins := [
  ⟨(some 16), none, .mov (.t 5), .any⟩,
  ⟨(some 17), none, .bin .geq (.t 16) (.c (.int .i64 0)), .any⟩]
@[reducible] def e53r8 : List Ins := [
  ⟨(some 18), none, .mov (.t 5), .any⟩,
  ⟨(some 19), none, .bin .add (.c (.int .i64 1001)) (.t 18), .any⟩,
  ⟨(some 4), none, .mov (.t 19), .any⟩]
@[reducible] def e53n9 : EC := .seq (.reg e53r8) .ret
@[reducible] def e53n10 : EC := .cond (.t 17) e53n9 .skip
@[reducible] def e53n11 : EC := .seq (.reg e53r7) e53n10
@[reducible] def e53n12 : EC := .seq (.reg e53r6) e53n11
@[reducible] def e53r13 : List Ins := [
  ⟨(some 20), none, .mov (.t 0), .any⟩,
  ⟨(some 21), none, .load true 4 (.t 3), .any⟩,
  ⟨(some 22), none, .call (.c (.fn 42 [])) [(.t 20), (.t 21)], .any⟩,
  ⟨(some 6), none, .mov (.t 22), .any⟩]
@[reducible] def e53r14 : List Ins := [
  ⟨(some 23), none, .mov (.t 6), .any⟩,
  ⟨(some 24), none, .bin .lss (.t 23) (.c (.int .i64 0)), .any⟩]
@[reducible] def e53r15 : List Ins := [
  ⟨(some 25), none, .mov (.t 0), .any⟩,
  ⟨(some 26), none, .faddr 3 (.t 3), .any⟩,
  ⟨(some 27), none, .load false 1 (.t 26), .any⟩,
  ⟨(some 28), none, .faddr 0 (.t 3), .any⟩,
  ⟨(some 29), none, .load false 1 (.t 28), .any⟩,
  ⟨(some 30), none, .call (.c (.fn 41 [])) [(.t 25), (.t 27), (.t 29)], .any⟩]
@[reducible] def e53r16 : List Ins := [
  ⟨(some 4), none, .mov (.c (.int .i64 0)), .any⟩]
@[reducible] def e53n17 : EC := .seq (.reg e53r16) .ret
@[reducible] def e53n18 : EC := .seq (.reg e53r15) e53n17
@[reducible] def e53n19 : EC := .cond (.t 24) e53n18 .skip
@[reducible] def e53n20 : EC := .seq (.reg e53r14) e53n19
@[reducible] def e53r21 : List Ins := [
  ⟨(some 31), none, .mov (.t 6), .any⟩,
  ⟨(some 4), none, .mov (.t 31), .any⟩]
@[reducible] def e53n22 : EC := .seq (.reg e53r21) .ret
@[reducible] def e53n23 : EC := .seq e53n20 e53n22
@[reducible] def e53n24 : EC := .seq (.reg e53r13) e53n23
@[reducible] def e53n25 : EC := .seq e53n12 e53n24
@[reducible] def e53n26 : EC := .seq e53n5 e53n25
@[reducible] def e53n27 : EC := .seq (.reg e53r0) e53n26
@[reducible] def e53 : EF := ⟨32, 2, [(.inl 4)], e53n27⟩
theorem e53_ok : compFn Try.prog { mu := fun t => [].contains t, cl := fun r i => ([(2, 2, Cls.w), (3, 3, Cls.b), (6, 2, Cls.b), (8, 5, Cls.w)].find? fun x => x.1 == r && x.2.1 == i).map (·.2.2) } Try.f53 = some e53 := by kernel_rfl
theorem e53_nm : (Try.f53.name == "runtime.NumGoroutine") = false := by kernel_rfl
/- yucca/yuccaref7.symbol -/
@[reducible] def e54r0 : List Ins := [
  ⟨(some 3), none, .box 4 (.t 0), .any⟩,
  ⟨(some 6), none, .mov (.c (.bool false)), .any⟩]
@[reducible] def e54r1 : List Ins := [
  ⟨(some 9), none, .faddr 1 (.t 3), .any⟩,
  ⟨(some 10), none, .load false 1 (.t 9), .any⟩]
@[reducible] def e54r2 : List Ins := [
  ⟨(some 11), none, .mov (.t 2), .any⟩,
  ⟨(some 12), none, .un .not (.t 11), .any⟩,
  ⟨(some 13), none, .mov (.t 12), .any⟩,
  ⟨(some 14), (some (13, false)), .faddr 0 (.t 3), .any⟩,
  ⟨(some 15), (some (13, false)), .load false 1 (.t 14), .any⟩,
  ⟨(some 16), (some (13, false)), .lenS (.t 15), .any⟩,
  ⟨(some 17), (some (13, false)), .bin .neq (.t 16) (.c (.int .i64 1)), .any⟩,
  ⟨(some 18), none, .pick (.t 13) (.c (.bool true)) (.t 17), .any⟩,
  ⟨(some 19), none, .mov (.t 18), .any⟩,
  ⟨(some 20), (some (19, false)), .faddr 2 (.t 3), .any⟩,
  ⟨(some 21), (some (19, false)), .load false 1 (.t 20), .any⟩,
  ⟨(some 22), (some (19, false)), .bin .neq (.t 21) (.c (.int .i64 0)), .any⟩,
  ⟨(some 23), none, .pick (.t 19) (.c (.bool true)) (.t 22), .any⟩]
@[reducible] def e54r3 : List Ins := [
  ⟨(some 6), none, .mov (.c (.bool false)), .any⟩]
@[reducible] def e54n4 : EC := .seq (.reg e54r3) .ret
@[reducible] def e54n5 : EC := .cond (.t 23) e54n4 .skip
@[reducible] def e54n6 : EC := .seq (.reg e54r2) e54n5
@[reducible] def e54r7 : List Ins := [
  ⟨(some 25), none, .faddr 0 (.t 3), .any⟩,
  ⟨(some 26), none, .load false 1 (.t 25), .any⟩,
  ⟨(some 27), none, .idxS (.t 26) (.c (.int .i64 0)), .any⟩,
  ⟨(some 28), none, .call (.c (.fn 58 [])) [(.t 27)], .any⟩,
  ⟨(some 24), none, .mov (.t 28), .any⟩,
  ⟨(some 29), none, .ext (.t 24) 0, .any⟩,
  ⟨(some 30), none, .ext (.t 24) 1, .any⟩,
  ⟨(some 7), none, .mov (.t 29), .any⟩,
  ⟨(some 8), none, .mov (.t 30), .any⟩]
@[reducible] def e54r8 : List Ins := [
  ⟨(some 31), none, .mov (.t 8), .any⟩,
  ⟨(some 6), none, .mov (.t 31), .any⟩]
@[reducible] def e54n9 : EC := .seq (.reg e54r8) .ret
@[reducible] def e54n10 : EC := .seq (.reg e54r7) e54n9
@[reducible] def e54n11 : EC := .seq e54n6 e54n10
@[reducible] def e54n12 : EC := .cond (.t 10) e54n11 .skip
@[reducible] def e54n13 : EC := .seq (.reg e54r1) e54n12
@[reducible] def e54r14 : List Ins := [
  ⟨(some 32), none, .faddr 0 (.t 3), .any⟩,
  ⟨(some 33), none, .load false 1 (.t 32), .any⟩,
  ⟨(some 34), none, .call (.c (.fn 49 [])) [(.t 33)], .any⟩,
  ⟨(some 35), none, .mov (.t 34), .any⟩,
  ⟨(some 36), (some (35, true)), .faddr 2 (.t 3), .any⟩,
  ⟨(some 37), (some (35, true)), .load false 1 (.t 36), .any⟩,
  ⟨(some 38), (some (35, true)), .bin .eql (.t 37) (.c (.int .i64 0)), .any⟩,
  ⟨(some 39), (some (35, true)), .mov (.t 38), .any⟩,
  ⟨(some 40), (some (39, false)), .mov (.t 1), .any⟩,
  ⟨(some 41), (some (39, false)), .mov (.t 40), .any⟩,
  ⟨(some 42), (some (41, true)), .faddr 2 (.t 3), .any⟩,
  ⟨(some 43), (some (41, true)), .load false 1 (.t 42), .any⟩,
  ⟨(some 44), (some (41, true)), .bin .geq (.t 43) (.c (.int .i64 1)), .any⟩,
  ⟨(some 45), (some (39, false)), .pick (.t 41) (.t 44) (.c (.bool false)), .any⟩,
  ⟨(some 46), (some (39, false)), .mov (.t 45), .any⟩,
  ⟨(some 47), (some (46, true)), .faddr 2 (.t 3), .any⟩,
  ⟨(some 48), (some (46, true)), .load false 1 (.t 47), .any⟩,
  ⟨(some 49), (some (46, true)), .bin .leq (.t 48) (.c (.int .i64 50000)), .any⟩,
  ⟨(some 50), (some (39, false)), .pick (.t 46) (.t 49) (.c (.bool false)), .any⟩,
  ⟨(some 51), (some (35, true)), .pick (.t 39) (.c (.bool true)) (.t 50), .any⟩,
  ⟨(some 52), none, .pick (.t 35) (.t 51) (.c (.bool false)), .any⟩,
  ⟨(some 6), none, .mov (.t 52), .any⟩]
@[reducible] def e54n15 : EC := .seq (.reg e54r14) .ret
@[reducible] def e54n16 : EC := .seq e54n13 e54n15
@[reducible] def e54n17 : EC := .seq (.reg e54r0) e54n16
@[reducible] def e54 : EF := ⟨53, 3, [(.inl 6)], e54n17⟩
theorem e54_ok : compFn Try.prog {} Try.f54 = some e54 := by kernel_rfl
theorem e54_nm : (Try.f54.name == "runtime.NumGoroutine") = false := by kernel_rfl
/- yucca/yuccaref1.NameAt -/
@[reducible] def e55r0 : List Ins := [
  ⟨(some 4), none, .mov (.c (.int .i64 0)), .any⟩]
@[reducible] def e55r1 : List Ins := [
  ⟨(some 5), none, .mov (.c (.int .i64 0)), .any⟩]
@[reducible] def e55r2 : List Ins := [
  ⟨(some 6), none, .mov (.t 1), .any⟩,
  ⟨(some 7), none, .mov (.t 5), .any⟩,
  ⟨(some 8), none, .bin .add (.t 6) (.t 7), .any⟩,
  ⟨(some 9), none, .mov (.t 0), .any⟩,
  ⟨(some 10), none, .lenS (.t 9), .any⟩,
  ⟨(some 11), none, .bin .lss (.t 8) (.t 10), .any⟩,
  ⟨(some 12), none, .mov (.t 11), .any⟩,
  ⟨(some 13), (some (12, true)), .mov (.t 0), .any⟩,
  ⟨(some 14), (some (12, true)), .mov (.t 1), .any⟩,
  ⟨(some 15), (some (12, true)), .mov (.t 5), .any⟩,
  ⟨(some 16), (some (12, true)), .bin .add (.t 14) (.t 15), .any⟩,
  ⟨(some 17), (some (12, true)), .idxS (.t 13) (.t 16), .any⟩,
  ⟨(some 18), (some (12, true)), .call (.c (.fn 59 [])) [(.t 17)], .any⟩,
  ⟨(some 19), (some (12, true)), .mov (.t 18), .any⟩,
  ⟨(some 20), (some (19, false)), .mov (.t 5), .any⟩,
  ⟨(some 21), (some (19, false)), .bin .gtr (.t 20) (.c (.int .i64 0)), .any⟩,
  ⟨(some 22), (some (19, false)), .mov (.t 21), .any⟩,
  ⟨(some 23), (some (22, true)), .mov (.t 0), .any⟩,
  ⟨(some 24), (some (22, true)), .mov (.t 1), .any⟩,
  ⟨(some 25), (some (22, true)), .mov (.t 5), .any⟩,
  ⟨(some 26), (some (22, true)), .bin .add (.t 24) (.t 25), .any⟩,
  ⟨(some 27), (some (22, true)), .idxS (.t 23) (.t 26), .any⟩,
  ⟨(some 28), (some (22, true)), .call (.c (.fn 60 [])) [(.t 27)], .any⟩,
  ⟨(some 29), (some (22, true)), .mov (.t 28), .any⟩,
  ⟨(some 30), (some (29, false)), .mov (.t 0), .any⟩,
  ⟨(some 31), (some (29, false)), .mov (.t 1), .any⟩,
  ⟨(some 32), (some (29, false)), .mov (.t 5), .any⟩,
  ⟨(some 33), (some (29, false)), .bin .add (.t 31) (.t 32), .any⟩,
  ⟨(some 34), (some (29, false)), .idxS (.t 30) (.t 33), .any⟩,
  ⟨(some 35), (some (29, false)), .bin .eql (.t 34) (.c (.int .u8 46)), .any⟩,
  ⟨(some 36), (some (22, true)), .pick (.t 29) (.c (.bool true)) (.t 35), .any⟩,
  ⟨(some 37), (some (19, false)), .pick (.t 22) (.t 36) (.c (.bool false)), .any⟩,
  ⟨(some 38), (some (12, true)), .pick (.t 19) (.c (.bool true)) (.t 37), .any⟩,
  ⟨(some 39), none, .pick (.t 12) (.t 38) (.c (.bool false)), .any⟩]
@[reducible] def e55n3 : EC := .cond (.t 39) .skip (.exit 0)
@[reducible] def e55n4 : EC := .seq (.reg e55r2) e55n3
@[reducible] def e55r5 : List Ins := [
  ⟨(some 40), none, .mov (.t 5), .any⟩,
  ⟨(some 41), none, .bin .add (.t 40) (.c (.int .i64 1)), .any⟩,
  ⟨(some 5), none, .mov (.t 41), .any⟩]
@[reducible] def e55n6 : EC := .block 1 (.reg e55r5)
@[reducible] def e55n7 : EC := .seq e55n4 e55n6
@[reducible] def e55n8 : EC := .loop e55n7
@[reducible] def e55n9 : EC := .block 0 e55n8
@[reducible] def e55r10 : List Ins := [
  ⟨(some 42), none, .mov (.t 5), .any⟩,
  ⟨(some 4), none, .mov (.t 42), .any⟩]
@[reducible] def e55n11 : EC := .seq (.reg e55r10) .ret
@[reducible] def e55n12 : EC := .seq e55n9 e55n11
@[reducible] def e55n13 : EC := .seq (.reg e55r1) e55n12
@[reducible] def e55n14 : EC := .seq (.reg e55r0) e55n13
@[reducible] def e55 : EF := ⟨43, 2, [(.inl 4)], e55n14⟩
theorem e55_ok : compFn Try.prog {} Try.f55 = some e55 := by kernel_rfl
theorem e55_nm : (Try.f55.name == "runtime.NumGoroutine") = false := by kernel_rfl
/- yucca/yuccaref7.none -/
@[reducible] def e56r0 : List Ins := [
  ⟨(some 1), none, .box 4 (.t 0), .any⟩,
  ⟨(some 2), none, .mov (.c (.bool false)), .any⟩]
@[reducible] def e56r1 : List Ins := [
  ⟨(some 3), none, .faddr 0 (.t 1), .any⟩,
  ⟨(some 4), none, .load false 1 (.t 3), .any⟩,
  ⟨(some 5), none, .bin .eql (.t 4) (.c (.str [])), .any⟩,
  ⟨(some 6), none, .mov (.t 5), .any⟩,
  ⟨(some 7), (some (6, true)), .faddr 1 (.t 1), .any⟩,
  ⟨(some 8), (some (6, true)), .load false 1 (.t 7), .any⟩,
  ⟨(some 9), (some (6, true)), .un .not (.t 8), .any⟩,
  ⟨(some 10), none, .pick (.t 6) (.t 9) (.c (.bool false)), .any⟩,
  ⟨(some 11), none, .mov (.t 10), .any⟩,
  ⟨(some 12), (some (11, true)), .faddr 2 (.t 1), .any⟩,
  ⟨(some 13), (some (11, true)), .load false 1 (.t 12), .any⟩,
  ⟨(some 14), (some (11, true)), .bin .eql (.t 13) (.c (.int .i64 0)), .any⟩,
  ⟨(some 15), none, .pick (.t 11) (.t 14) (.c (.bool false)), .any⟩,
  ⟨(some 2), none, .mov (.t 15), .any⟩]
@[reducible] def e56n2 : EC := .seq (.reg e56r1) .ret
@[reducible] def e56n3 : EC := .seq (.reg e56r0) e56n2
@[reducible] def e56 : EF := ⟨16, 1, [(.inl 2)], e56n3⟩
theorem e56_ok : compFn Try.prog {} Try.f56 = some e56 := by kernel_rfl
theorem e56_nm : (Try.f56.name == "runtime.NumGoroutine") = false := by kernel_rfl
/- yucca/yuccaref1.End -/
@[reducible] def e57r0 : List Ins := [
  ⟨(some 4), none, .mov (.c (.int .i64 0)), .any⟩]
@[reducible] def e57r1 : List Ins := [
  ⟨(some 8), none, .mov (.t 1), .any⟩,
  ⟨(some 9), none, .bin .lss (.t 8) (.c (.int .i64 0)), .any⟩,
  ⟨(some 10), none, .mov (.t 9), .any⟩,
  ⟨(some 11), (some (10, false)), .mov (.t 1), .any⟩,
  ⟨(some 12), (some (10, false)), .mov (.t 0), .any⟩,
  ⟨(some 13), (some (10, false)), .lenS (.t 12), .any⟩,
  ⟨(some 14), (some (10, false)), .bin .geq (.t 11) (.t 13), .any⟩,
  ⟨(some 15), none, .pick (.t 10) (.c (.bool true)) (.t 14), .any⟩,
  ⟨(some 16), none, .mov (.t 15), .any⟩,
  ⟨(some 17), (some (16, false)), .mov (.t 0), .any⟩,
  ⟨(some 18), (some (16, false)), .mov (.t 1), .any⟩,
  ⟨(some 19), (some (16, false)), .idxS (.t 17) (.t 18), .any⟩,
  ⟨(some 20), (some (16, false)), .bin .neq (.t 19) (.c (.int .u8 123)), .any⟩,
  ⟨(some 21), none, .pick (.t 16) (.c (.bool true)) (.t 20), .any⟩]
@[reducible] def e57r2 : List Ins := [
  ⟨(some 4), none, .mov (.c (.int .i64 (-1))), .any⟩]
@[reducible] def e57n3 : EC := .seq (.reg e57r2) .ret
@[reducible] def e57n4 : EC := .cond (.t 21) e57n3 .skip
@[reducible] def e57n5 : EC := .seq (.reg e57r1) e57n4
@[reducible] def e57r6 : List Ins := [
  ⟨(some 5), none, .mov (.c (.int .i64 0)), .any⟩]
@[reducible] def e57r7 : List Ins := [
  ⟨(some 22), none, .mov (.t 1), .any⟩,
  ⟨(some 6), none, .mov (.t 22), .any⟩]
@[reducible] def e57r8 : List Ins := [
  ⟨(some 23), none, .mov (.t 6), .any⟩,
  ⟨(some 24), none, .mov (.t 0), .any⟩,
  ⟨(some 25), none, .lenS (.t 24), .any⟩,
  ⟨(some 26), none, .bin .lss (.t 23) (.t 25), .any⟩]
@[reducible] def e57n9 : EC := .cond (.t 26) .skip (.exit 0)
@[reducible] def e57n10 : EC := .seq (.reg e57r8) e57n9
@[reducible] def e57r11 : List Ins := [
  ⟨(some 27), none, .mov (.t 0), .any⟩,
  ⟨(some 28), none, .mov (.t 6), .any⟩,
  ⟨(some 29), none, .call (.c (.fn 61 [])) [(.t 27), (.t 28)], .any⟩,
  ⟨(some 7), none, .mov (.t 29), .any⟩]
@[reducible] def e57r12 : List Ins := [
  ⟨(some 30), none, .mov (.t 7), .any⟩,
  ⟨(some 31), none, .bin .lss (.t 30) (.c (.int .i64 0)), .any⟩]
@[reducible] def e57r13 : List Ins := [
  ⟨(some 4), none, .mov (.c (.int .i64 (-1))), .any⟩]
@[reducible] def e57n14 : EC := .seq (.reg e57r13) .ret
@[reducible] def e57n15 : EC := .cond (.t 31) e57n14 .skip
@[reducible] def e57n16 : EC := .seq (.reg e57r12) e57n15
@[reducible] def e57r17 : List Ins := [
  ⟨(some 32), none, .mov (.t 7), .any⟩,
  ⟨(some 33), none, .mov (.t 6), .any⟩,
  ⟨(some 34), none, .bin .gtr (.t 32) (.t 33), .any⟩]
@[reducible] def e57r18 : List Ins := [
  ⟨(some 35), none, .mov (.t 7), .any⟩,
  ⟨(some 6), none, .mov (.t 35), .any⟩]
@[reducible] def e57n19 : EC := .seq (.reg e57r18) (.exit 1)
@[reducible] def e57n20 : EC := .cond (.t 34) e57n19 .skip
@[reducible] def e57n21 : EC := .seq (.reg e57r17) e57n20
@[reducible] def e57r22 : List Ins := [
  ⟨(some 36), none, .mov (.t 0), .any⟩,
  ⟨(some 37), none, .mov (.t 6), .any⟩,
  ⟨(some 38), none, .idxS (.t 36) (.t 37), .any⟩,
  ⟨(some 39), none, .bin .eql (.t 38) (.c (.int .u8 123)), .any⟩]
@[reducible] def e57r23 : List Ins := [
  ⟨(some 40), none, .mov (.t 5), .any⟩,
  ⟨(some 41), none, .bin .add (.t 40) (.c (.int .i64 1)), .any⟩,
  ⟨(some 5), none, .mov (.t 41), .any⟩]
@[reducible] def e57n24 : EC := .cond (.t 39) (.reg e57r23) .skip
@[reducible] def e57n25 : EC := .seq (.reg e57r22) e57n24
@[reducible] def e57r26 : List Ins := [
  ⟨(some 42), none, .mov (.t 0), .any⟩,
  ⟨(some 43), none, .mov (.t 6), .any⟩,
  ⟨(some 44), none, .idxS (.t 42) (.t 43), .any⟩,
  ⟨(some 45), none, .bin .eql (.t 44) (.c (.int .u8 125)), .any⟩]
@[reducible] def e57r27 : List Ins := [
  ⟨(some 46), none, .mov (.t 5), .any⟩,
  ⟨(some 47), none, .bin .sub (.t 46) (.c (.int .i64 1)), .any⟩,
  ⟨(some 5), none, .mov (.t 47), .any⟩]
@[reducible] def e57n28 : EC := .cond (.t 45) (.reg e57r27) .skip
@[reducible] def e57n29 : EC := .seq (.reg e57r26) e57n28
@[reducible] def e57r30 : List Ins := [
  ⟨(some 48), none, .mov (.t 6), .any⟩,
  ⟨(some 49), none, .bin .add (.t 48) (.c (.int .i64 1)), .any⟩,
  ⟨(some 6), none, .mov (.t 49), .any⟩]
@[reducible] def e57r31 : List Ins := [
  ⟨(some 50), none, .mov (.t 5), .any⟩,
  ⟨(some 51), none, .bin .eql (.t 50) (.c (.int .i64 0)), .any⟩]
@[reducible] def e57r32 : List Ins := [
  ⟨(some 52), none, .mov (.t 6), .any⟩,
  ⟨(some 4), none, .mov (.t 52), .any⟩]
@[reducible] def e57n33 : EC := .seq (.reg e57r32) .ret
@[reducible] def e57n34 : EC := .cond (.t 51) e57n33 .skip
@[reducible] def e57n35 : EC := .seq (.reg e57r31) e57n34
@[reducible] def e57n36 : EC := .seq (.reg e57r30) e57n35
@[reducible] def e57n37 : EC := .seq e57n29 e57n36
@[reducible] def e57n38 : EC := .seq e57n25 e57n37
@[reducible] def e57n39 : EC := .seq e57n21 e57n38
@[reducible] def e57n40 : EC := .seq e57n16 e57n39
@[reducible] def e57n41 : EC := .seq (.reg e57r11) e57n40
@[reducible] def e57n42 : EC := .block 1 e57n41
@[reducible] def e57n43 : EC := .seq e57n10 e57n42
@[reducible] def e57n44 : EC := .loop e57n43
@[reducible] def e57n45 : EC := .block 0 e57n44
@[reducible] def e57n46 : EC := .seq (.reg e57r7) e57n45
@[reducible] def e57r47 : List Ins := [
  ⟨(some 4), none, .mov (.c (.int .i64 (-1))), .any⟩]
@[reducible] def e57n48 : EC := .seq (.reg e57r47) .ret
@[reducible] def e57n49 : EC := .seq e57n46 e57n48
@[reducible] def e57n50 : EC := .seq (.reg e57r6) e57n49
@[reducible] def e57n51 : EC := .seq e57n5 e57n50
@[reducible] def e57n52 : EC := .seq (.reg e57r0) e57n51
@[reducible] def e57 : EF := ⟨53, 2, [(.inl 4)], e57n52⟩
theorem e57_ok : compFn Try.prog {} Try.f57 = some e57 := by kernel_rfl
theorem e57_nm : (Try.f57.name == "runtime.NumGoroutine") = false := by kernel_rfl
/- yucca/yuccaref1.Quoted -/
@[reducible] def e58r0 : List Ins := [
  ⟨(some 2), none, .mov (.c (.int .u8 0)), .any⟩,
  ⟨(some 3), none, .mov (.c (.bool false)), .any⟩]
@[reducible] def e58r1 : List Ins := [
  ⟨(some 4), none, .mov (.t 0), .any⟩]
@[reducible] def e58r2 : List Ins := [
  ⟨(some 6), none, .bin .eql (.t 4) (.c (.int .u8 10)), .any⟩,
  ⟨(some 5), none, .mov (.t 6), .any⟩]
@[reducible] def e58r3 : List Ins := [
  ⟨(some 2), none, .mov (.c (.int .u8 110)), .any⟩,
  ⟨(some 3), none, .mov (.c (.bool true)), .any⟩]
@[reducible] def e58n4 : EC := .seq (.reg e58r3) .ret
@[reducible] def e58r5 : List Ins := [
  ⟨(some 8), none, .bin .eql (.t 4) (.c (.int .u8 9)), .any⟩,
  ⟨(some 7), none, .mov (.t 8), .any⟩]
@[reducible] def e58r6 : List Ins := [
  ⟨(some 2), none, .mov (.c (.int .u8 116)), .any⟩,
  ⟨(some 3), none, .mov (.c (.bool true)), .any⟩]
@[reducible] def e58n7 : EC := .seq (.reg e58r6) .ret
@[reducible] def e58r8 : List Ins := [
  ⟨(some 10), none, .bin .eql (.t 4) (.c (.int .u8 13)), .any⟩,
  ⟨(some 9), none, .mov (.t 10), .any⟩]
@[reducible] def e58r9 : List Ins := [
  ⟨(some 2), none, .mov (.c (.int .u8 114)), .any⟩,
  ⟨(some 3), none, .mov (.c (.bool true)), .any⟩]
@[reducible] def e58n10 : EC := .seq (.reg e58r9) .ret
@[reducible] def e58r11 : List Ins := [
  ⟨(some 12), none, .bin .eql (.t 4) (.c (.int .u8 92)), .any⟩,
  ⟨(some 11), none, .mov (.t 12), .any⟩]
@[reducible] def e58r12 : List Ins := [
  ⟨(some 13), none, .bin .eql (.t 4) (.c (.int .u8 39)), .any⟩,
  ⟨(some 11), none, .mov (.t 13), .any⟩]
@[reducible] def e58n13 : EC := .cond (.t 11) .skip (.reg e58r12)
@[reducible] def e58n14 : EC := .seq (.reg e58r11) e58n13
@[reducible] def e58r15 : List Ins := [
  ⟨(some 14), none, .mov (.t 0), .any⟩,
  ⟨(some 2), none, .mov (.t 14), .any⟩,
  ⟨(some 3), none, .mov (.c (.bool true)), .any⟩]
@[reducible] def e58n16 : EC := .seq (.reg e58r15) .ret
@[reducible] def e58n17 : EC := .cond (.t 11) e58n16 .skip
@[reducible] def e58n18 : EC := .seq e58n14 e58n17
@[reducible] def e58n19 : EC := .cond (.t 9) e58n10 e58n18
@[reducible] def e58n20 : EC := .seq (.reg e58r8) e58n19
@[reducible] def e58n21 : EC := .cond (.t 7) e58n7 e58n20
@[reducible] def e58n22 : EC := .seq (.reg e58r5) e58n21
@[reducible] def e58n23 : EC := .cond (.t 5) e58n4 e58n22
@[reducible] def e58n24 : EC := .seq (.reg e58r2) e58n23
@[reducible] def e58n25 : EC := .block 0 e58n24
@[reducible] def e58n26 : EC := .seq (.reg e58r1) e58n25
@[reducible] def e58r27 : List Ins := [
  ⟨(some 15), none, .mov (.t 0), .any⟩,
  ⟨(some 16), none, .bin .geq (.t 15) (.c (.int .u8 32)), .any⟩,
  ⟨(some 17), none, .mov (.t 16), .any⟩,
  ⟨(some 18), (some (17, true)), .mov (.t 0), .any⟩,
  ⟨(some 19), (some (17, true)), .bin .leq (.t 18) (.c (.int .u8 126)), .any⟩,
  ⟨(some 20), none, .pick (.t 17) (.t 19) (.c (.bool false)), .any⟩,
  ⟨(some 2), none, .mov (.c (.int .u8 0)), .any⟩,
  ⟨(some 3), none, .mov (.t 20), .any⟩]
@[reducible] def e58n28 : EC := .seq (.reg e58r27) .ret
@[reducible] def e58n29 : EC := .seq e58n26 e58n28
@[reducible] def e58n30 : EC := .seq (.reg e58r0) e58n29
@[reducible] def e58 : EF := ⟨21, 1, [(.inl 2), (.inl 3)], e58n30⟩
theorem e58_ok : compFn Try.prog {} Try.f58 = some e58 := by kernel_rfl
theorem e58_nm : (Try.f58.name == "runtime.NumGoroutine") = false := by kernel_rfl
/- yucca/yuccaref1.letter -/
@[reducible] def e59r0 : List Ins := [
  ⟨(some 2), none, .mov (.c (.bool false)), .any⟩]
@[reducible] def e59r1 : List Ins := [
  ⟨(some 3), none, .mov (.t 0), .any⟩,
  ⟨(some 4), none, .bin .geq (.t 3) (.c (.int .u8 97)), .any⟩,
  ⟨(some 5), none, .mov (.t 4), .any⟩,
  ⟨(some 6), (some (5, true)), .mov (.t 0), .any⟩,
  ⟨(some 7), (some (5, true)), .bin .leq (.t 6) (.c (.int .u8 122)), .any⟩,
  ⟨(some 8), none, .pick (.t 5) (.t 7) (.c (.bool false)), .any⟩,
  ⟨(some 9), none, .mov (.t 8), .any⟩,
  ⟨(some 10), (some (9, false)), .mov (.t 0), .any⟩,
  ⟨(some 11), (some (9, false)), .bin .geq (.t 10) (.c (.int .u8 65)), .any⟩,
  ⟨(some 12), (some (9, false)), .mov (.t 11), .any⟩,
  ⟨(some 13), (some (12, true)), .mov (.t 0), .any⟩,
  ⟨(some 14), (some (12, true)), .bin .leq (.t 13) (.c (.int .u8 90)), .any⟩,
  ⟨(some 15), (some (9, false)), .pick (.t 12) (.t 14) (.c (.bool false)), .any⟩,
  ⟨(some 16), none, .pick (.t 9) (.c (.bool true)) (.t 15), .any⟩,
  ⟨(some 17), none, .mov (.t 16), .any⟩,
  ⟨(some 18), (some (17, false)), .mov (.t 0), .any⟩,
  ⟨(some 19), (some (17, false)), .bin .eql (.t 18) (.c (.int .u8 95)), .any⟩,
  ⟨(some 20), none, .pick (.t 17) (.c (.bool true)) (.t 19), .any⟩,
  ⟨(some 2), none, .mov (.t 20), .any⟩]
@[reducible] def e59n2 : EC := .seq (.reg e59r1) .ret
@[reducible] def e59n3 : EC := .seq (.reg e59r0) e59n2
@[reducible] def e59 : EF := ⟨21, 1, [(.inl 2)], e59n3⟩
theorem e59_ok : compFn Try.prog {} Try.f59 = some e59 := by kernel_rfl
theorem e59_nm : (Try.f59.name == "runtime.NumGoroutine") = false := by kernel_rfl
/- yucca/yuccaref1.digit -/
@[reducible] def e60r0 : List Ins := [
  ⟨(some 2), none, .mov (.c (.bool false)), .any⟩]
@[reducible] def e60r1 : List Ins := [
  ⟨(some 3), none, .mov (.t 0), .any⟩,
  ⟨(some 4), none, .bin .geq (.t 3) (.c (.int .u8 48)), .any⟩,
  ⟨(some 5), none, .mov (.t 4), .any⟩,
  ⟨(some 6), (some (5, true)), .mov (.t 0), .any⟩,
  ⟨(some 7), (some (5, true)), .bin .leq (.t 6) (.c (.int .u8 57)), .any⟩,
  ⟨(some 8), none, .pick (.t 5) (.t 7) (.c (.bool false)), .any⟩,
  ⟨(some 2), none, .mov (.t 8), .any⟩]
@[reducible] def e60n2 : EC := .seq (.reg e60r1) .ret
@[reducible] def e60n3 : EC := .seq (.reg e60r0) e60n2
@[reducible] def e60 : EF := ⟨9, 1, [(.inl 2)], e60n3⟩
theorem e60_ok : compFn Try.prog {} Try.f60 = some e60 := by kernel_rfl
theorem e60_nm : (Try.f60.name == "runtime.NumGoroutine") = false := by kernel_rfl
/- yucca/yuccaref1.Over -/
@[reducible] def e61r0 : List Ins := [
  ⟨(some 4), none, .mov (.c (.int .i64 0)), .any⟩]
@[reducible] def e61r1 : List Ins := [
  ⟨(some 10), none, .mov (.t 0), .any⟩,
  ⟨(some 11), none, .mov (.t 1), .any⟩,
  ⟨(some 12), none, .idxS (.t 10) (.t 11), .any⟩,
  ⟨(some 13), none, .bin .eql (.t 12) (.c (.int .u8 34)), .any⟩,
  ⟨(some 14), none, .mov (.t 13), .any⟩,
  ⟨(some 15), (some (14, false)), .mov (.t 0), .any⟩,
  ⟨(some 16), (some (14, false)), .mov (.t 1), .any⟩,
  ⟨(some 17), (some (14, false)), .idxS (.t 15) (.t 16), .any⟩,
  ⟨(some 18), (some (14, false)), .bin .eql (.t 17) (.c (.int .u8 39)), .any⟩,
  ⟨(some 19), none, .pick (.t 14) (.c (.bool true)) (.t 18), .any⟩,
  ⟨(some 9), none, .mov (.t 19), .any⟩]
@[reducible] def e61r2 : List Ins := [
  ⟨(some 20), none, .mov (.t 1), .any⟩,
  ⟨(some 21), none, .bin .add (.t 20) (.c (.int .i64 1)), .any⟩,
  ⟨(some 5), none, .mov (.t 21), .any⟩]
@[reducible] def e61r3 : List Ins := [
  ⟨(some 22), none, .mov (.t 5), .any⟩,
  ⟨(some 23), none, .mov (.t 0), .any⟩,
  ⟨(some 24), none, .lenS (.t 23), .any⟩,
  ⟨(some 25), none, .bin .lss (.t 22) (.t 24), .any⟩,
  ⟨(some 26), none, .mov (.t 25), .any⟩,
  ⟨(some 27), (some (26, true)), .mov (.t 0), .any⟩,
  ⟨(some 28), (some (26, true)), .mov (.t 5), .any⟩,
  ⟨(some 29), (some (26, true)), .idxS (.t 27) (.t 28), .any⟩,
  ⟨(some 30), (some (26, true)), .bin .neq (.t 29) (.c (.int .u8 10)), .any⟩,
  ⟨(some 31), none, .pick (.t 26) (.t 30) (.c (.bool false)), .any⟩]
@[reducible] def e61n4 : EC := .cond (.t 31) .skip (.exit 1)
@[reducible] def e61n5 : EC := .seq (.reg e61r3) e61n4
@[reducible] def e61r6 : List Ins := [
  ⟨(some 34), none, .mov (.t 0), .n⟩,
  ⟨(some 35), none, .mov (.t 5), .n⟩,
  ⟨(some 36), none, .idxS (.t 34) (.t 35), .n⟩,
  ⟨(some 37), none, .mov (.t 0), .n⟩,
  ⟨(some 38), none, .mov (.t 1), .n⟩,
  ⟨(some 39), none, .idxS (.t 37) (.t 38), .n⟩,
  ⟨(some 40), none, .bin .eql (.t 36) (.t 39), .n⟩]
@[reducible] def e61r7 : List Ins := [
  ⟨(some 41), none, .mov (.t 5), .any⟩,
  ⟨(some 42), none, .bin .add (.t 41) (.c (.int .i64 1)), .any⟩,
  ⟨(some 4), none, .mov (.t 42), .any⟩]
@[reducible] def e61n8 : EC := .seq (.reg e61r7) .ret
@[reducible] def e61n9 : EC := .cond (.t 40) e61n8 .skip
@[reducible] def e61n10 : EC := .seq (.reg e61r6) e61n9
@[reducible] def e61r11 : List Ins := [
  ⟨(some 43), none, .mov (.t 0), .any⟩,
  ⟨(some 44), none, .mov (.t 5), .any⟩,
  ⟨(some 45), none, .idxS (.t 43) (.t 44), .any⟩,
  ⟨(some 46), none, .bin .eql (.t 45) (.c (.int .u8 92)), .any⟩]
@[reducible] def e61r12 : List Ins := [
  ⟨(some 47), none, .mov (.t 5), .any⟩,
  ⟨(some 48), none, .bin .add (.t 47) (.c (.int .i64 1)), .any⟩,
  ⟨(some 5), none, .mov (.t 48), .any⟩]
@[reducible] def e61r13 : List Ins := [
  ⟨(some 49), none, .mov (.t 5), .any⟩,
  ⟨(some 50), none, .mov (.t 0), .any⟩,
  ⟨(some 51), none, .lenS (.t 50), .any⟩,
  ⟨(some 52), none, .bin .lss (.t 49) (.t 51), .any⟩,
  ⟨(some 53), none, .mov (.t 52), .any⟩,
  ⟨(some 54), (some (53, true)), .mov (.t 0), .any⟩,
  ⟨(some 55), (some (53, true)), .mov (.t 5), .any⟩,
  ⟨(some 56), (some (53, true)), .idxS (.t 54) (.t 55), .any⟩,
  ⟨(some 57), (some (53, true)), .bin .eql (.t 56) (.c (.int .u8 10)), .any⟩,
  ⟨(some 58), none, .pick (.t 53) (.t 57) (.c (.bool false)), .any⟩]
@[reducible] def e61r14 : List Ins := [
  ⟨(some 4), none, .mov (.c (.int .i64 (-1))), .any⟩]
@[reducible] def e61n15 : EC := .seq (.reg e61r14) .ret
@[reducible] def e61n16 : EC := .cond (.t 58) e61n15 .skip
@[reducible] def e61n17 : EC := .seq (.reg e61r13) e61n16
@[reducible] def e61n18 : EC := .seq (.reg e61r12) e61n17
@[reducible] def e61n19 : EC := .cond (.t 46) e61n18 .skip
@[reducible] def e61n20 : EC := .seq (.reg e61r11) e61n19
@[reducible] def e61n21 : EC := .seq e61n10 e61n20
@[reducible] def e61n22 : EC := .block 2 e61n21
@[reducible] def e61r23 : List Ins := [
  ⟨(some 32), none, .mov (.t 5), .any⟩,
  ⟨(some 33), none, .bin .add (.t 32) (.c (.int .i64 1)), .any⟩,
  ⟨(some 5), none, .mov (.t 33), .any⟩]
@[reducible] def e61n24 : EC := .seq e61n22 (.reg e61r23)
@[reducible] def e61n25 : EC := .seq e61n5 e61n24
@[reducible] def e61n26 : EC := .loop e61n25
@[reducible] def e61n27 : EC := .block 1 e61n26
@[reducible] def e61n28 : EC := .seq (.reg e61r2) e61n27
@[reducible] def e61r29 : List Ins := [
  ⟨(some 4), none, .mov (.c (.int .i64 (-1))), .any⟩]
@[reducible] def e61n30 : EC := .seq (.reg e61r29) .ret
@[reducible] def e61n31 : EC := .seq e61n28 e61n30
@[reducible] def e61r32 : List Ins := [
  ⟨(some 60), none, .mov (.t 0), .any⟩,
  ⟨(some 61), none, .mov (.t 1), .any⟩,
  ⟨(some 62), none, .idxS (.t 60) (.t 61), .any⟩,
  ⟨(some 63), none, .bin .eql (.t 62) (.c (.int .u8 96)), .any⟩,
  ⟨(some 59), none, .mov (.t 63), .any⟩]
@[reducible] def e61r33 : List Ins := [
  ⟨(some 64), none, .mov (.t 1), .any⟩,
  ⟨(some 65), none, .bin .add (.t 64) (.c (.int .i64 1)), .any⟩,
  ⟨(some 6), none, .mov (.t 65), .any⟩]
@[reducible] def e61r34 : List Ins := [
  ⟨(some 66), none, .mov (.t 6), .any⟩,
  ⟨(some 67), none, .mov (.t 0), .any⟩,
  ⟨(some 68), none, .lenS (.t 67), .any⟩,
  ⟨(some 69), none, .bin .lss (.t 66) (.t 68), .any⟩]
@[reducible] def e61n35 : EC := .cond (.t 69) .skip (.exit 3)
@[reducible] def e61n36 : EC := .seq (.reg e61r34) e61n35
@[reducible] def e61r37 : List Ins := [
  ⟨(some 72), none, .mov (.t 0), .any⟩,
  ⟨(some 73), none, .mov (.t 6), .any⟩,
  ⟨(some 74), none, .idxS (.t 72) (.t 73), .any⟩,
  ⟨(some 75), none, .bin .eql (.t 74) (.c (.int .u8 96)), .any⟩]
@[reducible] def e61r38 : List Ins := [
  ⟨(some 76), none, .mov (.t 6), .any⟩,
  ⟨(some 77), none, .bin .add (.t 76) (.c (.int .i64 1)), .any⟩,
  ⟨(some 4), none, .mov (.t 77), .any⟩]
@[reducible] def e61n39 : EC := .seq (.reg e61r38) .ret
@[reducible] def e61n40 : EC := .cond (.t 75) e61n39 .skip
@[reducible] def e61n41 : EC := .seq (.reg e61r37) e61n40
@[reducible] def e61n42 : EC := .block 4 e61n41
@[reducible] def e61r43 : List Ins := [
  ⟨(some 70), none, .mov (.t 6), .any⟩,
  ⟨(some 71), none, .bin .add (.t 70) (.c (.int .i64 1)), .any⟩,
  ⟨(some 6), none, .mov (.t 71), .any⟩]
@[reducible] def e61n44 : EC := .seq e61n42 (.reg e61r43)
@[reducible] def e61n45 : EC := .seq e61n36 e61n44
@[reducible] def e61n46 : EC := .loop e61n45
@[reducible] def e61n47 : EC := .block 3 e61n46
@[reducible] def e61n48 : EC := .seq (.reg e61r33) e61n47
@[reducible] def e61r49 : List Ins := [
  ⟨(some 4), none, .mov (.c (.int .i64 (-1))), .any⟩]
@[reducible] def e61n50 : EC := .seq (.reg e61r49) .ret
@[reducible] def e61n51 : EC := .seq e61n48 e61n50
@[reducible] def e61r52 : List Ins := [
  ⟨(some 79), none, .mov (.t 0), .any⟩,
  ⟨(some 80), none, .mov (.t 1), .any⟩,
  ⟨(some 81), none, .call (.c (.fn 62 [])) [(.t 79), (.t 80), (.c (.str [47, 47]))], .any⟩,
  ⟨(some 78), none, .mov (.t 81), .any⟩]
@[reducible] def e61r53 : List Ins := [
  ⟨(some 82), none, .mov (.t 1), .any⟩,
  ⟨(some 7), none, .mov (.t 82), .any⟩]
@[reducible] def e61r54 : List Ins := [
  ⟨(some 83), none, .mov (.t 7), .any⟩,
  ⟨(some 84), none, .mov (.t 0), .any⟩,
  ⟨(some 85), none, .lenS (.t 84), .any⟩,
  ⟨(some 86), none, .bin .lss (.t 83) (.t 85), .any⟩,
  ⟨(some 87), none, .mov (.t 86), .any⟩,
  ⟨(some 88), (some (87, true)), .mov (.t 0), .any⟩,
  ⟨(some 89), (some (87, true)), .mov (.t 7), .any⟩,
  ⟨(some 90), (some (87, true)), .idxS (.t 88) (.t 89), .any⟩,
  ⟨(some 91), (some (87, true)), .bin .neq (.t 90) (.c (.int .u8 10)), .any⟩,
  ⟨(some 92), none, .pick (.t 87) (.t 91) (.c (.bool false)), .any⟩]
@[reducible] def e61n55 : EC := .cond (.t 92) .skip (.exit 5)
@[reducible] def e61n56 : EC := .seq (.reg e61r54) e61n55
@[reducible] def e61r57 : List Ins := [
  ⟨(some 93), none, .mov (.t 7), .any⟩,
  ⟨(some 94), none, .bin .add (.t 93) (.c (.int .i64 1)), .any⟩,
  ⟨(some 7), none, .mov (.t 94), .any⟩]
@[reducible] def e61n58 : EC := .block 6 (.reg e61r57)
@[reducible] def e61n59 : EC := .seq e61n56 e61n58
@[reducible] def e61n60 : EC := .loop e61n59
@[reducible] def e61n61 : EC := .block 5 e61n60
@[reducible] def e61r62 : List Ins := [
  ⟨(some 95), none, .mov (.t 7), .any⟩,
  ⟨(some 4), none, .mov (.t 95), .any⟩]
@[reducible] def e61n63 : EC := .seq (.reg e61r62) .ret
@[reducible] def e61n64 : EC := .seq e61n61 e61n63
@[reducible] def e61n65 : EC := .seq (.reg e61r53) e61n64
@[reducible] def e61r66 : List Ins := [
  ⟨(some 97), none, .mov (.t 0), .any⟩,
  ⟨(some 98), none, .mov (.t 1), .any⟩,
  ⟨(some 99), none, .call (.c (.fn 62 [])) [(.t 97), (.t 98), (.c (.str [47, 42]))], .any⟩,
  ⟨(some 96), none, .mov (.t 99), .any⟩]
@[reducible] def e61r67 : List Ins := [
  ⟨(some 100), none, .mov (.t 1), .any⟩,
  ⟨(some 101), none, .bin .add (.t 100) (.c (.int .i64 2)), .any⟩,
  ⟨(some 8), none, .mov (.t 101), .any⟩]
@[reducible] def e61r68 : List Ins := [
  ⟨(some 102), none, .mov (.t 8), .any⟩,
  ⟨(some 103), none, .mov (.t 0), .any⟩,
  ⟨(some 104), none, .lenS (.t 103), .any⟩,
  ⟨(some 105), none, .bin .lss (.t 102) (.t 104), .any⟩]
@[reducible] def e61n69 : EC := .cond (.t 105) .skip (.exit 7)
@[reducible] def e61n70 : EC := .seq (.reg e61r68) e61n69
@[reducible] def e61r71 : List Ins := [
  ⟨(some 108), none, .mov (.t 0), .any⟩,
  ⟨(some 109), none, .mov (.t 8), .any⟩,
  ⟨(some 110), none, .call (.c (.fn 62 [])) [(.t 108), (.t 109), (.c (.str [42, 47]))], .any⟩]
@[reducible] def e61r72 : List Ins := [
  ⟨(some 111), none, .mov (.t 8), .any⟩,
  ⟨(some 112), none, .bin .add (.t 111) (.c (.int .i64 2)), .any⟩,
  ⟨(some 4), none, .mov (.t 112), .any⟩]
@[reducible] def e61n73 : EC := .seq (.reg e61r72) .ret
@[reducible] def e61n74 : EC := .cond (.t 110) e61n73 .skip
@[reducible] def e61n75 : EC := .seq (.reg e61r71) e61n74
@[reducible] def e61n76 : EC := .block 8 e61n75
@[reducible] def e61r77 : List Ins := [
  ⟨(some 106), none, .mov (.t 8), .any⟩,
  ⟨(some 107), none, .bin .add (.t 106) (.c (.int .i64 1)), .any⟩,
  ⟨(some 8), none, .mov (.t 107), .any⟩]
@[reducible] def e61n78 : EC := .seq e61n76 (.reg e61r77)
@[reducible] def e61n79 : EC := .seq e61n70 e61n78
@[reducible] def e61n80 : EC := .loop e61n79
@[reducible] def e61n81 : EC := .block 7 e61n80
@[reducible] def e61n82 : EC := .seq (.reg e61r67) e61n81
@[reducible] def e61r83 : List Ins := [
  ⟨(some 4), none, .mov (.c (.int .i64 (-1))), .any⟩]
@[reducible] def e61n84 : EC := .seq (.reg e61r83) .ret
@[reducible] def e61n85 : EC := .seq e61n82 e61n84
@[reducible] def e61n86 : EC := .cond (.t 96) e61n85 .skip
@[reducible] def e61n87 : EC := .seq (.reg e61r66) e61n86
@[reducible] def e61n88 : EC := .cond (.t 78) e61n65 e61n87
@[reducible] def e61n89 : EC := .seq (.reg e61r52) e61n88
@[reducible] def e61n90 : EC := .cond (.t 59) e61n51 e61n89
@[reducible] def e61n91 : EC := .seq (.reg e61r32) e61n90
@[reducible] def e61n92 : EC := .cond (.t 9) e61n31 e61n91
@[reducible] def e61n93 : EC := .seq (.reg e61r1) e61n92
@[reducible] def e61n94 : EC := .block 0 e61n93
@[reducible] def e61r95 : List Ins := [
  ⟨(some 113), none, .mov (.t 1), .any⟩,
  ⟨(some 4), none, .mov (.t 113), .any⟩]
@[reducible] def e61n96 : EC := .seq (.reg e61r95) .ret
@[reducible] def e61n97 : EC := .seq e61n94 e61n96
@[reducible] def e61n98 : EC := .seq (.reg e61r0) e61n97
@[reducible] def e61 : EF := ⟨114, 2, [(.inl 4)], e61n98⟩
theorem e61_ok : compFn Try.prog {} Try.f61 = some e61 := by kernel_rfl
theorem e61_nm : (Try.f61.name == "runtime.NumGoroutine") = false := by kernel_rfl
/- yucca/yuccaref1.begins -/
@[reducible] def e62r0 : List Ins := [
  ⟨(some 6), none, .mov (.c (.bool false)), .any⟩]
@[reducible] def e62r1 : List Ins := [
  ⟨(some 7), none, .mov (.t 0), .any⟩,
  ⟨(some 8), none, .lenS (.t 7), .any⟩,
  ⟨(some 9), none, .mov (.t 1), .any⟩,
  ⟨(some 10), none, .bin .sub (.t 8) (.t 9), .any⟩,
  ⟨(some 11), none, .mov (.t 2), .any⟩,
  ⟨(some 12), none, .lenS (.t 11), .any⟩,
  ⟨(some 13), none, .bin .geq (.t 10) (.t 12), .any⟩,
  ⟨(some 14), none, .mov (.t 13), .any⟩,
  ⟨(some 15), (some (14, true)), .mov (.t 0), .any⟩,
  ⟨(some 16), (some (14, true)), .mov (.t 1), .any⟩,
  ⟨(some 17), (some (14, true)), .mov (.t 1), .any⟩,
  ⟨(some 18), (some (14, true)), .mov (.t 2), .any⟩,
  ⟨(some 19), (some (14, true)), .lenS (.t 18), .any⟩,
  ⟨(some 20), (some (14, true)), .bin .add (.t 17) (.t 19), .any⟩,
  ⟨(some 21), (some (14, true)), .slcS (.t 15) (some (.t 16)) (some (.t 20)), .any⟩,
  ⟨(some 22), (some (14, true)), .mov (.t 2), .any⟩,
  ⟨(some 23), (some (14, true)), .bin .eql (.t 21) (.t 22), .any⟩,
  ⟨(some 24), none, .pick (.t 14) (.t 23) (.c (.bool false)), .any⟩,
  ⟨(some 6), none, .mov (.t 24), .any⟩]
@[reducible] def e62n2 : EC := .seq (.reg e62r1) .ret
@[reducible] def e62n3 : EC := .seq (.reg e62r0) e62n2
@[reducible] def e62 : EF := ⟨25, 3, [(.inl 6)], e62n3⟩
theorem e62_ok : compFn Try.prog {} Try.f62 = some e62 := by kernel_rfl
theorem e62_nm : (Try.f62.name == "runtime.NumGoroutine") = false := by kernel_rfl
end Go.Proofs
