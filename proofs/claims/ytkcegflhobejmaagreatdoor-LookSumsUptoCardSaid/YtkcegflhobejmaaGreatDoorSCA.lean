/- Part of a proof that a law of the given program answers true. -/
import Derived.Test.YtkcegflhobejmaaGreatDoorXEC
import Derived.Test.YtkcegflhobejmaaGreatDoorProg
import Derived.KernelRfl
import Derived.Lib.TrailingZeros
namespace Go.Proofs
open Go.E
instance : Glob Tryz.prog where
 G := fun g => if g = 0 then .iptr 64 (.agg (Lib.deBruijn64tab.map fun (n : Nat) => V.int .u8 (n : Int))) 0 else .iptr 0 (.agg []) 0

set_option linter.unusedSimpArgs false
set_option linter.unusedVariables false
set_option maxRecDepth 100000
abbrev zz : List V := List.replicate 625 (.int .i64 0)
abbrev iA (d : Nat) (o : EOp) : Ins := ⟨some d, none, o, .any⟩
abbrev iN (d : Nat) (o : EOp) : Ins := ⟨some d, none, o, .n⟩
abbrev iR (d : Nat) (o : EOp) : Ins := ⟨some d, none, o, .r⟩
abbrev cI (n : Int) : Opd := .c (.int .i64 n)
abbrev cB (b : Bool) : Opd := .c (.bool b)
abbrev gT (d g : Nat) (o : EOp) : Ins := ⟨some d, some (g, true), o, .any⟩
abbrev gF (d g : Nat) (o : EOp) : Ins := ⟨some d, some (g, false), o, .any⟩
abbrev oM (s : Nat) : EOp := .mov (.t s)
abbrev oL (n s : Nat) : EOp := .load false n (.t s)
abbrev oG (n s : Nat) : EOp := .load true n (.t s)
abbrev oF (n s : Nat) : EOp := .faddr n (.t s)
abbrev mA (d s : Nat) : Ins := iA d (.mov (.t s))
abbrev mN (d s : Nat) : Ins := iN d (.mov (.t s))
abbrev lA (d n s : Nat) : Ins := iA d (.load false n (.t s))
abbrev lR (d n s : Nat) : Ins := iR d (.load false n (.t s))
abbrev lG (d n s : Nat) : Ins := iA d (.load true n (.t s))
abbrev fA (d n s : Nat) : Ins := iA d (.faddr n (.t s))
abbrev fN (d n s : Nat) : Ins := iN d (.faddr n (.t s))
abbrev nA (d s : Nat) : Ins := iA d (.nilck (.t s))
abbrev nN (d s : Nat) : Ins := iN d (.nilck (.t s))
abbrev zA (d s : Nat) : Ins := iA d (.len (.t s))
abbrev sA (n p x : Nat) : Ins := ⟨none, none, .store n (.t p) (.t x), .any⟩
abbrev sW (n p x : Nat) : Ins := ⟨none, none, .store n (.t p) (.t x), .w⟩
abbrev bA (d : Nat) (o : BinOp) (x y : Nat) : Ins := iA d (.bin o (.t x) (.t y))
abbrev bC (d : Nat) (o : BinOp) (x : Nat) (y : Int) : Ins := iA d (.bin o (.t x) (.c (.int .i64 y)))
abbrev aA (d z x y : Nat) : Ins := iA d (.iaddr z (.t x) (.t y))
abbrev aN (d z x y : Nat) : Ins := iN d (.iaddr z (.t x) (.t y))
abbrev pA (d x y : Nat) : Ins := iA d (.pick (.t x) (.t y) (.c (.bool false)))
abbrev pO (d x y : Nat) : Ins := iA d (.pick (.t x) (.c (.bool true)) (.t y))
abbrev cl (f : Nat) (l : List Opd) : EOp := .call (.c (.fn f [])) l
abbrev qr (l : List Ins) (b : EC) : EC := .seq (.reg l) b
abbrev cd (c : Nat) (a b : EC) : EC := .cond (.t c) a b
abbrev e6n3 := qr [iA 2 (.mov (cB false))] .ret
abbrev e6n4 := cd 15 e6n3 .skip
abbrev e6n5 := qr [iA 14 (cl 10 []), iA 15 (.un .not (.t 14))] e6n4
abbrev e6n13 := cd 31 .skip (.exit 0)
abbrev e6n14 := qr [mA 29 7, mA 30 0, bA 31 .lss 29 30] e6n13
abbrev e6n17 := qr [fN 34 1 5, lR 35 1 34, iR 36 (oG 6 3), mN 37 7, iN 38 (.bin .add (cI 65) (.t 37)), iN 39 (.conv .u8 (.t 38)), iR 40 (cl 33 [.t 39]), iR 41 (oG 6 4), iN 42 (.lit false 6 true (.agg [(.str []), (.bool false), (.int .i64 0), (.int .i64 0), (.str []), (.int .i64 0)]) 3 [(0, (.t 36)), (1, (.t 40)), (2, (.t 41))]), iN 43 (.build [(.sl 6 true []), (.str []), (.bool false), (.int .i64 0), (.int .i64 0), (.int .i64 0)] [(0, 1, (.t 42))]), iN 44 (.lit false 6 true (.agg [(.sl 6 true []), (.str []), (.bool false), (.int .i64 0), (.int .i64 0), (.int .i64 0)]) 1 [(0, (.t 43))]), ⟨(some 45), none, .append false 6 72 (.t 35) (.t 44), .t⟩, fN 46 1 5, sW 1 46 45] (.reg [mA 47 6, mA 48 7, iA 49 (.bin .add (cI 3) (.t 48)), iA 50 (.lit false 1 false (.int .i64 0) 1 [(0, (.t 49))]), iA 51 (.append false 1 8 (.t 47) (.t 50)), mA 6 51])
abbrev e6n18 : EC := .block 1 e6n17
abbrev e6n20 : EC := .seq e6n18 (.reg [mA 32 7, bC 33 .add 32 1, mA 7 33])
abbrev e6n21 : EC := .seq e6n14 e6n20
abbrev e6n22 : EC := .loop e6n21
abbrev e6n23 : EC := .block 0 e6n22
abbrev e6n24 := qr [iA 7 (.mov (cI 0))] e6n23
abbrev e6n31 := qr [iA 2 (.mov (cB false))] .ret
abbrev e6n32 := cd 88 e6n31 .skip
abbrev e6n33 := qr [mA 80 11, iA 81 (.un .not (.t 80)), mA 82 81, gF 83 82 (oM 12), gF 84 82 (.len (.t 83)), gF 85 82 (oM 0), gF 86 82 (.bin .add (.t 85) (cI 3)), gF 87 82 (.bin .neq (.t 84) (.t 86)), pO 88 82 87] e6n32
abbrev e6n36 := cd 92 .skip (.exit 2)
abbrev e6n37 := qr [mA 89 13, mA 90 12, zA 91 90, bA 92 .lss 89 91] e6n36
abbrev e6n40 := qr [iA 2 (.mov (cB false))] .ret
abbrev e6n41 := cd 102 e6n40 .skip
abbrev e6n42 := qr [mA 95 12, mA 96 13, aA 97 3 95 96, fA 98 2 97, lA 99 1 98, mA 100 6, iA 101 (cl 25 [(.t 99), (.t 100)]), iA 102 (.un .not (.t 101))] e6n41
abbrev e6n43 : EC := .block 3 e6n42
abbrev e6n45 : EC := .seq e6n43 (.reg [mA 93 13, bC 94 .add 93 1, mA 13 94])
abbrev e6n46 : EC := .seq e6n37 e6n45
abbrev e6n47 : EC := .loop e6n46
abbrev e6n48 : EC := .block 2 e6n47
abbrev e6n49 := qr [iA 13 (.mov (cI 0))] e6n48
abbrev e6n51 := qr [iA 2 (.mov (cB true))] .ret
abbrev e6n52 : EC := .seq e6n49 e6n51
abbrev e6n53 : EC := .seq e6n33 e6n52
abbrev e6n54 := qr [lG 77 5 9, mA 78 10, iA 79 (cl 31 [(.t 77), (.t 78)]), mA 12 79] e6n53
abbrev e6n55 := qr [mA 71 6, mA 72 0, iA 73 (.bin .add (cI 3) (.t 72)), bC 74 .add 73 1, iA 75 (.lit false 1 false (.int .i64 0) 1 [(0, (.t 74))]), iA 76 (.append false 1 8 (.t 71) (.t 75)), mA 6 76] e6n54
abbrev e6n56 := qr [lG 63 3 5, lG 64 3 8, iA 65 (.lit false 3 true (.agg [(.str []), (.sl 6 true []), (.int .i64 0)]) 2 [(0, (.t 63)), (1, (.t 64))]), iA 66 (.build [(.str []), (.sl 4 true []), (.sl 3 true []), (.str [])] [(2, 1, (.t 65))]), iA 67 (cl 13 [.t 66]), mA 62 67, iA 68 (.ext (.t 62) 0), iA 69 (.ext (.t 62) 1), iA 70 (.ext (.t 62) 2), iA 9 (.alloc 5 (.agg [(.sl 6 true []), (.sl 2 true []), (.sl 6 true []), (.str []), (.str [])])), sA 5 9 68, mA 10 69, mA 11 70] e6n55
abbrev e6n57 := qr [iR 52 (cl 33 [(.c (.int .u8 40))]), iR 53 (oG 6 3), iR 54 (cl 33 [(.c (.int .u8 41))]), iN 55 (.lit false 6 true (.agg [(.str []), (.bool false), (.int .i64 0), (.int .i64 0), (.str []), (.int .i64 0)]) 3 [(0, (.t 52)), (1, (.t 53)), (2, (.t 54))]), iN 56 (.build [(.sl 6 true []), (.str []), (.bool false), (.int .i64 0), (.int .i64 0), (.int .i64 0)] [(0, 1, (.t 55))]), iR 57 (cl 33 [(.c (.int .u8 120))]), iN 58 (.lit false 6 true (.agg [(.str []), (.bool false), (.int .i64 0), (.int .i64 0), (.str []), (.int .i64 0)]) 1 [(0, (.t 57))]), iN 59 (.build [(.sl 6 true []), (.str []), (.bool false), (.int .i64 0), (.int .i64 0), (.int .i64 0)] [(0, 1, (.t 58))]), iN 60 (.lit false 6 true (.agg [(.sl 6 true []), (.str []), (.bool false), (.int .i64 0), (.int .i64 0), (.int .i64 0)]) 2 [(0, (.t 56)), (1, (.t 59))]), iN 61 (.build [(.str []), (.sl 6 true []), (.int .i64 0)] [(0, 1, (.c (.str [102]))), (1, 1, (.t 60))]), ⟨(some 8), none, .alloc 3 (.agg [(.str []), (.sl 6 true []), (.int .i64 0)]), .a⟩, sW 3 8 61] e6n56
abbrev e6n58 : EC := .seq e6n24 e6n57
abbrev e6n59 := qr [iA 28 (.lit false 1 false (.int .i64 0) 1 [(0, (cI 0))]), mA 6 28] e6n58
abbrev e6n60 := qr [lG 23 6 4, iA 24 (.lit false 6 true (.agg [(.str []), (.bool false), (.int .i64 0), (.int .i64 0), (.str []), (.int .i64 0)]) 1 [(0, (.t 23))]), iA 25 (.build [(.sl 6 true []), (.str []), (.bool false), (.int .i64 0), (.int .i64 0), (.int .i64 0)] [(0, 1, (.t 24))]), iA 26 (.lit false 6 true (.agg [(.sl 6 true []), (.str []), (.bool false), (.int .i64 0), (.int .i64 0), (.int .i64 0)]) 1 [(0, (.t 25))]), iA 27 (.build [(.str []), (.sl 6 true []), (.int .i64 0)] [(0, 1, (.c (.str [101]))), (1, 1, (.t 26))]), iA 5 (.alloc 3 (.agg [(.str []), (.sl 6 true []), (.int .i64 0)])), sA 3 5 27] e6n59
abbrev e6n61 := qr [iA 21 (.build [(.str []), (.bool false), (.int .i64 0), (.int .i64 0)] [(0, 1, (.c (.str [102])))]), iA 22 (.build [(.str []), (.bool false), (.int .i64 0), (.int .i64 0), (.str []), (.int .i64 0)] [(0, 4, (.t 21))]), iA 4 (.alloc 6 (.agg [(.str []), (.bool false), (.int .i64 0), (.int .i64 0), (.str []), (.int .i64 0)])), sA 6 4 22] e6n60
abbrev e6n62 := qr [iA 19 (.build [(.str []), (.bool false), (.int .i64 0), (.int .i64 0)] [(0, 1, (.c (.str [101])))]), iA 20 (.build [(.str []), (.bool false), (.int .i64 0), (.int .i64 0), (.str []), (.int .i64 0)] [(0, 4, (.t 19))]), iA 3 (.alloc 6 (.agg [(.str []), (.bool false), (.int .i64 0), (.int .i64 0), (.str []), (.int .i64 0)])), sA 6 3 20] e6n61
abbrev e6n63 := qr [mA 16 0, iA 17 (cl 24 [(.t 16), (cI 10)]), iA 18 (.bin .add (cI 1) (.t 17)), mA 0 18] e6n62
abbrev e6n64 : EC := .seq e6n5 e6n63
abbrev e6n65 := qr [iA 2 (.mov (cB false))] e6n64
abbrev e6 : EF := ⟨103, 1, [(.inl 2)], e6n65⟩
theorem e6_ok : compFn Tryz.prog {} Tryz.f6 = some e6 := by kernel_rfl
theorem e6_nm : (Tryz.f6.name == "runtime.NumGoroutine") = false := by kernel_rfl
abbrev e10n6 := qr [mN 37 6, mN 38 37, ⟨(some 39), (some (38, true)), .mov (.t 7), .n⟩, ⟨(some 40), (some (38, true)), .len (.t 39), .n⟩, ⟨(some 41), (some (38, true)), .bin .eql (.t 40) (cI 1), .n⟩, iN 42 (.pick (.t 38) (.t 41) (cB false)), mN 43 42, ⟨(some 44), (some (43, true)), .mov (.t 7), .n⟩, ⟨(some 45), (some (43, true)), .iaddr 2 (.t 44) (cI 0), .n⟩, ⟨(some 46), (some (43, true)), .faddr 0 (.t 45), .n⟩, ⟨(some 47), (some (43, true)), .load false 1 (.t 46), .r⟩, ⟨(some 48), (some (43, true)), .bin .eql (.t 47) (cI 0), .n⟩, iN 49 (.pick (.t 43) (.t 48) (cB false)), mN 50 49, ⟨(some 51), (some (50, true)), .mov (.t 7), .n⟩, ⟨(some 52), (some (50, true)), .iaddr 2 (.t 51) (cI 0), .n⟩, ⟨(some 53), (some (50, true)), .faddr 1 (.t 52), .n⟩, ⟨(some 54), (some (50, true)), .load false 1 (.t 53), .r⟩, ⟨(some 55), (some (50, true)), .bin .eql (.t 54) (cI 1001), .n⟩, iN 56 (.pick (.t 50) (.t 55) (cB false)), mN 57 56, ⟨(some 58), (some (57, true)), .load true 5 (.t 4), .r⟩, ⟨(some 59), (some (57, true)), .mov (.t 5), .n⟩, ⟨(some 60), (some (57, true)), .call (.c (.fn 18 [])) [(.t 58), (.t 59)], .r⟩, ⟨(some 61), (some (57, true)), .lit false 1 false (.int .i64 0) 2 [(0, (cI 0)), (1, (cI 3))], .n⟩, ⟨(some 62), (some (57, true)), .lit false 1 false (.sl 1 true []) 1 [(0, (.t 61))], .n⟩, ⟨(some 63), (some (57, true)), .call (.c (.fn 17 [])) [(.t 60), (.t 62)], .r⟩, iN 64 (.pick (.t 57) (.t 63) (cB false)), mN 65 64, ⟨(some 66), (some (65, true)), .load true 5 (.t 4), .r⟩, ⟨(some 67), (some (65, true)), .mov (.t 5), .n⟩, ⟨(some 68), (some (65, true)), .call (.c (.fn 28 [])) [(.t 66), (.t 67)], .r⟩, ⟨(some 69), (some (65, true)), .lit false 1 false (.int .i64 0) 2 [(0, (cI 0)), (1, (cI 3))], .n⟩, ⟨(some 70), (some (65, true)), .lit false 1 false (.sl 1 true []) 1 [(0, (.t 69))], .n⟩, ⟨(some 71), (some (65, true)), .call (.c (.fn 17 [])) [(.t 68), (.t 70)], .r⟩, iN 72 (.pick (.t 65) (.t 71) (cB false)), mN 73 72, ⟨(some 74), (some (73, true)), .mov (.t 8), .n⟩, ⟨(some 75), (some (73, true)), .len (.t 74), .n⟩, ⟨(some 76), (some (73, true)), .bin .eql (.t 75) (cI 2), .n⟩, iN 77 (.pick (.t 73) (.t 76) (cB false)), mN 78 77, ⟨(some 79), (some (78, true)), .mov (.t 8), .n⟩, ⟨(some 80), (some (78, true)), .iaddr 3 (.t 79) (cI 0), .n⟩, ⟨(some 81), (some (78, true)), .faddr 2 (.t 80), .n⟩, ⟨(some 82), (some (78, true)), .load false 1 (.t 81), .r⟩, ⟨(some 83), (some (78, true)), .lit false 1 false (.int .i64 0) 2 [(0, (cI 0)), (1, (cI 3))], .n⟩, ⟨(some 84), (some (78, true)), .call (.c (.fn 25 [])) [(.t 82), (.t 83)], .r⟩, iN 85 (.pick (.t 78) (.t 84) (cB false)), mN 86 85, ⟨(some 87), (some (86, true)), .load true 5 (.t 4), .r⟩, ⟨(some 88), (some (86, true)), .mov (.t 5), .n⟩, ⟨(some 89), (some (86, true)), .mov (.t 8), .n⟩, ⟨(some 90), (some (86, true)), .iaddr 3 (.t 89) (cI 0), .n⟩, ⟨(some 91), (some (86, true)), .faddr 0 (.t 90), .n⟩, ⟨(some 92), (some (86, true)), .load false 1 (.t 91), .r⟩, ⟨(some 93), (some (86, true)), .mov (.t 8), .n⟩, ⟨(some 94), (some (86, true)), .iaddr 3 (.t 93) (cI 0), .n⟩, ⟨(some 95), (some (86, true)), .faddr 1 (.t 94), .n⟩, ⟨(some 96), (some (86, true)), .load false 1 (.t 95), .r⟩, ⟨(some 97), (some (86, true)), .call (.c (.fn 26 [])) [(.t 87), (.t 88), (.t 92), (.t 96)], .r⟩, ⟨(some 98), (some (86, true)), .lit false 1 false (.int .i64 0) 1 [(0, (cI 0))], .n⟩, ⟨(some 99), (some (86, true)), .call (.c (.fn 25 [])) [(.t 97), (.t 98)], .r⟩, iN 100 (.pick (.t 86) (.t 99) (cB false)), mN 101 100, ⟨(some 102), (some (101, true)), .load true 5 (.t 4), .r⟩, ⟨(some 103), (some (101, true)), .mov (.t 5), .n⟩, ⟨(some 104), (some (101, true)), .call (.c (.fn 26 [])) [(.t 102), (.t 103), (cI 0), (cI 77)], .r⟩, ⟨(some 105), (some (101, true)), .len (.t 104), .n⟩, ⟨(some 106), (some (101, true)), .bin .eql (.t 105) (cI 0), .n⟩, iN 107 (.pick (.t 101) (.t 106) (cB false)), mN 108 107, ⟨(some 109), (some (108, true)), .load true 5 (.t 4), .r⟩, ⟨(some 110), (some (108, true)), .mov (.t 5), .n⟩, ⟨(some 111), (some (108, true)), .call (.c (.fn 20 [])) [(.t 109), (.t 110)], .r⟩, ⟨(some 112), (some (108, true)), .len (.t 111), .n⟩, ⟨(some 113), (some (108, true)), .bin .eql (.t 112) (cI 1), .n⟩, iN 114 (.pick (.t 108) (.t 113) (cB false)), mN 115 114, ⟨(some 116), (some (115, true)), .load true 5 (.t 4), .r⟩, ⟨(some 117), (some (115, true)), .mov (.t 5), .n⟩, ⟨(some 118), (some (115, true)), .call (.c (.fn 22 [])) [(.t 116), (.t 117)], .r⟩, ⟨(some 119), (some (115, true)), .len (.t 118), .n⟩, ⟨(some 120), (some (115, true)), .bin .eql (.t 119) (cI 1), .n⟩, iN 121 (.pick (.t 115) (.t 120) (cB false)), mN 0 121] .ret
abbrev e10n7 := qr [lG 34 5 4, mA 35 5, iA 36 (cl 31 [(.t 34), (.t 35)]), mA 8 36] e10n6
abbrev e10n8 := qr [mA 32 5, iA 33 (cl 15 [.t 32]), mA 7 33] e10n7
abbrev e10n9 := qr [lG 16 6 1, lG 17 6 3, lG 18 6 2, iA 19 (.lit false 6 true (.agg [(.str []), (.bool false), (.int .i64 0), (.int .i64 0), (.str []), (.int .i64 0)]) 3 [(0, (.t 16)), (1, (.t 17)), (2, (.t 18))]), iA 20 (.build [(.sl 6 true []), (.str []), (.bool false), (.int .i64 0), (.int .i64 0), (.int .i64 0)] [(0, 1, (.t 19))]), lG 21 6 2, iA 22 (.lit false 6 true (.agg [(.str []), (.bool false), (.int .i64 0), (.int .i64 0), (.str []), (.int .i64 0)]) 1 [(0, (.t 21))]), iA 23 (.build [(.sl 6 true []), (.str []), (.bool false), (.int .i64 0), (.int .i64 0), (.int .i64 0)] [(0, 1, (.t 22))]), iA 24 (.lit false 6 true (.agg [(.sl 6 true []), (.str []), (.bool false), (.int .i64 0), (.int .i64 0), (.int .i64 0)]) 2 [(0, (.t 20)), (1, (.t 23))]), iA 25 (.build [(.str []), (.sl 6 true []), (.int .i64 0)] [(0, 1, (.c (.str [101]))), (1, 1, (.t 24))]), iA 26 (.lit false 3 true (.agg [(.str []), (.sl 6 true []), (.int .i64 0)]) 1 [(0, (.t 25))]), iA 27 (.build [(.str []), (.sl 4 true []), (.sl 3 true []), (.str [])] [(2, 1, (.t 26))]), iA 28 (cl 13 [.t 27]), mA 15 28, iA 29 (.ext (.t 15) 0), iA 30 (.ext (.t 15) 1), iA 31 (.ext (.t 15) 2), iA 4 (.alloc 5 (.agg [(.sl 6 true []), (.sl 2 true []), (.sl 6 true []), (.str []), (.str [])])), sA 5 4 29, mA 5 30, mA 6 31] e10n8
abbrev e10n10 := qr [iA 9 (.build [(.str []), (.bool false), (.int .i64 0), (.int .i64 0)] [(0, 1, (.c (.str [101])))]), iA 10 (.build [(.str []), (.bool false), (.int .i64 0), (.int .i64 0), (.str []), (.int .i64 0)] [(0, 4, (.t 9))]), iA 11 (.build [(.str []), (.bool false), (.int .i64 0), (.int .i64 0)] [(0, 1, (.c (.str [120]))), (1, 1, (cB true))]), iA 12 (.build [(.str []), (.bool false), (.int .i64 0), (.int .i64 0), (.str []), (.int .i64 0)] [(0, 4, (.t 11))]), iA 13 (.build [(.str []), (.bool false), (.int .i64 0), (.int .i64 0)] [(0, 1, (.c (.str [43]))), (1, 1, (cB true))]), iA 14 (.build [(.str []), (.bool false), (.int .i64 0), (.int .i64 0), (.str []), (.int .i64 0)] [(0, 4, (.t 13))]), iA 1 (.alloc 6 (.agg [(.str []), (.bool false), (.int .i64 0), (.int .i64 0), (.str []), (.int .i64 0)])), iA 2 (.alloc 6 (.agg [(.str []), (.bool false), (.int .i64 0), (.int .i64 0), (.str []), (.int .i64 0)])), iA 3 (.alloc 6 (.agg [(.str []), (.bool false), (.int .i64 0), (.int .i64 0), (.str []), (.int .i64 0)])), sA 6 1 10, sA 6 2 12, sA 6 3 14] e10n9
abbrev e10n11 := qr [iA 0 (.mov (cB false))] e10n10
abbrev e10 : EF := ⟨122, 0, [(.inl 0)], e10n11⟩
theorem e10_ok : compFn Tryz.prog {} Tryz.f10 = some e10 := by kernel_rfl
theorem e10_nm : (Tryz.f10.name == "runtime.NumGoroutine") = false := by kernel_rfl
abbrev e13n4 := qr [lG 16 5 5, sA 5 2 16, iA 3 (.mov (.c (.sl 2 true []))), iA 4 (.mov (cB false))] .ret
abbrev e13n5 := cd 15 e13n4 .skip
abbrev e13n6 := qr [mA 14 6, iA 15 (.un .not (.t 14))] e13n5
abbrev e13n9 := qr [lG 22 5 5, mA 23 7, mA 24 8, bC 25 .eql 24 0, sA 5 2 22, mA 3 23, mA 4 25] .ret
abbrev e13n10 := qr [lG 18 5 5, iA 19 (cl 50 [.t 18]), mA 17 19, iA 20 (.ext (.t 17) 0), iA 21 (.ext (.t 17) 1), mA 7 20, mA 8 21] e13n9
abbrev e13n11 : EC := .seq e13n6 e13n10
abbrev e13n12 := qr [lG 10 4 1, iA 11 (cl 34 [.t 10]), mA 9 11, iA 12 (.ext (.t 9) 0), iA 13 (.ext (.t 9) 1), iA 5 (.alloc 5 (.agg [(.sl 6 true []), (.sl 2 true []), (.sl 6 true []), (.str []), (.str [])])), sA 5 5 12, mA 6 13] e13n11
abbrev e13n13 := qr [iA 1 (.box 4 (.t 0)), iA 2 (.alloc 5 (.agg [(.sl 6 true []), (.sl 2 true []), (.sl 6 true []), (.str []), (.str [])])), iA 3 (.mov (.c (.sl 2 true []))), iA 4 (.mov (cB false))] e13n12
abbrev e13 : EF := ⟨26, 1, [(.inr (2, true, 5)), (.inl 3), (.inl 4)], e13n13⟩
theorem e13_ok : compFn Tryz.prog {} Tryz.f13 = some e13 := by kernel_rfl
theorem e13_nm : (Tryz.f13.name == "runtime.NumGoroutine") = false := by kernel_rfl
abbrev e15n4 := cd 11 .skip (.exit 0)
abbrev e15n8 := cd 19 .skip (.exit 2)
abbrev e15n12 := cd 24 (.reg [mA 25 3, mA 26 4, fA 27 0 7, lA 28 1 27, iA 29 (.build [(.int .i64 0), (.int .i64 0)] [(0, 1, (.t 26)), (1, 1, (.t 28))]), iA 30 (.lit false 2 true (.agg [(.int .i64 0), (.int .i64 0)]) 1 [(0, (.t 29))]), iA 31 (.append false 2 16 (.t 25) (.t 30)), mA 3 31]) .skip
abbrev e15n13 := qr [fA 22 0 7, lA 23 1 22, bC 24 .geq 23 1000] e15n12
abbrev e15n14 := qr [aA 20 2 16 18, lG 21 2 20, iA 7 (.alloc 2 (.agg [(.int .i64 0), (.int .i64 0)])), sA 2 7 21] e15n13
abbrev e15n15 : EC := .block 3 e15n14
abbrev e15n17 : EC := .seq e15n15 (.reg [bC 32 .add 18 1, mA 18 32])
abbrev e15n18 : EC := .seq e15n8 e15n17
abbrev e15n19 := qr [bA 19 .lss 18 17] e15n18
abbrev e15n20 : EC := .loop e15n19
abbrev e15n21 : EC := .block 2 e15n20
abbrev e15n22 := qr [fA 15 1 5, lA 16 1 15, zA 17 16, iA 18 (.mov (cI 0))] e15n21
abbrev e15n23 := qr [mA 12 10, aA 13 2 8 10, lG 14 2 13, iA 5 (.alloc 2 (.agg [(.sl 2 true []), (.sl 2 true [])])), mA 4 12, sA 2 5 14] e15n22
abbrev e15n24 : EC := .block 1 e15n23
abbrev e15n26 : EC := .seq e15n24 (.reg [bC 33 .add 10 1, mA 10 33])
abbrev e15n27 : EC := .seq e15n4 e15n26
abbrev e15n28 := qr [bA 11 .lss 10 9] e15n27
abbrev e15n29 : EC := .loop e15n28
abbrev e15n30 : EC := .block 0 e15n29
abbrev e15n31 := qr [mA 8 0, zA 9 8, iA 10 (.mov (cI 0))] e15n30
abbrev e15n33 := qr [mA 34 3, mA 2 34] .ret
abbrev e15n34 : EC := .seq e15n31 e15n33
abbrev e15n35 := qr [iA 3 (.mov (.c (.sl 2 true [])))] e15n34
abbrev e15n36 := qr [iA 2 (.mov (.c (.sl 2 true [])))] e15n35
abbrev e15 : EF := ⟨35, 1, [(.inl 2)], e15n36⟩
theorem e15_ok : compFn Tryz.prog {} Tryz.f15 = some e15 := by kernel_rfl
theorem e15_nm : (Tryz.f15.name == "runtime.NumGoroutine") = false := by kernel_rfl
abbrev e17n3 := qr [iA 4 (.mov (cB false))] .ret
abbrev e17n4 := cd 10 e17n3 .skip
abbrev e17n5 := qr [mA 6 0, zA 7 6, mA 8 1, zA 9 8, bA 10 .neq 7 9] e17n4
abbrev e17n8 := cd 14 .skip (.exit 0)
abbrev e17n9 := qr [mA 11 5, mA 12 0, zA 13 12, bA 14 .lss 11 13] e17n8
abbrev e17n12 := qr [iA 4 (.mov (cB false))] .ret
abbrev e17n13 := cd 26 e17n12 .skip
abbrev e17n14 := qr [mN 17 0, mN 18 5, aN 19 1 17 18, lR 20 1 19, mN 21 1, mN 22 5, aN 23 1 21 22, lR 24 1 23, iR 25 (cl 25 [(.t 20), (.t 24)]), iN 26 (.un .not (.t 25))] e17n13
abbrev e17n15 : EC := .block 1 e17n14
abbrev e17n17 : EC := .seq e17n15 (.reg [mA 15 5, bC 16 .add 15 1, mA 5 16])
abbrev e17n18 : EC := .seq e17n9 e17n17
abbrev e17n19 : EC := .loop e17n18
abbrev e17n20 : EC := .block 0 e17n19
abbrev e17n21 := qr [iA 5 (.mov (cI 0))] e17n20
abbrev e17n23 := qr [iA 4 (.mov (cB true))] .ret
abbrev e17n24 : EC := .seq e17n21 e17n23
abbrev e17n25 : EC := .seq e17n5 e17n24
abbrev e17n26 := qr [iA 4 (.mov (cB false))] e17n25
abbrev e17 : EF := ⟨27, 2, [(.inl 4)], e17n26⟩
theorem e17_ok : compFn Tryz.prog {} Tryz.f17 = some e17 := by kernel_rfl
theorem e17_nm : (Tryz.f17.name == "runtime.NumGoroutine") = false := by kernel_rfl
abbrev e18n3 := qr [mA 9 5, mA 10 5, iA 11 (.mkmfn 53 (.t 10)), iA 12 (cl 52 [(.t 9), (.t 11)]), mA 4 12] .ret
abbrev e18n4 := qr [lG 6 5 2, mA 7 1, iA 8 (cl 51 [(.t 6), (.t 7)]), mA 5 8] e18n3
abbrev e18n5 := qr [iA 2 (.box 5 (.t 0)), iA 4 (.mov (.c (.sl 1 true [])))] e18n4
abbrev e18 : EF := ⟨13, 2, [(.inl 4)], e18n5⟩
theorem e18_ok : compFn Tryz.prog {} Tryz.f18 = some e18 := by kernel_rfl
theorem e18_nm : (Tryz.f18.name == "runtime.NumGoroutine") = false := by kernel_rfl
abbrev e20n3 := qr [mA 9 5, mA 10 5, iA 11 (.mkmfn 56 (.t 10)), iA 12 (cl 52 [(.t 9), (.t 11)]), mA 4 12] .ret
abbrev e20n4 := qr [lG 6 5 2, mA 7 1, iA 8 (cl 51 [(.t 6), (.t 7)]), mA 5 8] e20n3
abbrev e20n5 := qr [iA 2 (.box 5 (.t 0)), iA 4 (.mov (.c (.sl 1 true [])))] e20n4
abbrev e20 : EF := ⟨13, 2, [(.inl 4)], e20n5⟩
theorem e20_ok : compFn Tryz.prog {} Tryz.f20 = some e20 := by kernel_rfl
theorem e20_nm : (Tryz.f20.name == "runtime.NumGoroutine") = false := by kernel_rfl
abbrev e22n2 := qr [lG 5 5 2, mA 6 1, iA 7 (cl 51 [(.t 5), (.t 6)]), iA 8 (cl 59 [.t 7]), mA 4 8] .ret
abbrev e22n3 := qr [iA 2 (.box 5 (.t 0)), iA 4 (.mov (.c (.sl 1 true [])))] e22n2
abbrev e22 : EF := ⟨9, 2, [(.inl 4)], e22n3⟩
theorem e22_ok : compFn Tryz.prog {} Tryz.f22 = some e22 := by kernel_rfl
theorem e22_nm : (Tryz.f22.name == "runtime.NumGoroutine") = false := by kernel_rfl
abbrev e24n4 := cd 10 (.reg [mA 11 5, mA 12 1, bA 13 .add 11 12, mA 5 13]) .skip
abbrev e24n5 := qr [mA 9 5, bC 10 .lss 9 0] e24n4
abbrev e24n7 := qr [mA 14 5, mA 4 14] .ret
abbrev e24n8 : EC := .seq e24n5 e24n7
abbrev e24n9 := qr [mA 6 0, mA 7 1, bA 8 .rem 6 7, mA 5 8] e24n8
abbrev e24n10 := qr [iA 4 (.mov (cI 0))] e24n9
abbrev e24 : EF := ⟨15, 2, [(.inl 4)], e24n10⟩
theorem e24_ok : compFn Tryz.prog {} Tryz.f24 = some e24 := by kernel_rfl
theorem e24_nm : (Tryz.f24.name == "runtime.NumGoroutine") = false := by kernel_rfl
abbrev e25n3 := qr [iA 4 (.mov (cB false))] .ret
abbrev e25n4 := cd 10 e25n3 .skip
abbrev e25n5 := qr [mA 6 0, zA 7 6, mA 8 1, zA 9 8, bA 10 .neq 7 9] e25n4
abbrev e25n8 := cd 14 .skip (.exit 0)
abbrev e25n9 := qr [mA 11 5, mA 12 0, zA 13 12, bA 14 .lss 11 13] e25n8
abbrev e25n12 := qr [iA 4 (.mov (cB false))] .ret
abbrev e25n13 := cd 25 e25n12 .skip
abbrev e25n14 := qr [mN 17 0, mN 18 5, aN 19 1 17 18, lR 20 1 19, mN 21 1, mN 22 5, aN 23 1 21 22, lR 24 1 23, iN 25 (.bin .neq (.t 20) (.t 24))] e25n13
abbrev e25n15 : EC := .block 1 e25n14
abbrev e25n17 : EC := .seq e25n15 (.reg [mA 15 5, bC 16 .add 15 1, mA 5 16])
abbrev e25n18 : EC := .seq e25n9 e25n17
abbrev e25n19 : EC := .loop e25n18
abbrev e25n20 : EC := .block 0 e25n19
abbrev e25n21 := qr [iA 5 (.mov (cI 0))] e25n20
abbrev e25n23 := qr [iA 4 (.mov (cB true))] .ret
abbrev e25n24 : EC := .seq e25n21 e25n23
abbrev e25n25 : EC := .seq e25n5 e25n24
abbrev e25n26 := qr [iA 4 (.mov (cB false))] e25n25
abbrev e25 : EF := ⟨26, 2, [(.inl 4)], e25n26⟩
theorem e25_ok : compFn Tryz.prog {} Tryz.f25 = some e25 := by kernel_rfl
theorem e25_nm : (Tryz.f25.name == "runtime.NumGoroutine") = false := by kernel_rfl
abbrev e26n2 := qr [lG 9 5 4, mA 10 1, iA 11 (cl 51 [(.t 9), (.t 10)]), mA 12 2, mA 13 3, iA 14 (cl 62 [(.t 11), (.t 12), (.t 13)]), mA 8 14] .ret
abbrev e26n3 := qr [iA 4 (.box 5 (.t 0)), iA 8 (.mov (.c (.sl 1 true [])))] e26n2
abbrev e26 : EF := ⟨15, 4, [(.inl 8)], e26n3⟩
theorem e26_ok : compFn Tryz.prog { mu := fun t => [].contains t, cl := fun r i => ([(1, 5, Cls.b)].find? fun x => x.1 == r && x.2.1 == i).map (·.2.2) } Tryz.f26 = some e26 := by kernel_rfl
theorem e26_nm : (Tryz.f26.name == "runtime.NumGoroutine") = false := by kernel_rfl
abbrev e28n2 := qr [lG 5 5 2, mA 6 1, iA 7 (cl 51 [(.t 5), (.t 6)]), iA 8 (cl 63 [.t 7]), mA 4 8] .ret
abbrev e28n3 := qr [iA 2 (.box 5 (.t 0)), iA 4 (.mov (.c (.sl 1 true [])))] e28n2
abbrev e28 : EF := ⟨9, 2, [(.inl 4)], e28n3⟩
theorem e28_ok : compFn Tryz.prog {} Tryz.f28 = some e28 := by kernel_rfl
theorem e28_nm : (Tryz.f28.name == "runtime.NumGoroutine") = false := by kernel_rfl
abbrev e31n6 := cd 23 .skip (.exit 0)
abbrev e31n10 := cd 32 .skip (.exit 2)
abbrev e31n15 := cd 41 .skip (.exit 4)
abbrev e31n18 := qr [aA 42 1 38 40, lA 43 1 42, mA 14 43] (.reg [iR 44 (oG 16 12), mN 45 6, mN 46 14, aN 47 1 45 46, lR 48 1 47, iR 49 (cl 67 [.t 48]), iR 50 (cl 66 [(.t 44), (.t 49)]), sW 16 12 50])
abbrev e31n19 : EC := .block 5 e31n18
abbrev e31n21 : EC := .seq e31n19 (.reg [bC 51 .add 40 1, mA 40 51])
abbrev e31n22 : EC := .seq e31n15 e31n21
abbrev e31n23 := qr [bA 41 .lss 40 39] e31n22
abbrev e31n24 : EC := .loop e31n23
abbrev e31n25 : EC := .block 4 e31n24
abbrev e31n26 := qr [mA 35 5, mA 36 8, mA 37 11, iA 38 (cl 62 [(.t 35), (.t 36), (.t 37)]), zA 39 38, iA 40 (.mov (cI 0))] e31n25
abbrev e31n28 : EC := .seq e31n26 (.reg [mA 52 7, mA 53 8, mA 54 11, lG 55 16 12, iA 56 (cl 68 [.t 55]), iA 57 (.build [(.int .i64 0), (.int .i64 0), (.sl 1 true [])] [(0, 1, (.t 53)), (1, 1, (.t 54)), (2, 1, (.t 56))]), iA 58 (.lit false 3 true (.agg [(.int .i64 0), (.int .i64 0), (.sl 1 true [])]) 1 [(0, (.t 57))]), iA 59 (.append false 3 40 (.t 52) (.t 58)), mA 7 59])
abbrev e31n29 := qr [iA 12 (.alloc 16 (.agg [(.int .u64 0), (.int .u64 0), (.int .u64 0), (.int .u64 0), (.int .u64 0), (.int .u64 0), (.int .u64 0), (.int .u64 0), (.int .u64 0), (.int .u64 0), (.int .u64 0), (.int .u64 0), (.int .u64 0), (.int .u64 0), (.int .u64 0), (.int .u64 0)]))] e31n28
abbrev e31n30 := qr [aA 33 1 29 31, lA 34 1 33, mA 11 34] e31n29
abbrev e31n31 : EC := .block 3 e31n30
abbrev e31n33 : EC := .seq e31n31 (.reg [bC 60 .add 31 1, mA 31 60])
abbrev e31n34 : EC := .seq e31n10 e31n33
abbrev e31n35 := qr [bA 32 .lss 31 30] e31n34
abbrev e31n36 : EC := .loop e31n35
abbrev e31n37 : EC := .block 2 e31n36
abbrev e31n38 := qr [lG 27 5 2, lG 28 2 9, iA 29 (cl 65 [(.t 27), (.t 28)]), zA 30 29, iA 31 (.mov (cI 0))] e31n37
abbrev e31n39 := qr [mA 24 22, aA 25 2 20 22, lG 26 2 25, iA 9 (.alloc 2 (.agg [(.sl 2 true []), (.sl 2 true [])])), mA 8 24, sA 2 9 26] e31n38
abbrev e31n40 : EC := .block 1 e31n39
abbrev e31n42 : EC := .seq e31n40 (.reg [bC 61 .add 22 1, mA 22 61])
abbrev e31n43 : EC := .seq e31n6 e31n42
abbrev e31n44 := qr [bA 23 .lss 22 21] e31n43
abbrev e31n45 : EC := .loop e31n44
abbrev e31n46 : EC := .block 0 e31n45
abbrev e31n47 := qr [mA 20 1, zA 21 20, iA 22 (.mov (cI 0))] e31n46
abbrev e31n49 := qr [mA 62 7, mA 4 62] .ret
abbrev e31n50 : EC := .seq e31n47 e31n49
abbrev e31n51 := qr [iA 7 (.mov (.c (.sl 3 true [])))] e31n50
abbrev e31n52 := qr [mA 18 5, iA 19 (cl 63 [.t 18]), mA 6 19] e31n51
abbrev e31n53 := qr [lG 15 5 2, mA 16 1, iA 17 (cl 51 [(.t 15), (.t 16)]), mA 5 17] e31n52
abbrev e31n54 := qr [iA 2 (.box 5 (.t 0)), iA 4 (.mov (.c (.sl 3 true [])))] e31n53
abbrev e31 : EF := ⟨63, 2, [(.inl 4)], e31n54⟩
theorem e31_ok : compFn Tryz.prog { mu := fun t => [].contains t, cl := fun r i => ([(11, 3, Cls.b)].find? fun x => x.1 == r && x.2.1 == i).map (·.2.2) } Tryz.f31 = some e31 := by kernel_rfl
theorem e31_nm : (Tryz.f31.name == "runtime.NumGoroutine") = false := by kernel_rfl
abbrev e33n2 := qr [mA 3 0, iA 4 (.lit false 1 false (.int .u8 0) 1 [(0, (.t 3))]), iA 5 (.by2s (.t 4)), iA 6 (.build [(.str []), (.bool false), (.int .i64 0), (.int .i64 0)] [(0, 1, (.t 5)), (1, 1, (cB true))]), iA 7 (.build [(.str []), (.bool false), (.int .i64 0), (.int .i64 0), (.str []), (.int .i64 0)] [(0, 4, (.t 6))]), sA 6 2 7] .ret
abbrev e33n3 := qr [iA 2 (.alloc 6 (.agg [(.str []), (.bool false), (.int .i64 0), (.int .i64 0), (.str []), (.int .i64 0)]))] e33n2
abbrev e33 : EF := ⟨8, 1, [(.inr (2, true, 6))], e33n3⟩
theorem e33_ok : compFn Tryz.prog {} Tryz.f33 = some e33 := by kernel_rfl
theorem e33_nm : (Tryz.f33.name == "runtime.NumGoroutine") = false := by kernel_rfl
abbrev e34n3 := qr [lG 15 5 4, mA 16 5, bC 17 .eql 16 0, sA 5 2 15, mA 3 17] .ret
abbrev e34n4 := qr [lG 9 4 1, iA 10 (cl 70 [.t 9]), mA 8 10, iA 11 (.ext (.t 8) 0), iA 12 (.ext (.t 8) 1), iA 13 (.ext (.t 8) 2), iA 14 (.ext (.t 8) 3), iA 4 (.alloc 5 (.agg [(.sl 6 true []), (.sl 2 true []), (.sl 6 true []), (.str []), (.str [])])), sA 5 4 11, mA 5 12, mA 6 13, mA 7 14] e34n3
abbrev e34n5 := qr [iA 1 (.box 4 (.t 0)), iA 2 (.alloc 5 (.agg [(.sl 6 true []), (.sl 2 true []), (.sl 6 true []), (.str []), (.str [])])), iA 3 (.mov (cB false))] e34n4
abbrev e34 : EF := ⟨18, 1, [(.inr (2, true, 5)), (.inl 3)], e34n5⟩
theorem e34_ok : compFn Tryz.prog {} Tryz.f34 = some e34 := by kernel_rfl
theorem e34_nm : (Tryz.f34.name == "runtime.NumGoroutine") = false := by kernel_rfl
abbrev e36n3 := qr [iA 4 (.mov (.c (.sl 1 true [])))] .ret
abbrev e36n4 := cd 17 e36n3 .skip
abbrev e36n5 := qr [mA 15 0, zA 16 15, bC 17 .gtr 16 4000] e36n4
abbrev e36n10 := cd 32 .skip (.exit 0)
abbrev e36n14 := cd 39 .skip (.exit 2)
abbrev e36n18 := cd 45 (.reg [mN 46 6, mN 47 7, mN 48 6, mN 49 7, aN 50 16 48 49, iR 51 (oG 16 50), mN 52 1, mN 53 10, aN 54 1 52 53, lR 55 1 54, iR 56 (cl 67 [.t 55]), iR 57 (cl 66 [(.t 51), (.t 56)]), aN 58 16 46 47, sW 16 58 57]) .skip
abbrev e36n19 := qr [mA 42 10, mA 43 1, zA 44 43, bA 45 .lss 42 44] e36n18
abbrev e36n22 := cd 65 .skip (.exit 4)
abbrev e36n26 := cd 75 (.reg [mN 76 6, mN 77 7, mN 78 6, mN 79 7, aN 80 16 78 79, iR 81 (oG 16 80), mN 82 6, mN 83 5, nN 84 83, fN 85 4 84, lR 86 1 85, mN 87 12, aN 88 1 86 87, lR 89 1 88, aN 90 16 82 89, iR 91 (oG 16 90), iR 92 (cl 66 [(.t 81), (.t 91)]), aN 93 16 76 77, sW 16 93 92]) .skip
abbrev e36n27 := qr [mA 68 12, bC 69 .geq 68 0, mA 70 69, gT 71 70 (oM 12), gT 72 70 (oM 0), gT 73 70 (.len (.t 72)), gT 74 70 (.bin .lss (.t 71) (.t 73)), pA 75 70 74] e36n26
abbrev e36n28 := qr [aA 66 1 62 64, lA 67 1 66, mA 12 67] e36n27
abbrev e36n29 : EC := .block 5 e36n28
abbrev e36n31 : EC := .seq e36n29 (.reg [bC 94 .add 64 1, mA 64 94])
abbrev e36n32 : EC := .seq e36n22 e36n31
abbrev e36n33 := qr [bA 65 .lss 64 63] e36n32
abbrev e36n34 : EC := .loop e36n33
abbrev e36n35 : EC := .block 4 e36n34
abbrev e36n36 := qr [mA 59 0, mA 60 10, aA 61 1 59 60, lA 62 1 61, zA 63 62, iA 64 (.mov (cI 0))] e36n35
abbrev e36n37 : EC := .seq e36n19 e36n36
abbrev e36n38 := qr [aA 40 1 36 38, lA 41 1 40, mA 10 41] e36n37
abbrev e36n39 : EC := .block 3 e36n38
abbrev e36n41 : EC := .seq e36n39 (.reg [bC 95 .add 38 1, mA 38 95])
abbrev e36n42 : EC := .seq e36n14 e36n41
abbrev e36n43 := qr [bA 39 .lss 38 37] e36n42
abbrev e36n44 : EC := .loop e36n43
abbrev e36n45 : EC := .block 2 e36n44
abbrev e36n46 := qr [mA 36 8, zA 37 36, iA 38 (.mov (cI 0))] e36n45
abbrev e36n47 := qr [mA 33 31, aA 34 1 29 31, lA 35 1 34, mA 7 33, mA 8 35] e36n46
abbrev e36n48 : EC := .block 1 e36n47
abbrev e36n50 : EC := .seq e36n48 (.reg [bC 96 .add 31 1, mA 31 96])
abbrev e36n51 : EC := .seq e36n10 e36n50
abbrev e36n52 := qr [bA 32 .lss 31 30] e36n51
abbrev e36n53 : EC := .loop e36n52
abbrev e36n54 : EC := .block 0 e36n53
abbrev e36n55 := qr [mA 26 5, nA 27 26, fA 28 5 27, lA 29 1 28, zA 30 29, iA 31 (.mov (cI 0))] e36n54
abbrev e36n59 := cd 103 .skip (.exit 6)
abbrev e36n62 := qr [mA 104 102, mA 14 104] (.reg [mA 105 13, mA 106 14, mA 107 6, mA 108 5, nA 109 108, fA 110 4 109, lA 111 1 110, mA 112 14, aA 113 1 111 112, lA 114 1 113, aA 115 16 107 114, lG 116 16 115, iA 117 (cl 68 [.t 116]), aA 118 1 105 106, sA 1 118 117])
abbrev e36n63 : EC := .block 7 e36n62
abbrev e36n65 : EC := .seq e36n63 (.reg [bC 119 .add 102 1, mA 102 119])
abbrev e36n66 : EC := .seq e36n59 e36n65
abbrev e36n67 := qr [bA 103 .lss 102 101] e36n66
abbrev e36n68 : EC := .loop e36n67
abbrev e36n69 : EC := .block 6 e36n68
abbrev e36n70 := qr [mA 100 0, zA 101 100, iA 102 (.mov (cI 0))] e36n69
abbrev e36n72 := qr [mA 120 13, mA 4 120] .ret
abbrev e36n73 : EC := .seq e36n70 e36n72
abbrev e36n74 := qr [mA 97 0, zA 98 97, iA 99 (.mksl true 1 24 (.sl 1 true []) (.t 98) (.t 98)), mA 13 99] e36n73
abbrev e36n75 : EC := .seq e36n55 e36n74
abbrev e36n76 := qr [mA 20 5, nA 21 20, fA 22 5 21, lA 23 1 22, zA 24 23, iA 25 (.mksl true 16 128 (.agg [(.int .u64 0), (.int .u64 0), (.int .u64 0), (.int .u64 0), (.int .u64 0), (.int .u64 0), (.int .u64 0), (.int .u64 0), (.int .u64 0), (.int .u64 0), (.int .u64 0), (.int .u64 0), (.int .u64 0), (.int .u64 0), (.int .u64 0), (.int .u64 0)]) (.t 24) (.t 24)), mA 6 25] e36n75
abbrev e36n77 := qr [mA 18 0, iA 19 (cl 75 [.t 18]), mA 5 19] e36n76
abbrev e36n78 : EC := .seq e36n5 e36n77
abbrev e36n79 := qr [iA 4 (.mov (.c (.sl 1 true [])))] e36n78
abbrev e36 : EF := ⟨121, 2, [(.inl 4)], e36n79⟩
theorem e36_ok : compFn Tryz.prog { mu := fun t => [25, 99].contains t, cl := fun r i => ([(3, 1, Cls.w)].find? fun x => x.1 == r && x.2.1 == i).map (·.2.2) } Tryz.f36 = some e36 := by kernel_rfl
theorem e36_nm : (Tryz.f36.name == "runtime.NumGoroutine") = false := by kernel_rfl
abbrev e37n3 := cd 19 .skip (.exit 0)
abbrev e37n4 := qr [mA 9 5, bC 10 .gtr 9 0, mA 11 10, gT 12 11 (oM 0), gT 13 11 (oM 5), gT 14 11 (.bin .sub (.t 13) (cI 1)), gT 15 11 (.iaddr 1 (.t 12) (.t 14)), gT 16 11 (oL 1 15), gT 17 11 (oM 1), gT 18 11 (.bin .gtr (.t 16) (.t 17)), pA 19 11 18] e37n3
abbrev e37n6 : EC := .block 1 (.reg [mA 20 5, bC 21 .sub 20 1, mA 5 21])
abbrev e37n7 : EC := .seq e37n4 e37n6
abbrev e37n8 : EC := .loop e37n7
abbrev e37n9 : EC := .block 0 e37n8
abbrev e37n12 := qr [mA 33 0, mA 4 33] .ret
abbrev e37n13 := cd 32 e37n12 .skip
abbrev e37n14 := qr [mA 22 5, bC 23 .gtr 22 0, mA 24 23, gT 25 24 (oM 0), gT 26 24 (oM 5), gT 27 24 (.bin .sub (.t 26) (cI 1)), gT 28 24 (.iaddr 1 (.t 25) (.t 27)), gT 29 24 (oL 1 28), gT 30 24 (oM 1), gT 31 24 (.bin .eql (.t 29) (.t 30)), pA 32 24 31] e37n13
abbrev e37n17 := qr [mN 39 6, mN 40 1, iN 41 (.lit false 1 false (.int .i64 0) 1 [(0, (.t 40))]), ⟨(some 42), none, .append false 1 8 (.t 39) (.t 41), .t⟩, mN 43 0, mN 44 5, iN 45 (.slc 1 (.t 43) (some (.t 44)) none none), ⟨(some 46), none, .append false 1 8 (.t 42) (.t 45), .t⟩, mN 4 46] .ret
abbrev e37n18 := qr [iA 34 (.lit false 1 false (.int .i64 0) 0 []), mA 35 0, mA 36 5, iA 37 (.slc 1 (.t 35) none (some (.t 36)) none), iA 38 (.append false 1 8 (.t 34) (.t 37)), mA 6 38] e37n17
abbrev e37n19 : EC := .seq e37n14 e37n18
abbrev e37n20 : EC := .seq e37n9 e37n19
abbrev e37n21 := qr [mA 7 0, zA 8 7, mA 5 8] e37n20
abbrev e37n22 := qr [iA 4 (.mov (.c (.sl 1 true [])))] e37n21
abbrev e37 : EF := ⟨47, 2, [(.inl 4)], e37n22⟩
theorem e37_ok : compFn Tryz.prog {} Tryz.f37 = some e37 := by kernel_rfl
theorem e37_nm : (Tryz.f37.name == "runtime.NumGoroutine") = false := by kernel_rfl
abbrev e38n3 := cd 9 .skip (.exit 0)
abbrev e38n4 := qr [mA 6 5, mA 7 0, zA 8 7, bA 9 .lss 6 8] e38n3
abbrev e38n7 := qr [iA 4 (.mov (cB true))] .ret
abbrev e38n8 := cd 17 e38n7 .skip
abbrev e38n9 := qr [mA 12 0, mA 13 5, aA 14 1 12 13, lA 15 1 14, mA 16 1, bA 17 .eql 15 16] e38n8
abbrev e38n10 : EC := .block 1 e38n9
abbrev e38n12 : EC := .seq e38n10 (.reg [mA 10 5, bC 11 .add 10 1, mA 5 11])
abbrev e38n13 : EC := .seq e38n4 e38n12
abbrev e38n14 : EC := .loop e38n13
abbrev e38n15 : EC := .block 0 e38n14
abbrev e38n16 := qr [iA 5 (.mov (cI 0))] e38n15
abbrev e38n18 := qr [iA 4 (.mov (cB false))] .ret
abbrev e38n19 : EC := .seq e38n16 e38n18
abbrev e38n20 := qr [iA 4 (.mov (cB false))] e38n19
abbrev e38 : EF := ⟨18, 2, [(.inl 4)], e38n20⟩
theorem e38_ok : compFn Tryz.prog {} Tryz.f38 = some e38 := by kernel_rfl
theorem e38_nm : (Tryz.f38.name == "runtime.NumGoroutine") = false := by kernel_rfl
abbrev e50n5 := cd 23 .skip (.exit 0)
abbrev e50n6 := qr [mA 20 6, mA 21 4, zA 22 21, bA 23 .lss 20 22] e50n5
abbrev e50n11 := cd 36 .skip (.exit 2)
abbrev e50n12 := qr [mA 33 9, mA 34 7, zA 35 34, bA 36 .lss 33 35] e50n11
abbrev e50n16 := cd 46 (.reg [mA 47 8, mA 48 10, iA 49 (cl 37 [(.t 47), (.t 48)]), mA 8 49]) .skip
abbrev e50n17 := qr [mA 45 10, bC 46 .geq 45 0] e50n16
abbrev e50n18 := qr [iR 39 (oG 5 1), mN 40 7, mN 41 9, aN 42 2 40 41, iR 43 (oG 2 42), iR 44 (cl 85 [(.t 39), (.t 43)]), mN 10 44] e50n17
abbrev e50n19 : EC := .block 3 e50n18
abbrev e50n21 : EC := .seq e50n19 (.reg [mA 37 9, bC 38 .add 37 1, mA 9 38])
abbrev e50n22 : EC := .seq e50n12 e50n21
abbrev e50n23 : EC := .loop e50n22
abbrev e50n24 : EC := .block 2 e50n23
abbrev e50n25 := qr [iA 9 (.mov (cI 0))] e50n24
abbrev e50n28 := cd 53 .skip (.exit 4)
abbrev e50n29 := qr [mA 50 11, mA 51 5, zA 52 51, bA 53 .lss 50 52] e50n28
abbrev e50n31 := cd 62 (.exit 5) .skip
abbrev e50n32 := qr [mA 56 8, mA 57 5, mA 58 11, aA 59 1 57 58, lA 60 1 59, iA 61 (cl 38 [(.t 56), (.t 60)]), iA 62 (.un .not (.t 61))] e50n31
abbrev e50n39 := qr [iA 2 (.mov (.c (.sl 2 true []))), iA 3 (.mov (cI 4))] .ret
abbrev e50n40 := cd 82 e50n39 .skip
abbrev e50n41 := qr [mA 81 13, bC 82 .eql 81 150] e50n40
abbrev e50n43 : EC := .seq e50n41 (.reg [mA 83 4, mA 84 12, iA 85 (.build [(.sl 2 true []), (.sl 2 true [])] [(0, 1, (.t 84))]), iA 86 (.lit false 2 true (.agg [(.sl 2 true []), (.sl 2 true [])]) 1 [(0, (.t 85))]), iA 87 (.append true 2 48 (.t 83) (.t 86)), mA 4 87])
abbrev e50n44 := qr [mA 79 4, zA 80 79, mA 13 80] e50n43
abbrev e50n45 := cd 78 e50n44 .skip
abbrev e50n46 := qr [mA 77 13, bC 78 .lss 77 0] e50n45
abbrev e50n48 : EC := .seq e50n46 (.reg [mN 88 4, mN 89 6, mN 90 4, mN 91 6, aN 92 2 90 91, fN 93 1 92, lR 94 1 93, mN 95 5, mN 96 11, aN 97 1 95 96, lR 98 1 97, mN 99 13, iN 100 (.build [(.int .i64 0), (.int .i64 0)] [(0, 1, (.t 98)), (1, 1, (.t 99))]), iN 101 (.lit false 2 true (.agg [(.int .i64 0), (.int .i64 0)]) 1 [(0, (.t 100))]), ⟨(some 102), none, .append false 2 16 (.t 94) (.t 101), .t⟩, aN 103 2 88 89, fN 104 1 103, sW 1 104 102])
abbrev e50n49 := qr [mA 74 4, mA 75 12, iA 76 (cl 87 [(.t 74), (.t 75)]), mA 13 76] e50n48
abbrev e50n50 := qr [iR 63 (oG 5 1), mN 64 4, mN 65 6, aN 66 2 64 65, fN 67 0 66, lR 68 1 67, mN 69 5, mN 70 11, aN 71 1 69 70, lR 72 1 71, iR 73 (cl 86 [(.t 63), (.t 68), (.t 72)]), mN 12 73] e50n49
abbrev e50n51 : EC := .seq e50n32 e50n50
abbrev e50n52 : EC := .block 5 e50n51
abbrev e50n54 : EC := .seq e50n52 (.reg [mA 54 11, bC 55 .add 54 1, mA 11 55])
abbrev e50n55 : EC := .seq e50n29 e50n54
abbrev e50n56 : EC := .loop e50n55
abbrev e50n57 : EC := .block 4 e50n56
abbrev e50n58 := qr [iA 11 (.mov (cI 0))] e50n57
abbrev e50n59 : EC := .seq e50n25 e50n58
abbrev e50n60 := qr [iA 8 (.mov (.c (.sl 1 true [])))] e50n59
abbrev e50n61 := qr [iR 26 (oG 5 1), mN 27 4, mN 28 6, aN 29 2 27 28, fN 30 0 29, lR 31 1 30, iR 32 (cl 84 [(.t 26), (.t 31)]), mN 7 32] e50n60
abbrev e50n62 : EC := .block 1 e50n61
abbrev e50n64 : EC := .seq e50n62 (.reg [mA 24 6, bC 25 .add 24 1, mA 6 25])
abbrev e50n65 : EC := .seq e50n6 e50n64
abbrev e50n66 : EC := .loop e50n65
abbrev e50n67 : EC := .block 0 e50n66
abbrev e50n68 := qr [iA 6 (.mov (cI 0))] e50n67
abbrev e50n70 := qr [mA 105 4, mA 2 105, iA 3 (.mov (cI 0))] .ret
abbrev e50n71 : EC := .seq e50n68 e50n70
abbrev e50n72 := qr [lG 18 5 1, iA 19 (cl 83 [.t 18]), mA 5 19] e50n71
abbrev e50n73 := qr [iA 14 (.build [(.int .i64 0), (.int .i64 0)] []), iA 15 (.lit false 2 true (.agg [(.int .i64 0), (.int .i64 0)]) 1 [(0, (.t 14))]), iA 16 (.build [(.sl 2 true []), (.sl 2 true [])] [(0, 1, (.t 15))]), iA 17 (.lit true 2 true (.agg [(.sl 2 true []), (.sl 2 true [])]) 1 [(0, (.t 16))]), mA 4 17] e50n72
abbrev e50n74 := qr [iA 1 (.box 5 (.t 0)), iA 2 (.mov (.c (.sl 2 true []))), iA 3 (.mov (cI 0))] e50n73
abbrev e50 : EF := ⟨106, 1, [(.inl 2), (.inl 3)], e50n74⟩
theorem e50_ok : compFn Tryz.prog { mu := fun t => [17, 87].contains t } Tryz.f50 = some e50 := by kernel_rfl
theorem e50_nm : (Tryz.f50.name == "runtime.NumGoroutine") = false := by kernel_rfl
abbrev e51n4 := cd 23 .skip (.exit 0)
abbrev e51n7 := qr [mA 24 22, aA 25 2 20 22, lG 26 2 25, iA 7 (.alloc 2 (.agg [(.int .i64 0), (.int .i64 0)])), mA 6 24, sA 2 7 26] (.reg [mN 27 5, nN 28 27, fN 29 7 28, lR 30 1 29, iR 31 (oG 2 7), mN 32 6, ⟨none, none, .mset (.t 30) (.t 31) (.t 32), .w⟩])
abbrev e51n8 : EC := .block 1 e51n7
abbrev e51n10 : EC := .seq e51n8 (.reg [bC 33 .add 22 1, mA 22 33])
abbrev e51n11 : EC := .seq e51n4 e51n10
abbrev e51n12 := qr [bA 23 .lss 22 21] e51n11
abbrev e51n13 : EC := .loop e51n12
abbrev e51n14 : EC := .block 0 e51n13
abbrev e51n15 := qr [mA 17 5, nA 18 17, fA 19 6 18, lA 20 1 19, zA 21 20, iA 22 (.mov (cI 0))] e51n14
abbrev e51n17 := qr [mA 34 5, mA 4 34] .ret
abbrev e51n18 : EC := .seq e51n15 e51n17
abbrev e51n19 := qr [iR 8 (oG 5 2), mN 9 1, mN 10 1, iR 11 (cl 15 [.t 10]), ⟨(some 12), none, .mkmap, .a⟩, iR 13 (oG 5 2), iR 14 (cl 88 [.t 13]), iN 15 (.build [(.sl 6 true []), (.sl 2 true []), (.sl 6 true []), (.str []), (.str []), (.sl 2 true []), (.sl 2 true []), .nilmap, (.sl 1 true [])] [(0, 5, (.t 8)), (5, 1, (.t 9)), (6, 1, (.t 11)), (7, 1, (.t 12)), (8, 1, (.t 14))]), ⟨(some 16), none, .box 9 (.t 15), .a⟩, mN 5 16] e51n18
abbrev e51n20 := qr [iA 2 (.box 5 (.t 0)), iA 4 (.mov (.c .nilp))] e51n19
abbrev e51 : EF := ⟨35, 2, [(.inl 4)], e51n20⟩
theorem e51_ok : compFn Tryz.prog {} Tryz.f51 = some e51 := by kernel_rfl
theorem e51_nm : (Tryz.f51.name == "runtime.NumGoroutine") = false := by kernel_rfl
abbrev e52n4 := cd 21 .skip (.exit 0)
abbrev e52n9 := qr [mA 28 8, iA 29 (cl 89 [.t 28])] (.reg [mA 30 5, mA 31 6, mA 32 8, iA 33 (cl 90 [.t 32]), aA 34 1 30 31, sA 1 34 33])
abbrev e52n10 := qr [mA 25 1, lG 26 2 7, iA 27 (.call (.t 25) [.t 26]), mA 8 27] e52n9
abbrev e52n11 := qr [mA 22 20, aA 23 2 18 20, lG 24 2 23, iA 7 (.alloc 2 (.agg [(.int .i64 0), (.int .i64 0)])), mA 6 22, sA 2 7 24] e52n10
abbrev e52n12 : EC := .block 1 e52n11
abbrev e52n14 : EC := .seq e52n12 (.reg [bC 35 .add 20 1, mA 20 35])
abbrev e52n15 : EC := .seq e52n4 e52n14
abbrev e52n16 := qr [bA 21 .lss 20 19] e52n15
abbrev e52n17 : EC := .loop e52n16
abbrev e52n18 : EC := .block 0 e52n17
abbrev e52n19 := qr [mA 15 0, nA 16 15, fA 17 6 16, lA 18 1 17, zA 19 18, iA 20 (.mov (cI 0))] e52n18
abbrev e52n21 := qr [mA 36 5, mA 4 36] .ret
abbrev e52n22 : EC := .seq e52n19 e52n21
abbrev e52n23 := qr [mA 9 0, nA 10 9, fA 11 6 10, lA 12 1 11, zA 13 12, iA 14 (.mksl true 1 24 (.sl 1 true []) (.t 13) (.t 13)), mA 5 14] e52n22
abbrev e52n24 := qr [iA 4 (.mov (.c (.sl 1 true [])))] e52n23
abbrev e52 : EF := ⟨37, 2, [(.inl 4)], e52n24⟩
theorem e52_ok : compFn Tryz.prog { mu := fun t => [14].contains t } Tryz.f52 = some e52 := by kernel_rfl
theorem e52_nm : (Tryz.f52.name == "runtime.NumGoroutine") = false := by kernel_rfl
abbrev e53n5 := cd 21 (.reg [mA 22 5, iA 23 (.lit false 1 false (.int .i64 0) 1 [(0, (cI 0))]), iA 24 (.append true 1 8 (.t 22) (.t 23)), mA 5 24]) .skip
abbrev e53n6 := qr [fA 18 0 6, lA 19 1 18, iA 20 (.build [(.int .i64 0), (.int .i64 0)] [(0, 1, (cI 0)), (1, 1, (cI 1))]), iA 21 (cl 92 [(.t 19), (.t 20)])] e53n5
abbrev e53n9 := cd 29 .skip (.exit 0)
abbrev e53n13 := cd 34 (.reg [mA 35 5, fA 36 0 8, lA 37 1 36, iA 38 (.lit false 1 false (.int .i64 0) 1 [(0, (.t 37))]), iA 39 (.append true 1 8 (.t 35) (.t 38)), mA 5 39]) .skip
abbrev e53n14 := qr [fA 32 0 8, lA 33 1 32, bC 34 .lss 33 1000] e53n13
abbrev e53n15 := qr [aA 30 2 26 28, lG 31 2 30, iA 8 (.alloc 2 (.agg [(.int .i64 0), (.int .i64 0)])), sA 2 8 31] e53n14
abbrev e53n16 : EC := .block 1 e53n15
abbrev e53n18 : EC := .seq e53n16 (.reg [bC 40 .add 28 1, mA 28 40])
abbrev e53n19 : EC := .seq e53n9 e53n18
abbrev e53n20 := qr [bA 29 .lss 28 27] e53n19
abbrev e53n21 : EC := .loop e53n20
abbrev e53n22 : EC := .block 0 e53n21
abbrev e53n23 := qr [fA 25 1 6, lA 26 1 25, zA 27 26, iA 28 (.mov (cI 0))] e53n22
abbrev e53n25 := qr [mA 41 5, mA 4 41] .ret
abbrev e53n26 : EC := .seq e53n23 e53n25
abbrev e53n27 : EC := .seq e53n6 e53n26
abbrev e53n28 := qr [mN 9 0, nN 10 9, fN 11 5 10, lR 12 1 11, mN 13 0, iR 14 (oG 2 3), ⟨(some 15), none, .call (.c (.fn 91 [])) [(.t 13), (.t 14)], .b⟩, aN 16 2 12 15, iR 17 (oG 2 16), ⟨(some 6), none, .alloc 2 (.agg [(.sl 2 true []), (.sl 2 true [])]), .a⟩, sW 2 6 17] e53n27
abbrev e53n29 := qr [iA 5 (.mov (.c (.sl 1 true [])))] e53n28
abbrev e53n30 := qr [iA 3 (.box 2 (.t 1)), iA 4 (.mov (.c (.sl 1 true [])))] e53n29
abbrev e53 : EF := ⟨42, 2, [(.inl 4)], e53n30⟩
theorem e53_ok : compFn Tryz.prog { mu := fun t => [24, 39].contains t, cl := fun r i => ([(2, 6, Cls.b)].find? fun x => x.1 == r && x.2.1 == i).map (·.2.2) } Tryz.f53 = some e53 := by kernel_rfl
theorem e53_nm : (Tryz.f53.name == "runtime.NumGoroutine") = false := by kernel_rfl
abbrev e56n5 := cd 22 .skip (.exit 0)
abbrev e56n9 := cd 38 (.reg [mN 39 5, mN 40 0, nN 41 40, fN 42 7 41, lR 43 1 42, mN 44 6, fN 45 0 8, lR 46 1 45, iN 47 (.build [(.int .i64 0), (.int .i64 0)] [(0, 1, (.t 44)), (1, 1, (.t 46))]), iN 48 (.mget false (.t 43) (.t 47)), iN 49 (.lit false 1 false (.int .i64 0) 1 [(0, (.t 48))]), ⟨(some 50), none, .append true 1 8 (.t 39) (.t 49), .w⟩, mN 5 50]) .skip
abbrev e56n10 := qr [fN 25 0 8, lR 26 1 25, iN 27 (.bin .geq (.t 26) (cI 1000)), mN 28 27, ⟨(some 29), (some (28, true)), .mov (.t 0), .n⟩, ⟨(some 30), (some (28, true)), .nilck (.t 29), .n⟩, ⟨(some 31), (some (28, true)), .faddr 8 (.t 30), .n⟩, ⟨(some 32), (some (28, true)), .load false 1 (.t 31), .r⟩, ⟨(some 33), (some (28, true)), .faddr 0 (.t 8), .n⟩, ⟨(some 34), (some (28, true)), .load false 1 (.t 33), .r⟩, ⟨(some 35), (some (28, true)), .bin .sub (.t 34) (cI 1000), .n⟩, ⟨(some 36), (some (28, true)), .iaddr 1 (.t 32) (.t 35), .n⟩, ⟨(some 37), (some (28, true)), .load false 1 (.t 36), .r⟩, iN 38 (.pick (.t 28) (.t 37) (cB false))] e56n9
abbrev e56n11 := qr [aA 23 2 19 21, lG 24 2 23, iA 8 (.alloc 2 (.agg [(.int .i64 0), (.int .i64 0)])), sA 2 8 24] e56n10
abbrev e56n12 : EC := .block 1 e56n11
abbrev e56n14 : EC := .seq e56n12 (.reg [bC 51 .add 21 1, mA 21 51])
abbrev e56n15 : EC := .seq e56n5 e56n14
abbrev e56n16 := qr [bA 22 .lss 21 20] e56n15
abbrev e56n17 : EC := .loop e56n16
abbrev e56n18 : EC := .block 0 e56n17
abbrev e56n19 := qr [mA 12 0, nA 13 12, fA 14 5 13, lA 15 1 14, mA 16 6, aA 17 2 15 16, fA 18 1 17, lA 19 1 18, zA 20 19, iA 21 (.mov (cI 0))] e56n18
abbrev e56n21 := qr [mA 52 5, mA 4 52] .ret
abbrev e56n22 : EC := .seq e56n19 e56n21
abbrev e56n23 := qr [mA 9 0, lG 10 2 3, iA 11 (cl 91 [(.t 9), (.t 10)]), mA 6 11] e56n22
abbrev e56n24 := qr [iA 5 (.mov (.c (.sl 1 true [])))] e56n23
abbrev e56n25 := qr [iA 3 (.box 2 (.t 1)), iA 4 (.mov (.c (.sl 1 true [])))] e56n24
abbrev e56 : EF := ⟨53, 2, [(.inl 4)], e56n25⟩
theorem e56_ok : compFn Tryz.prog { mu := fun t => [50].contains t, cl := fun r i => ([(7, 11, Cls.w), (2, 2, Cls.b)].find? fun x => x.1 == r && x.2.1 == i).map (·.2.2) } Tryz.f56 = some e56 := by kernel_rfl
theorem e56_nm : (Tryz.f56.name == "runtime.NumGoroutine") = false := by kernel_rfl
abbrev e59n4 := cd 26 .skip (.exit 0)
abbrev e59n8 := cd 37 .skip (.exit 2)
abbrev e59n11 := cd 45 (.exit 3) .skip
abbrev e59n12 := qr [fA 40 0 7, lA 41 1 40, iA 42 (.bin .add (cI 1000) (.t 41)), fA 43 1 5, lA 44 1 43, bA 45 .neq 42 44] e59n11
abbrev e59n16 := cd 52 .skip (.exit 4)
abbrev e59n21 := cd 76 (.reg [mA 77 3, mA 78 11, mA 79 3, mA 80 11, aA 81 1 79 80, lA 82 1 81, mA 83 4, iA 84 (.lit false 1 false (.int .i64 0) 1 [(0, (.t 83))]), iA 85 (.append true 1 8 (.t 82) (.t 84)), aA 86 1 77 78, sA 1 86 85]) .skip
abbrev e59n22 := qr [mA 67 12, mA 68 67, gT 69 68 (oM 0), gT 70 68 (oF 1 7), gT 71 68 (oL 1 70), gT 72 68 (oM 9), gT 73 68 (.bin .add (.t 72) (cI 1)), gT 74 68 (.slc 1 (.t 71) (some (.t 73)) none none), gT 75 68 (cl 93 [(.t 69), (.t 74)]), pA 76 68 75] e59n21
abbrev e59n23 := qr [mA 57 0, nA 58 57, fA 59 7 58, lA 60 1 59, mA 61 8, mA 62 10, iA 63 (.build [(.int .i64 0), (.int .i64 0)] [(0, 1, (.t 61)), (1, 1, (.t 62))]), iA 64 (.mget true (.t 60) (.t 63)), mA 56 64, iA 65 (.ext (.t 56) 0), iA 66 (.ext (.t 56) 1), mA 11 65, mA 12 66] e59n22
abbrev e59n25 : EC := .seq e59n23 (.reg [mA 87 0, nA 88 87, fA 89 5 88, lA 90 1 89, mA 91 8, mA 92 10, iA 93 (cl 94 [(.t 90), (.t 91), (.t 92)]), mA 8 93])
abbrev e59n26 := qr [mA 53 51, aA 54 1 49 51, lA 55 1 54, mA 9 53, mA 10 55] e59n25
abbrev e59n27 : EC := .block 5 e59n26
abbrev e59n29 : EC := .seq e59n27 (.reg [bC 94 .add 51 1, mA 51 94])
abbrev e59n30 : EC := .seq e59n16 e59n29
abbrev e59n31 := qr [bA 52 .lss 51 50] e59n30
abbrev e59n32 : EC := .loop e59n31
abbrev e59n33 : EC := .block 4 e59n32
abbrev e59n34 := qr [fA 48 1 7, lA 49 1 48, zA 50 49, iA 51 (.mov (cI 0))] e59n33
abbrev e59n35 := qr [fA 46 0 5, lA 47 1 46, mA 8 47] e59n34
abbrev e59n36 : EC := .seq e59n12 e59n35
abbrev e59n37 := qr [aA 38 6 34 36, lG 39 6 38, iA 7 (.alloc 6 (.agg [(.int .i64 0), (.sl 1 true []), (.int .i64 0), (.str []), (.sl 1 true []), (.int .i64 0)])), sA 6 7 39] e59n36
abbrev e59n38 : EC := .block 3 e59n37
abbrev e59n40 : EC := .seq e59n38 (.reg [bC 95 .add 36 1, mA 36 95])
abbrev e59n41 : EC := .seq e59n8 e59n40
abbrev e59n42 := qr [bA 37 .lss 36 35] e59n41
abbrev e59n43 : EC := .loop e59n42
abbrev e59n44 : EC := .block 2 e59n43
abbrev e59n45 := qr [mA 30 0, nA 31 30, fA 32 0 31, fA 33 2 32, lA 34 1 33, zA 35 34, iA 36 (.mov (cI 0))] e59n44
abbrev e59n46 := qr [mA 27 25, aA 28 2 23 25, lG 29 2 28, iA 5 (.alloc 2 (.agg [(.int .i64 0), (.int .i64 0)])), mA 4 27, sA 2 5 29] e59n45
abbrev e59n47 : EC := .block 1 e59n46
abbrev e59n49 : EC := .seq e59n47 (.reg [bC 96 .add 25 1, mA 25 96])
abbrev e59n50 : EC := .seq e59n4 e59n49
abbrev e59n51 := qr [bA 26 .lss 25 24] e59n50
abbrev e59n52 : EC := .loop e59n51
abbrev e59n53 : EC := .block 0 e59n52
abbrev e59n54 := qr [mA 20 0, nA 21 20, fA 22 6 21, lA 23 1 22, zA 24 23, iA 25 (.mov (cI 0))] e59n53
abbrev e59n57 := cd 100 .skip (.exit 6)
abbrev e59n61 := qr [mA 102 3, mA 103 13, aA 104 1 102 103, lA 105 1 104, iA 106 (cl 89 [.t 105])] (.reg [mA 107 3, mA 108 13, mA 109 3, mA 110 13, aA 111 1 109 110, lA 112 1 111, iA 113 (cl 90 [.t 112]), aA 114 1 107 108, sA 1 114 113])
abbrev e59n62 := qr [mA 101 99, mA 13 101] e59n61
abbrev e59n63 : EC := .block 7 e59n62
abbrev e59n65 : EC := .seq e59n63 (.reg [bC 115 .add 99 1, mA 99 115])
abbrev e59n66 : EC := .seq e59n57 e59n65
abbrev e59n67 := qr [bA 100 .lss 99 98] e59n66
abbrev e59n68 : EC := .loop e59n67
abbrev e59n69 : EC := .block 6 e59n68
abbrev e59n70 := qr [mA 97 3, zA 98 97, iA 99 (.mov (cI 0))] e59n69
abbrev e59n72 := qr [mA 116 3, mA 2 116] .ret
abbrev e59n73 : EC := .seq e59n70 e59n72
abbrev e59n74 : EC := .seq e59n54 e59n73
abbrev e59n75 := qr [mA 14 0, nA 15 14, fA 16 6 15, lA 17 1 16, zA 18 17, iA 19 (.mksl true 1 24 (.sl 1 true []) (.t 18) (.t 18)), mA 3 19] e59n74
abbrev e59n76 := qr [iA 2 (.mov (.c (.sl 1 true [])))] e59n75
abbrev e59 : EF := ⟨117, 1, [(.inl 2)], e59n76⟩
theorem e59_ok : compFn Tryz.prog { mu := fun t => [19, 85].contains t } Tryz.f59 = some e59 := by kernel_rfl
theorem e59_nm : (Tryz.f59.name == "runtime.NumGoroutine") = false := by kernel_rfl
abbrev e62n4 := qr [iA 6 (.mov (.c (.sl 1 true [])))] .ret
abbrev e62n5 := cd 34 e62n4 .skip
abbrev e62n6 := qr [mA 10 1, bC 11 .lss 10 0, mA 12 11, gF 13 12 (oM 1), gF 14 12 (oM 0), gF 15 12 (.nilck (.t 14)), gF 16 12 (oF 5 15), gF 17 12 (oL 1 16), gF 18 12 (.len (.t 17)), gF 19 12 (.bin .geq (.t 13) (.t 18)), pO 20 12 19, mA 21 20, gF 22 21 (oM 2), gF 23 21 (.bin .lss (.t 22) (cI 1)), pO 24 21 23, mA 25 24, gF 26 25 (oM 2), gF 27 25 (oM 0), gF 28 25 (.nilck (.t 27)), gF 29 25 (oF 0 28), gF 30 25 (oF 2 29), gF 31 25 (oL 1 30), gF 32 25 (.len (.t 31)), gF 33 25 (.bin .geq (.t 26) (.t 32)), pO 34 25 33] e62n5
abbrev e62n9 := cd 41 .skip (.exit 0)
abbrev e62n13 := cd 77 (.reg [mA 78 7, mA 79 8, iA 80 (.lit false 1 false (.int .i64 0) 1 [(0, (.t 79))]), iA 81 (.append false 1 8 (.t 78) (.t 80)), mA 7 81]) .skip
abbrev e62n14 := qr [fN 45 1 9, lR 46 1 45, mN 47 0, nN 48 47, fN 49 0 48, fN 50 2 49, lR 51 1 50, mN 52 2, aN 53 6 51 52, fN 54 0 53, lR 55 1 54, iN 56 (.bin .add (cI 1000) (.t 55)), iN 57 (.bin .eql (.t 46) (.t 56)), mN 58 57, ⟨(some 59), (some (58, true)), .mov (.t 0), .n⟩, ⟨(some 60), (some (58, true)), .nilck (.t 59), .n⟩, ⟨(some 61), (some (58, true)), .faddr 5 (.t 60), .n⟩, ⟨(some 62), (some (58, true)), .load false 1 (.t 61), .r⟩, ⟨(some 63), (some (58, true)), .faddr 0 (.t 9), .n⟩, ⟨(some 64), (some (58, true)), .load false 1 (.t 63), .r⟩, ⟨(some 65), (some (58, true)), .mov (.t 0), .n⟩, ⟨(some 66), (some (58, true)), .nilck (.t 65), .n⟩, ⟨(some 67), (some (58, true)), .faddr 0 (.t 66), .n⟩, ⟨(some 68), (some (58, true)), .faddr 2 (.t 67), .n⟩, ⟨(some 69), (some (58, true)), .load false 1 (.t 68), .r⟩, ⟨(some 70), (some (58, true)), .mov (.t 2), .n⟩, ⟨(some 71), (some (58, true)), .iaddr 6 (.t 69) (.t 70), .n⟩, ⟨(some 72), (some (58, true)), .faddr 1 (.t 71), .n⟩, ⟨(some 73), (some (58, true)), .load false 1 (.t 72), .r⟩, ⟨(some 74), (some (58, true)), .call (.c (.fn 95 [])) [(.t 62), (.t 64), (.t 73)], .r⟩, ⟨(some 75), (some (58, true)), .mov (.t 1), .n⟩, ⟨(some 76), (some (58, true)), .bin .eql (.t 74) (.t 75), .n⟩, iN 77 (.pick (.t 58) (.t 76) (cB false))] e62n13
abbrev e62n15 := qr [mA 42 40, aA 43 2 38 40, lG 44 2 43, iA 9 (.alloc 2 (.agg [(.int .i64 0), (.int .i64 0)])), mA 8 42, sA 2 9 44] e62n14
abbrev e62n16 : EC := .block 1 e62n15
abbrev e62n18 : EC := .seq e62n16 (.reg [bC 82 .add 40 1, mA 40 82])
abbrev e62n19 : EC := .seq e62n9 e62n18
abbrev e62n20 := qr [bA 41 .lss 40 39] e62n19
abbrev e62n21 : EC := .loop e62n20
abbrev e62n22 : EC := .block 0 e62n21
abbrev e62n23 := qr [mA 35 0, nA 36 35, fA 37 6 36, lA 38 1 37, zA 39 38, iA 40 (.mov (cI 0))] e62n22
abbrev e62n25 := qr [mA 83 7, mA 6 83] .ret
abbrev e62n26 : EC := .seq e62n23 e62n25
abbrev e62n27 : EC := .seq e62n6 e62n26
abbrev e62n28 := qr [iA 7 (.mov (.c (.sl 1 true [])))] e62n27
abbrev e62n29 := qr [iA 6 (.mov (.c (.sl 1 true [])))] e62n28
abbrev e62 : EF := ⟨84, 3, [(.inl 6)], e62n29⟩
theorem e62_ok : compFn Tryz.prog {} Tryz.f62 = some e62 := by kernel_rfl
theorem e62_nm : (Tryz.f62.name == "runtime.NumGoroutine") = false := by kernel_rfl
abbrev e63n2 := qr [mA 3 0, iA 4 (cl 59 [.t 3]), mA 5 0, mA 6 0, iA 7 (.mkmfn 56 (.t 6)), iA 8 (cl 52 [(.t 5), (.t 7)]), mA 9 0, mA 10 0, iA 11 (.mkmfn 53 (.t 10)), iA 12 (cl 52 [(.t 9), (.t 11)]), iA 13 (cl 36 [(.t 8), (.t 12)]), iA 14 (cl 36 [(.t 4), (.t 13)]), mA 2 14] .ret
abbrev e63n3 := qr [iA 2 (.mov (.c (.sl 1 true [])))] e63n2
abbrev e63 : EF := ⟨15, 1, [(.inl 2)], e63n3⟩
theorem e63_ok : compFn Tryz.prog {} Tryz.f63 = some e63 := by kernel_rfl
theorem e63_nm : (Tryz.f63.name == "runtime.NumGoroutine") = false := by kernel_rfl
abbrev e65n4 := cd 14 .skip (.exit 0)
abbrev e65n8 := cd 32 (.reg [mA 33 5, fA 34 0 7, lA 35 1 34, iA 36 (.lit false 1 false (.int .i64 0) 1 [(0, (.t 35))]), iA 37 (.append false 1 8 (.t 33) (.t 36)), mA 5 37]) .skip
abbrev e65n9 := qr [fN 17 0 7, lR 18 1 17, iN 19 (.bin .gtr (.t 18) (cI 0)), mN 20 19, ⟨(some 21), (some (20, true)), .faddr 1 (.t 7), .n⟩, ⟨(some 22), (some (20, true)), .load false 1 (.t 21), .r⟩, ⟨(some 23), (some (20, true)), .faddr 2 (.t 2), .n⟩, ⟨(some 24), (some (20, true)), .load false 1 (.t 23), .r⟩, ⟨(some 25), (some (20, true)), .faddr 0 (.t 7), .n⟩, ⟨(some 26), (some (20, true)), .load false 1 (.t 25), .r⟩, ⟨(some 27), (some (20, true)), .iaddr 6 (.t 24) (.t 26), .n⟩, ⟨(some 28), (some (20, true)), .faddr 1 (.t 27), .n⟩, ⟨(some 29), (some (20, true)), .load false 1 (.t 28), .r⟩, ⟨(some 30), (some (20, true)), .len (.t 29), .n⟩, ⟨(some 31), (some (20, true)), .bin .eql (.t 22) (.t 30), .n⟩, iN 32 (.pick (.t 20) (.t 31) (cB false))] e65n8
abbrev e65n10 := qr [aA 15 2 11 13, lG 16 2 15, iA 7 (.alloc 2 (.agg [(.int .i64 0), (.int .i64 0)])), sA 2 7 16] e65n9
abbrev e65n11 : EC := .block 1 e65n10
abbrev e65n13 : EC := .seq e65n11 (.reg [bC 38 .add 13 1, mA 13 38])
abbrev e65n14 : EC := .seq e65n4 e65n13
abbrev e65n15 := qr [bA 14 .lss 13 12] e65n14
abbrev e65n16 : EC := .loop e65n15
abbrev e65n17 : EC := .block 0 e65n16
abbrev e65n18 := qr [lG 8 5 2, fA 9 0 3, lA 10 1 9, iA 11 (cl 72 [(.t 8), (.t 10)]), zA 12 11, iA 13 (.mov (cI 0))] e65n17
abbrev e65n20 := qr [mA 39 5, mA 4 39] .ret
abbrev e65n21 : EC := .seq e65n18 e65n20
abbrev e65n22 := qr [iA 5 (.mov (.c (.sl 1 true [])))] e65n21
abbrev e65n23 := qr [iA 2 (.box 5 (.t 0)), iA 3 (.box 2 (.t 1)), iA 4 (.mov (.c (.sl 1 true [])))] e65n22
abbrev e65 : EF := ⟨40, 2, [(.inl 4)], e65n23⟩
theorem e65_ok : compFn Tryz.prog {} Tryz.f65 = some e65 := by kernel_rfl
theorem e65_nm : (Tryz.f65.name == "runtime.NumGoroutine") = false := by kernel_rfl
abbrev e66n3 := cd 7 .skip (.exit 0)
abbrev e66n6 := qr [mA 8 6, mA 5 8] (.reg [mN 9 5, fN 10 0 2, iN 11 (.iaddrA 16 1 (.t 10) (.t 9)), lR 12 1 11, mN 13 5, fN 14 0 3, iN 15 (.iaddrA 16 1 (.t 14) (.t 13)), lR 16 1 15, iN 17 (.bin .or (.t 12) (.t 16)), fN 18 0 2, iN 19 (.iaddrA 16 1 (.t 18) (.t 9)), sW 1 19 17])
abbrev e66n7 : EC := .block 1 e66n6
abbrev e66n9 : EC := .seq e66n7 (.reg [bC 20 .add 6 1, mA 6 20])
abbrev e66n10 : EC := .seq e66n3 e66n9
abbrev e66n11 := qr [bC 7 .lss 6 16] e66n10
abbrev e66n12 : EC := .loop e66n11
abbrev e66n13 : EC := .block 0 e66n12
abbrev e66n14 := qr [iA 6 (.mov (cI 0))] e66n13
abbrev e66n16 := qr [lG 21 16 2, sA 16 4 21] .ret
abbrev e66n17 : EC := .seq e66n14 e66n16
abbrev e66n18 := qr [iA 2 (.box 16 (.t 0)), iA 3 (.box 16 (.t 1)), iA 4 (.alloc 16 (.agg [(.int .u64 0), (.int .u64 0), (.int .u64 0), (.int .u64 0), (.int .u64 0), (.int .u64 0), (.int .u64 0), (.int .u64 0), (.int .u64 0), (.int .u64 0), (.int .u64 0), (.int .u64 0), (.int .u64 0), (.int .u64 0), (.int .u64 0), (.int .u64 0)]))] e66n17
abbrev e66 : EF := ⟨22, 2, [(.inr (4, true, 16))], e66n18⟩
theorem e66_ok : compFn Tryz.prog {} Tryz.f66 = some e66 := by kernel_rfl
theorem e66_nm : (Tryz.f66.name == "runtime.NumGoroutine") = false := by kernel_rfl
abbrev e67n4 := cd 9 .skip (.exit 0)
abbrev e67n8 := cd 13 (.reg [mN 14 5, iN 15 (.bin .quo (.t 14) (cI 64)), fN 16 0 3, iN 17 (.iaddrA 16 1 (.t 16) (.t 15)), lR 18 1 17, mN 19 5, iN 20 (.bin .rem (.t 19) (cI 64)), iN 21 (.bin .shl (.c (.int .u64 1)) (.t 20)), iN 22 (.bin .or (.t 18) (.t 21)), fN 23 0 3, iN 24 (.iaddrA 16 1 (.t 23) (.t 15)), sW 1 24 22]) .skip
abbrev e67n9 := qr [mA 12 5, iA 13 (cl 96 [.t 12])] e67n8
abbrev e67n10 := qr [aA 10 1 6 8, lA 11 1 10, mA 5 11] e67n9
abbrev e67n11 : EC := .block 1 e67n10
abbrev e67n13 : EC := .seq e67n11 (.reg [bC 25 .add 8 1, mA 8 25])
abbrev e67n14 : EC := .seq e67n4 e67n13
abbrev e67n15 := qr [bA 9 .lss 8 7] e67n14
abbrev e67n16 : EC := .loop e67n15
abbrev e67n17 : EC := .block 0 e67n16
abbrev e67n18 := qr [mA 6 0, zA 7 6, iA 8 (.mov (cI 0))] e67n17
abbrev e67n20 := qr [lG 26 16 3, sA 16 2 26] .ret
abbrev e67n21 : EC := .seq e67n18 e67n20
abbrev e67n22 := qr [iA 3 (.alloc 16 (.agg [(.int .u64 0), (.int .u64 0), (.int .u64 0), (.int .u64 0), (.int .u64 0), (.int .u64 0), (.int .u64 0), (.int .u64 0), (.int .u64 0), (.int .u64 0), (.int .u64 0), (.int .u64 0), (.int .u64 0), (.int .u64 0), (.int .u64 0), (.int .u64 0)]))] e67n21
abbrev e67n23 := qr [iA 2 (.alloc 16 (.agg [(.int .u64 0), (.int .u64 0), (.int .u64 0), (.int .u64 0), (.int .u64 0), (.int .u64 0), (.int .u64 0), (.int .u64 0), (.int .u64 0), (.int .u64 0), (.int .u64 0), (.int .u64 0), (.int .u64 0), (.int .u64 0), (.int .u64 0), (.int .u64 0)]))] e67n22
abbrev e67 : EF := ⟨27, 1, [(.inr (2, true, 16))], e67n23⟩
theorem e67_ok : compFn Tryz.prog {} Tryz.f67 = some e67 := by kernel_rfl
theorem e67_nm : (Tryz.f67.name == "runtime.NumGoroutine") = false := by kernel_rfl
abbrev e68n4 := cd 9 .skip (.exit 0)
abbrev e68n7 := cd 13 .skip (.exit 2)
abbrev e68n8 := qr [mA 12 5, iA 13 (.bin .neq (.t 12) (.c (.int .u64 0)))] e68n7
abbrev e68n10 : EC := .block 3 (.reg [mA 18 3, mA 19 4, bC 20 .mul 19 64, mA 21 5, iA 22 (cl 97 [.t 21]), bA 23 .add 20 22, iA 24 (.lit false 1 false (.int .i64 0) 1 [(0, (.t 23))]), iA 25 (.append false 1 8 (.t 18) (.t 24)), mA 3 25])
abbrev e68n12 : EC := .seq e68n10 (.reg [mA 14 5, mA 15 5, iA 16 (.bin .sub (.t 15) (.c (.int .u64 1))), bA 17 .and 14 16, mA 5 17])
abbrev e68n13 : EC := .seq e68n8 e68n12
abbrev e68n14 : EC := .loop e68n13
abbrev e68n15 : EC := .block 2 e68n14
abbrev e68n16 := qr [mA 10 8, iA 11 (.idxA false 16 1 (.t 7) (.t 8)), mA 4 10, mA 5 11] e68n15
abbrev e68n17 : EC := .block 1 e68n16
abbrev e68n19 : EC := .seq e68n17 (.reg [bC 26 .add 8 1, mA 8 26])
abbrev e68n20 : EC := .seq e68n4 e68n19
abbrev e68n21 := qr [bC 9 .lss 8 16] e68n20
abbrev e68n22 : EC := .loop e68n21
abbrev e68n23 : EC := .block 0 e68n22
abbrev e68n24 := qr [fA 6 0 1, lG 7 16 6, iA 8 (.mov (cI 0))] e68n23
abbrev e68n26 := qr [mA 27 3, mA 2 27] .ret
abbrev e68n27 : EC := .seq e68n24 e68n26
abbrev e68n28 := qr [iA 3 (.mov (.c (.sl 1 true [])))] e68n27
abbrev e68n29 := qr [iA 1 (.box 16 (.t 0)), iA 2 (.mov (.c (.sl 1 true [])))] e68n28
abbrev e68 : EF := ⟨28, 1, [(.inl 2)], e68n29⟩
theorem e68_ok : compFn Tryz.prog {} Tryz.f68 = some e68 := by kernel_rfl
theorem e68_nm : (Tryz.f68.name == "runtime.NumGoroutine") = false := by kernel_rfl
abbrev e70n3 := qr [iA 29 (.build [(.sl 6 true []), (.sl 2 true []), (.sl 6 true []), (.str []), (.str [])] []), sA 5 2 29, iA 3 (.mov (cI 1)), iA 4 (.mov (cI 0)), iA 5 (.mov (.c (.str [])))] .ret
abbrev e70n4 := cd 28 e70n3 .skip
abbrev e70n5 := qr [lG 26 4 1, iA 27 (cl 98 [.t 26]), iA 28 (.un .not (.t 27))] e70n4
abbrev e70n11 := cd 45 .skip (.exit 0)
abbrev e70n12 := qr [mA 41 8, fA 42 1 1, lA 43 1 42, zA 44 43, bA 45 .lss 41 44] e70n11
abbrev e70n16 := cd 60 (.reg [mA 61 6, nA 62 61, fA 63 11 62, lA 64 1 63, bC 65 .add 64 1, nA 66 61, fA 67 11 66, sA 1 67 65]) .skip
abbrev e70n17 := qr [fA 53 0 9, lA 54 1 53, bC 55 .geq 54 2, mA 56 55, gT 57 56 (oF 0 9), gT 58 56 (oL 1 57), gT 59 56 (.bin .leq (.t 58) (cI 4)), pA 60 56 59] e70n16
abbrev e70n20 := cd 72 .skip (.exit 2)
abbrev e70n21 := qr [mA 68 10, fA 69 2 9, lA 70 1 69, zA 71 70, bA 72 .lss 68 71] e70n20
abbrev e70n24 := qr [mN 78 6, iR 79 (oG 4 9), fN 80 2 9, lR 81 1 80, mN 82 10, aN 83 4 81 82, iR 84 (oG 4 83), ⟨(some 85), none, .call (.c (.fn 99 [])) [(.t 78), (.t 79), (.t 84)], .w⟩] (.exit 3)
abbrev e70n25 := cd 77 e70n24 .skip
abbrev e70n26 := qr [fA 75 0 9, lA 76 1 75, bC 77 .neq 76 6] e70n25
abbrev e70n29 := cd 87 (.reg [mN 88 6, fN 89 2 9, lR 90 1 89, mN 91 10, aN 92 4 90 91, fN 93 3 92, lR 94 1 93, fN 95 2 9, lR 96 1 95, mN 97 10, aN 98 4 96 97, fN 99 0 98, lR 100 1 99, ⟨(some 101), none, .call (.c (.fn 100 [])) [(.t 88), (.t 94), (.t 100)], .w⟩]) .skip
abbrev e70n30 := qr [mA 86 7, iA 87 (.bin .neq (.t 86) (.c (.str [])))] e70n29
abbrev e70n32 : EC := .seq e70n30 (.reg [fA 102 2 9, lA 103 1 102, mA 104 10, aA 105 4 103 104, fA 106 0 105, lA 107 1 106, mA 7 107])
abbrev e70n33 : EC := .seq e70n26 e70n32
abbrev e70n34 : EC := .block 3 e70n33
abbrev e70n36 : EC := .seq e70n34 (.reg [mA 73 10, bC 74 .add 73 1, mA 10 74])
abbrev e70n37 : EC := .seq e70n21 e70n36
abbrev e70n38 : EC := .loop e70n37
abbrev e70n39 : EC := .block 2 e70n38
abbrev e70n40 := qr [iA 10 (.mov (cI 0))] e70n39
abbrev e70n41 : EC := .seq e70n17 e70n40
abbrev e70n42 := qr [fA 48 1 1, lA 49 1 48, mA 50 8, aA 51 4 49 50, lG 52 4 51, iA 9 (.alloc 4 (.agg [(.int .i64 0), (.str []), (.sl 4 true []), (.int .i64 0)])), sA 4 9 52] e70n41
abbrev e70n43 : EC := .block 1 e70n42
abbrev e70n45 : EC := .seq e70n43 (.reg [mA 46 8, bC 47 .add 46 1, mA 8 47])
abbrev e70n46 : EC := .seq e70n12 e70n45
abbrev e70n47 : EC := .loop e70n46
abbrev e70n48 : EC := .block 0 e70n47
abbrev e70n49 := qr [iA 8 (.mov (cI 0))] e70n48
abbrev e70n52 := cd 112 .skip (.exit 4)
abbrev e70n53 := qr [mA 108 11, fA 109 2 1, lA 110 1 109, zA 111 110, bA 112 .lss 108 111] e70n52
abbrev e70n57 := cd 125 (.reg [mA 126 6, fA 127 2 12, lA 128 1 127, fA 129 0 12, lA 130 1 129, iA 131 (cl 100 [(.t 126), (.t 128), (.t 130)])]) .skip
abbrev e70n58 := qr [mA 120 6, fA 121 0 12, lA 122 1 121, iA 123 (.build [(.str []), (.bool false), (.int .i64 0), (.int .i64 0)] [(0, 1, (.t 122))]), iA 124 (cl 101 [(.t 120), (.t 123)]), bC 125 .geq 124 0] e70n57
abbrev e70n61 := cd 136 (.reg [mN 137 6, mN 138 6, nN 139 138, fN 140 7 139, lR 141 1 140, fN 142 0 12, lR 143 1 142, iN 144 (.lit false 1 false (.str []) 1 [(0, (.t 143))]), ⟨(some 145), none, .append false 1 16 (.t 141) (.t 144), .t⟩, nN 146 137, fN 147 7 146, sW 1 147 145]) .skip
abbrev e70n62 := qr [mA 132 6, fA 133 0 12, lA 134 1 133, iA 135 (cl 102 [(.t 132), (.t 134)]), bC 136 .lss 135 0] e70n61
abbrev e70n63 : EC := .seq e70n58 e70n62
abbrev e70n64 := qr [fA 115 2 1, lA 116 1 115, mA 117 11, aA 118 3 116 117, lG 119 3 118, iA 12 (.alloc 3 (.agg [(.str []), (.sl 6 true []), (.int .i64 0)])), sA 3 12 119] e70n63
abbrev e70n65 : EC := .block 5 e70n64
abbrev e70n67 : EC := .seq e70n65 (.reg [mA 113 11, bC 114 .add 113 1, mA 11 114])
abbrev e70n68 : EC := .seq e70n53 e70n67
abbrev e70n69 : EC := .loop e70n68
abbrev e70n70 : EC := .block 4 e70n69
abbrev e70n71 := qr [iA 11 (.mov (cI 0))] e70n70
abbrev e70n74 := cd 152 .skip (.exit 6)
abbrev e70n75 := qr [mA 148 13, fA 149 1 1, lA 150 1 149, zA 151 150, bA 152 .lss 148 151] e70n74
abbrev e70n78 := cd 163 .skip (.exit 8)
abbrev e70n79 := qr [mA 155 14, fA 156 1 1, lA 157 1 156, mA 158 13, aA 159 4 157 158, fA 160 2 159, lA 161 1 160, zA 162 161, bA 163 .lss 155 162] e70n78
abbrev e70n83 := cd 188 (.reg [mA 189 6, fA 190 3 15, lA 191 1 190, fA 192 0 15, lA 193 1 192, iA 194 (cl 100 [(.t 189), (.t 191), (.t 193)])]) .skip
abbrev e70n84 := qr [fA 175 1 1, lA 176 1 175, mA 177 13, aA 178 4 176 177, fA 179 0 178, lA 180 1 179, bC 181 .geq 180 5, mA 182 181, gT 183 182 (oM 6), gT 184 182 (oF 0 15), gT 185 182 (oL 1 184), gT 186 182 (cl 102 [(.t 183), (.t 185)]), gT 187 182 (.bin .lss (.t 186) (cI 0)), pA 188 182 187] e70n83
abbrev e70n85 := qr [fA 166 1 1, lA 167 1 166, mA 168 13, aA 169 4 167 168, fA 170 2 169, lA 171 1 170, mA 172 14, aA 173 4 171 172, lG 174 4 173, iA 15 (.alloc 4 (.agg [(.str []), (.bool false), (.int .i64 0), (.int .i64 0)])), sA 4 15 174] e70n84
abbrev e70n86 : EC := .block 9 e70n85
abbrev e70n88 : EC := .seq e70n86 (.reg [mA 164 14, bC 165 .add 164 1, mA 14 165])
abbrev e70n89 : EC := .seq e70n79 e70n88
abbrev e70n90 : EC := .loop e70n89
abbrev e70n91 : EC := .block 8 e70n90
abbrev e70n92 := qr [iA 14 (.mov (cI 0))] e70n91
abbrev e70n93 : EC := .block 7 e70n92
abbrev e70n95 : EC := .seq e70n93 (.reg [mA 153 13, bC 154 .add 153 1, mA 13 154])
abbrev e70n96 : EC := .seq e70n75 e70n95
abbrev e70n97 : EC := .loop e70n96
abbrev e70n98 : EC := .block 6 e70n97
abbrev e70n99 := qr [iA 13 (.mov (cI 0))] e70n98
abbrev e70n102 := cd 196 (.reg [fA 197 2 1, lA 198 1 197, iA 199 (.iaddr 3 (.t 198) (cI 0)), fA 200 0 199, lA 201 1 200, mA 7 201]) .skip
abbrev e70n103 := qr [mA 195 7, iA 196 (.bin .eql (.t 195) (.c (.str [])))] e70n102
abbrev e70n107 := cd 217 .skip (.exit 10)
abbrev e70n108 := qr [mA 213 16, fA 214 2 1, lA 215 1 214, zA 216 215, bA 217 .lss 213 216] e70n107
abbrev e70n111 := cd 228 .skip (.exit 12)
abbrev e70n112 := qr [mA 220 17, fA 221 2 1, lA 222 1 221, mA 223 16, aA 224 3 222 223, fA 225 1 224, lA 226 1 225, zA 227 226, bA 228 .lss 220 227] e70n111
abbrev e70n114 : EC := .block 13 (.reg [mN 231 6, fN 232 2 1, lR 233 1 232, mN 234 16, aN 235 3 233 234, fN 236 0 235, lR 237 1 236, fN 238 2 1, lR 239 1 238, mN 240 16, aN 241 3 239 240, fN 242 1 241, lR 243 1 242, mN 244 17, aN 245 6 243 244, iR 246 (oG 6 245), ⟨(some 247), none, .call (.c (.fn 103 [])) [(.t 231), (.t 237), (.t 246)], .w⟩])
abbrev e70n116 : EC := .seq e70n114 (.reg [mA 229 17, bC 230 .add 229 1, mA 17 230])
abbrev e70n117 : EC := .seq e70n112 e70n116
abbrev e70n118 : EC := .loop e70n117
abbrev e70n119 : EC := .block 12 e70n118
abbrev e70n120 := qr [iA 17 (.mov (cI 0))] e70n119
abbrev e70n121 : EC := .block 11 e70n120
abbrev e70n123 : EC := .seq e70n121 (.reg [mA 218 16, bC 219 .add 218 1, mA 16 219])
abbrev e70n124 : EC := .seq e70n108 e70n123
abbrev e70n125 : EC := .loop e70n124
abbrev e70n126 : EC := .block 10 e70n125
abbrev e70n127 := qr [iA 16 (.mov (cI 0))] e70n126
abbrev e70n130 := qr [iN 253 (.build [(.sl 6 true []), (.sl 2 true []), (.sl 6 true []), (.str []), (.str [])] []), mN 254 6, nN 255 254, fN 256 8 255, ⟨(some 257), none, .load false 1 (.t 256), (.l 26)⟩, mN 258 6, nN 259 258, fN 260 9 259, ⟨(some 261), none, .load false 1 (.t 260), (.l 26)⟩, mN 262 6, nN 263 262, fN 264 10 263, ⟨(some 265), none, .load false 1 (.t 264), (.l 26)⟩, ⟨none, none, .store 5 (.t 2) (.t 253), (.s 10)⟩, mN 3 257, mN 4 261, mN 5 265] .ret
abbrev e70n131 := cd 252 e70n130 .skip
abbrev e70n132 := qr [mA 248 6, nA 249 248, fA 250 8 249, lA 251 1 250, bC 252 .neq 251 0] e70n131
abbrev e70n136 := cd 278 .skip (.exit 14)
abbrev e70n137 := qr [mA 272 18, mA 273 6, nA 274 273, fA 275 7 274, lA 276 1 275, zA 277 276, bA 278 .lss 272 277] e70n136
abbrev e70n142 := cd 294 (.reg [mA 295 6, nA 296 295, fA 297 6 296, lA 298 1 297, mA 299 20, aA 300 2 298 299, fA 301 1 300, lA 302 1 301, fA 303 1 19, sA 1 303 302]) .skip
abbrev e70n143 := qr [mA 293 20, bC 294 .geq 293 0] e70n142
abbrev e70n144 := qr [mA 289 6, fA 290 0 19, lA 291 1 290, iA 292 (cl 104 [(.t 289), (.t 291)]), mA 20 292] e70n143
abbrev e70n146 : EC := .seq e70n144 (.reg [mN 304 6, mN 305 6, nN 306 305, fN 307 0 306, fN 308 1 307, lR 309 1 308, iR 310 (oG 2 19), iN 311 (.lit false 2 true (.agg [(.str []), (.str [])]) 1 [(0, (.t 310))]), ⟨(some 312), none, .append false 2 32 (.t 309) (.t 311), .t⟩, nN 313 304, fN 314 0 313, fN 315 1 314, sW 1 315 312])
abbrev e70n147 := qr [mA 281 6, nA 282 281, fA 283 7 282, lA 284 1 283, mA 285 18, aA 286 1 284 285, lA 287 1 286, iA 288 (.build [(.str []), (.str [])] [(0, 1, (.t 287))]), iA 19 (.alloc 2 (.agg [(.str []), (.str [])])), sA 2 19 288] e70n146
abbrev e70n148 : EC := .block 15 e70n147
abbrev e70n150 : EC := .seq e70n148 (.reg [mA 279 18, bC 280 .add 279 1, mA 18 280])
abbrev e70n151 : EC := .seq e70n137 e70n150
abbrev e70n152 : EC := .loop e70n151
abbrev e70n153 : EC := .block 14 e70n152
abbrev e70n154 := qr [iA 18 (.mov (cI 0))] e70n153
abbrev e70n157 := cd 321 .skip (.exit 16)
abbrev e70n158 := qr [mA 316 21, mA 317 6, nA 318 317, fA 319 12 318, lA 320 1 319, bA 321 .leq 316 320] e70n157
abbrev e70n160 : EC := .block 17 (.reg [mN 324 6, mN 325 6, nN 326 325, fN 327 0 326, fN 328 1 327, lR 329 1 328, mN 330 21, iR 331 (cl 105 [.t 330]), iN 332 (.bin .add (.c (.str [64])) (.t 331)), iN 333 (.build [(.str []), (.str [])] [(0, 1, (.t 332))]), iN 334 (.lit false 2 true (.agg [(.str []), (.str [])]) 1 [(0, (.t 333))]), ⟨(some 335), none, .append false 2 32 (.t 329) (.t 334), .t⟩, nN 336 324, fN 337 0 336, fN 338 1 337, sW 1 338 335])
abbrev e70n162 : EC := .seq e70n160 (.reg [mA 322 21, bC 323 .add 322 1, mA 21 323])
abbrev e70n163 : EC := .seq e70n158 e70n162
abbrev e70n164 : EC := .loop e70n163
abbrev e70n165 : EC := .block 16 e70n164
abbrev e70n166 := qr [iA 21 (.mov (cI 1))] e70n165
abbrev e70n170 := cd 346 .skip (.exit 18)
abbrev e70n171 := qr [mA 339 23, mA 340 6, nA 341 340, fA 342 0 341, fA 343 0 342, lA 344 1 343, zA 345 344, bA 346 .lss 339 345] e70n170
abbrev e70n175 := qr [mA 357 6, nA 358 357, fA 359 0 358, fA 360 0 359, lA 361 1 360, mA 362 23, mA 363 22, aA 364 6 361 362, fA 365 2 364, sA 1 365 363] (.reg [mA 366 22, bC 367 .add 366 1, mA 22 367])
abbrev e70n176 := cd 356 e70n175 .skip
abbrev e70n177 := qr [mA 349 6, nA 350 349, fA 351 5 350, lA 352 1 351, mA 353 23, aA 354 1 352 353, lA 355 1 354, iA 356 (.un .not (.t 355))] e70n176
abbrev e70n178 : EC := .block 19 e70n177
abbrev e70n180 : EC := .seq e70n178 (.reg [mA 347 23, bC 348 .add 347 1, mA 23 348])
abbrev e70n181 : EC := .seq e70n171 e70n180
abbrev e70n182 : EC := .loop e70n181
abbrev e70n183 : EC := .block 18 e70n182
abbrev e70n184 := qr [iA 23 (.mov (cI 3))] e70n183
abbrev e70n188 := cd 400 .skip (.exit 20)
abbrev e70n189 := qr [mA 393 25, mA 394 6, nA 395 394, fA 396 0 395, fA 397 2 396, lA 398 1 397, zA 399 398, bA 400 .lss 393 399] e70n188
abbrev e70n191 : EC := .block 21 (.reg [mA 403 24, mA 404 403, gF 405 404 (oM 6), gF 406 404 (.nilck (.t 405)), gF 407 404 (oF 0 406), gF 408 404 (oF 2 407), gF 409 404 (oL 1 408), gF 410 404 (oM 25), gF 411 404 (.iaddr 6 (.t 409) (.t 410)), gF 412 404 (oF 1 411), gF 413 404 (oL 1 412), gF 414 404 (.len (.t 413)), gF 415 404 (.bin .gtr (.t 414) (cI 8)), pO 416 404 415, mA 24 416])
abbrev e70n193 : EC := .seq e70n191 (.reg [mA 401 25, bC 402 .add 401 1, mA 25 402])
abbrev e70n194 : EC := .seq e70n189 e70n193
abbrev e70n195 : EC := .loop e70n194
abbrev e70n196 : EC := .block 20 e70n195
abbrev e70n197 := qr [iA 25 (.mov (cI 0))] e70n196
abbrev e70n200 := qr [iA 418 (.build [(.sl 6 true []), (.sl 2 true []), (.sl 6 true []), (.str []), (.str [])] []), sA 5 2 418, iA 3 (.mov (cI 4)), iA 4 (.mov (cI 0)), iA 5 (.mov (.c (.str [])))] .ret
abbrev e70n201 := cd 417 e70n200 .skip
abbrev e70n202 := qr [mA 417 24] e70n201
abbrev e70n205 := qr [mA 431 6, nA 432 431, fA 433 0 432, lG 434 5 433, sA 5 2 434, iA 3 (.mov (cI 0)), iA 4 (.mov (cI 0)), iA 5 (.mov (.c (.str [])))] .ret
abbrev e70n206 := qr [mN 419 6, mN 420 6, fN 421 0 1, ⟨(some 422), none, .load false 1 (.t 421), (.l 9)⟩, fN 423 3 1, ⟨(some 424), none, .load false 1 (.t 423), (.l 9)⟩, nN 425 419, fN 426 0 425, fN 427 3 426, ⟨none, none, .store 1 (.t 427) (.t 422), (.s 26)⟩, nN 428 420, fN 429 0 428, fN 430 4 429, ⟨none, none, .store 1 (.t 430) (.t 424), (.s 26)⟩] e70n205
abbrev e70n207 : EC := .seq e70n202 e70n206
abbrev e70n208 : EC := .seq e70n197 e70n207
abbrev e70n209 := qr [mA 368 6, nA 369 368, fA 370 0 369, fA 371 0 370, lA 372 1 371, zA 373 372, bC 374 .gtr 373 40, mA 375 374, gF 376 375 (oM 6), gF 377 375 (.nilck (.t 376)), gF 378 375 (oF 0 377), gF 379 375 (oF 1 378), gF 380 375 (oL 1 379), gF 381 375 (.len (.t 380)), gF 382 375 (.bin .gtr (.t 381) (cI 24)), pO 383 375 382, mA 384 383, gF 385 384 (oM 6), gF 386 384 (.nilck (.t 385)), gF 387 384 (oF 0 386), gF 388 384 (oF 2 387), gF 389 384 (oL 1 388), gF 390 384 (.len (.t 389)), gF 391 384 (.bin .gtr (.t 390) (cI 60)), pO 392 384 391, mA 24 392] e70n208
abbrev e70n210 : EC := .seq e70n184 e70n209
abbrev e70n211 := qr [iA 22 (.mov (cI 57346))] e70n210
abbrev e70n212 : EC := .seq e70n166 e70n211
abbrev e70n213 : EC := .seq e70n154 e70n212
abbrev e70n214 := qr [mA 266 6, iA 267 (.build [(.str []), (.str [])] [(0, 1, (.c (.str [36, 97, 99, 99, 101, 112, 116])))]), iA 268 (.lit false 2 true (.agg [(.str []), (.str [])]) 1 [(0, (.t 267))]), nA 269 266, fA 270 0 269, fA 271 1 270, sA 1 271 268] e70n213
abbrev e70n215 : EC := .seq e70n132 e70n214
abbrev e70n216 : EC := .seq e70n127 e70n215
abbrev e70n217 := qr [mA 202 6, mA 203 6, mA 204 7, iA 205 (cl 102 [(.t 203), (.t 204)]), iA 206 (.bin .add (cI 1001) (.t 205)), iA 207 (.lit false 1 false (.int .i64 0) 1 [(0, (.t 206))]), iA 208 (.build [(.int .i64 0), (.sl 1 true []), (.int .i64 0), (.str []), (.sl 1 true []), (.int .i64 0)] [(0, 1, (cI 0)), (1, 1, (.t 207)), (2, 1, (cI (-1)))]), iA 209 (.lit false 6 true (.agg [(.int .i64 0), (.sl 1 true []), (.int .i64 0), (.str []), (.sl 1 true []), (.int .i64 0)]) 1 [(0, (.t 208))]), nA 210 202, fA 211 0 210, fA 212 2 211, sA 1 212 209] e70n216
abbrev e70n218 : EC := .seq e70n103 e70n217
abbrev e70n219 : EC := .seq e70n99 e70n218
abbrev e70n220 : EC := .seq e70n71 e70n219
abbrev e70n221 : EC := .seq e70n49 e70n220
abbrev e70n222 := qr [iA 7 (.mov (.c (.str [])))] e70n221
abbrev e70n223 := qr [mA 33 6, iA 34 (.build [(.str []), (.bool false), (.int .i64 0), (.int .i64 0), (.int .i64 0), (.str [])] [(0, 1, (.c (.str [36, 101, 110, 100])))]), iA 35 (.build [(.str []), (.bool false), (.int .i64 0), (.int .i64 0), (.int .i64 0), (.str [])] [(0, 1, (.c (.str [101, 114, 114, 111, 114]))), (2, 1, (cI (-1)))]), iA 36 (.build [(.str []), (.bool false), (.int .i64 0), (.int .i64 0), (.int .i64 0), (.str [])] [(0, 1, (.c (.str [36, 117, 110, 107]))), (2, 1, (cI (-1)))]), iA 37 (.lit true 6 true (.agg [(.str []), (.bool false), (.int .i64 0), (.int .i64 0), (.int .i64 0), (.str [])]) 3 [(0, (.t 34)), (1, (.t 35)), (2, (.t 36))]), nA 38 33, fA 39 0 38, fA 40 0 39, sA 1 40 37] e70n222
abbrev e70n224 := qr [iA 30 (.mksl true 1 1 (.bool false) (cI 3) (cI 3)), iA 31 (.build [(.sl 6 true []), (.sl 2 true []), (.sl 6 true []), (.str []), (.str []), (.sl 1 true []), (.sl 2 true []), (.sl 1 true []), (.int .i64 0), (.int .i64 0), (.str []), (.int .i64 0), (.int .i64 0)] [(5, 1, (.t 30))]), iA 32 (.box 13 (.t 31)), mA 6 32] e70n223
abbrev e70n225 : EC := .seq e70n5 e70n224
abbrev e70n226 := qr [iA 1 (.box 4 (.t 0)), iA 2 (.alloc 5 (.agg [(.sl 6 true []), (.sl 2 true []), (.sl 6 true []), (.str []), (.str [])])), iA 3 (.mov (cI 0)), iA 4 (.mov (cI 0)), iA 5 (.mov (.c (.str [])))] e70n225
abbrev e70 : EF := ⟨435, 1, [(.inr (2, true, 5)), (.inl 3), (.inl 4), (.inl 5)], e70n226⟩
theorem e70_ok : compFn Tryz.prog { mu := fun t => [30, 37].contains t, cl := fun r i => ([(48, 4, Cls.l 26), (48, 8, Cls.l 26), (48, 12, Cls.l 26), (48, 13, Cls.s 10), (76, 3, Cls.l 9), (76, 5, Cls.l 9), (76, 9, Cls.s 26), (76, 13, Cls.s 26), (16, 7, Cls.w), (18, 13, Cls.w), (24, 4, Cls.b), (25, 5, Cls.w), (26, 3, Cls.b), (35, 11, Cls.b), (36, 5, Cls.w), (39, 3, Cls.b), (46, 16, Cls.w), (54, 3, Cls.b)].find? fun x => x.1 == r && x.2.1 == i).map (·.2.2) } Tryz.f70 = some e70 := by kernel_rfl
theorem e70_nm : (Tryz.f70.name == "runtime.NumGoroutine") = false := by kernel_rfl
abbrev e72n4 := cd 15 .skip (.exit 0)
abbrev e72n8 := cd 20 (.reg [mA 21 5, lG 22 2 7, iA 23 (.lit false 2 true (.agg [(.int .i64 0), (.int .i64 0)]) 1 [(0, (.t 22))]), iA 24 (.append true 2 16 (.t 21) (.t 23)), mA 5 24]) .skip
abbrev e72n9 := qr [lG 18 5 2, lG 19 2 7, iA 20 (cl 106 [(.t 18), (.t 19)])] e72n8
abbrev e72n10 := qr [aA 16 2 12 14, lG 17 2 16, iA 7 (.alloc 2 (.agg [(.int .i64 0), (.int .i64 0)])), sA 2 7 17] e72n9
abbrev e72n11 : EC := .block 1 e72n10
abbrev e72n13 : EC := .seq e72n11 (.reg [bC 25 .add 14 1, mA 14 25])
abbrev e72n14 : EC := .seq e72n4 e72n13
abbrev e72n15 := qr [bA 15 .lss 14 13] e72n14
abbrev e72n16 : EC := .loop e72n15
abbrev e72n17 : EC := .block 0 e72n16
abbrev e72n18 := qr [mA 12 1, zA 13 12, iA 14 (.mov (cI 0))] e72n17
abbrev e72n22 := cd 33 .skip (.exit 2)
abbrev e72n23 := qr [mA 30 9, mA 31 5, zA 32 31, bA 33 .lss 30 32] e72n22
abbrev e72n26 := cd 50 (.exit 3) .skip
abbrev e72n27 := qr [mA 43 10, bC 44 .lss 43 0, mA 45 44, gF 46 45 (oM 8), gF 47 45 (oM 10), gF 48 45 (.iaddr 1 (.t 46) (.t 47)), gF 49 45 (oL 1 48), pO 50 45 49] e72n26
abbrev e72n31 := cd 58 .skip (.exit 4)
abbrev e72n35 := cd 67 (.reg [mA 68 5, mA 69 11, iA 70 (.build [(.int .i64 0), (.int .i64 0)] [(0, 1, (.t 69))]), iA 71 (.lit false 2 true (.agg [(.int .i64 0), (.int .i64 0)]) 1 [(0, (.t 70))]), iA 72 (.append true 2 16 (.t 68) (.t 71)), mA 5 72]) .skip
abbrev e72n36 := qr [fA 60 2 2, lA 61 1 60, mA 62 11, aA 63 6 61 62, fA 64 0 63, lA 65 1 64, mA 66 10, bA 67 .eql 65 66] e72n35
abbrev e72n37 := qr [mA 59 57, mA 11 59] e72n36
abbrev e72n38 : EC := .block 5 e72n37
abbrev e72n40 : EC := .seq e72n38 (.reg [bC 73 .add 57 1, mA 57 73])
abbrev e72n41 : EC := .seq e72n31 e72n40
abbrev e72n42 := qr [bA 58 .lss 57 56] e72n41
abbrev e72n43 : EC := .loop e72n42
abbrev e72n44 : EC := .block 4 e72n43
abbrev e72n45 := qr [fA 54 2 2, lA 55 1 54, zA 56 55, iA 57 (.mov (cI 0))] e72n44
abbrev e72n46 := qr [mA 51 8, mA 52 10, aA 53 1 51 52, ⟨none, none, .store 1 (.t 53) (cB true), .any⟩] e72n45
abbrev e72n47 : EC := .seq e72n27 e72n46
abbrev e72n48 := qr [iR 36 (oG 5 2), mN 37 5, mN 38 9, aN 39 2 37 38, iR 40 (oG 2 39), iR 41 (cl 107 [(.t 36), (.t 40)]), iN 42 (.bin .sub (.t 41) (cI 1000)), mN 10 42] e72n47
abbrev e72n49 : EC := .block 3 e72n48
abbrev e72n51 : EC := .seq e72n49 (.reg [mA 34 9, bC 35 .add 34 1, mA 9 35])
abbrev e72n52 : EC := .seq e72n23 e72n51
abbrev e72n53 : EC := .loop e72n52
abbrev e72n54 : EC := .block 2 e72n53
abbrev e72n55 := qr [iA 9 (.mov (cI 0))] e72n54
abbrev e72n58 := qr [mA 76 5, iA 77 (cl 110 [.t 76]), mA 4 77] .ret
abbrev e72n59 := qr [mA 74 5, iA 75 (cl 108 [(.t 74), (.c (.fn 109 []))])] e72n58
abbrev e72n60 : EC := .seq e72n55 e72n59
abbrev e72n61 := qr [fA 26 1 2, lA 27 1 26, zA 28 27, iA 29 (.mksl true 1 1 (.bool false) (.t 28) (.t 28)), mA 8 29] e72n60
abbrev e72n62 : EC := .seq e72n18 e72n61
abbrev e72n63 := qr [iA 5 (.mov (.c (.sl 2 true [])))] e72n62
abbrev e72n64 := qr [iA 2 (.box 5 (.t 0)), iA 4 (.mov (.c (.sl 2 true [])))] e72n63
abbrev e72 : EF := ⟨78, 2, [(.inl 4)], e72n64⟩
theorem e72_ok : compFn Tryz.prog { mu := fun t => [24, 29, 72].contains t } Tryz.f72 = some e72 := by kernel_rfl
theorem e72_nm : (Tryz.f72.name == "runtime.NumGoroutine") = false := by kernel_rfl
abbrev e75n4 := cd 21 .skip (.exit 0)
abbrev e75n7 := qr [mA 22 20, mA 4 22] (.reg [mA 23 3, nA 24 23, fA 25 4 24, lA 26 1 25, mA 27 4, aA 28 1 26 27, ⟨none, none, .store 1 (.t 28) (cI (-1)), .any⟩])
abbrev e75n8 : EC := .block 1 e75n7
abbrev e75n10 : EC := .seq e75n8 (.reg [bC 29 .add 20 1, mA 20 29])
abbrev e75n11 : EC := .seq e75n4 e75n10
abbrev e75n12 := qr [bA 21 .lss 20 19] e75n11
abbrev e75n13 : EC := .loop e75n12
abbrev e75n14 : EC := .block 0 e75n13
abbrev e75n15 := qr [mA 18 0, zA 19 18, iA 20 (.mov (cI 0))] e75n14
abbrev e75n18 := cd 33 .skip (.exit 2)
abbrev e75n22 := cd 42 (.reg [mA 43 3, mA 44 5, iA 45 (cl 115 [(.t 43), (.t 44)])]) .skip
abbrev e75n23 := qr [mA 35 3, nA 36 35, fA 37 1 36, lA 38 1 37, mA 39 5, aA 40 1 38 39, lA 41 1 40, bC 42 .eql 41 0] e75n22
abbrev e75n24 := qr [mA 34 32, mA 5 34] e75n23
abbrev e75n25 : EC := .block 3 e75n24
abbrev e75n27 : EC := .seq e75n25 (.reg [bC 46 .add 32 1, mA 32 46])
abbrev e75n28 : EC := .seq e75n18 e75n27
abbrev e75n29 := qr [bA 33 .lss 32 31] e75n28
abbrev e75n30 : EC := .loop e75n29
abbrev e75n31 : EC := .block 2 e75n30
abbrev e75n32 := qr [mA 30 0, zA 31 30, iA 32 (.mov (cI 0))] e75n31
abbrev e75n34 := qr [mA 47 3, mA 2 47] .ret
abbrev e75n35 : EC := .seq e75n32 e75n34
abbrev e75n36 : EC := .seq e75n15 e75n35
abbrev e75n37 := qr [mN 6 0, mN 7 0, iN 8 (.len (.t 7)), ⟨(some 9), none, .mksl true 1 8 (.int .i64 0) (.t 8) (.t 8), .a⟩, mN 10 0, iN 11 (.len (.t 10)), ⟨(some 12), none, .mksl true 1 8 (.int .i64 0) (.t 11) (.t 11), .a⟩, mN 13 0, iN 14 (.len (.t 13)), ⟨(some 15), none, .mksl true 1 8 (.int .i64 0) (.t 14) (.t 14), .a⟩, iN 16 (.build [(.sl 1 true []), (.sl 1 true []), (.sl 1 true []), (.sl 1 true []), (.sl 1 true []), (.sl 1 true []), (.int .i64 0)] [(0, 1, (.t 6)), (1, 1, (.t 9)), (2, 1, (.t 12)), (4, 1, (.t 15))]), ⟨(some 17), none, .box 7 (.t 16), .a⟩, mN 3 17] e75n36
abbrev e75n38 := qr [iA 2 (.mov (.c .nilp))] e75n37
abbrev e75 : EF := ⟨48, 1, [(.inl 2)], e75n38⟩
theorem e75_ok : compFn Tryz.prog { mu := fun t => [9, 12, 15].contains t, cl := fun r i => ([(11, 2, Cls.w)].find? fun x => x.1 == r && x.2.1 == i).map (·.2.2) } Tryz.f75 = some e75 := by kernel_rfl
theorem e75_nm : (Tryz.f75.name == "runtime.NumGoroutine") = false := by kernel_rfl
abbrev e83n4 := cd 10 .skip (.exit 0)
abbrev e83n5 := qr [mA 6 4, fA 7 0 1, lA 8 1 7, zA 9 8, bA 10 .lss 6 9] e83n4
abbrev e83n7 : EC := .block 1 (.reg [mA 13 3, mA 14 4, iA 15 (.lit false 1 false (.int .i64 0) 1 [(0, (.t 14))]), iA 16 (.append false 1 8 (.t 13) (.t 15)), mA 3 16])
abbrev e83n9 : EC := .seq e83n7 (.reg [mA 11 4, bC 12 .add 11 1, mA 4 12])
abbrev e83n10 : EC := .seq e83n5 e83n9
abbrev e83n11 : EC := .loop e83n10
abbrev e83n12 : EC := .block 0 e83n11
abbrev e83n13 := qr [iA 4 (.mov (cI 0))] e83n12
abbrev e83n16 := cd 21 .skip (.exit 2)
abbrev e83n17 := qr [mA 17 5, fA 18 1 1, lA 19 1 18, zA 20 19, bA 21 .lss 17 20] e83n16
abbrev e83n19 : EC := .block 3 (.reg [mA 24 3, mA 25 5, iA 26 (.bin .add (cI 1000) (.t 25)), iA 27 (.lit false 1 false (.int .i64 0) 1 [(0, (.t 26))]), iA 28 (.append false 1 8 (.t 24) (.t 27)), mA 3 28])
abbrev e83n21 : EC := .seq e83n19 (.reg [mA 22 5, bC 23 .add 22 1, mA 5 23])
abbrev e83n22 : EC := .seq e83n17 e83n21
abbrev e83n23 : EC := .loop e83n22
abbrev e83n24 : EC := .block 2 e83n23
abbrev e83n25 := qr [iA 5 (.mov (cI 0))] e83n24
abbrev e83n27 := qr [mA 29 3, mA 2 29] .ret
abbrev e83n28 : EC := .seq e83n25 e83n27
abbrev e83n29 : EC := .seq e83n13 e83n28
abbrev e83n30 := qr [iA 3 (.mov (.c (.sl 1 true [])))] e83n29
abbrev e83n31 := qr [iA 1 (.box 5 (.t 0)), iA 2 (.mov (.c (.sl 1 true [])))] e83n30
abbrev e83 : EF := ⟨30, 1, [(.inl 2)], e83n31⟩
theorem e83_ok : compFn Tryz.prog {} Tryz.f83 = some e83 := by kernel_rfl
theorem e83_nm : (Tryz.f83.name == "runtime.NumGoroutine") = false := by kernel_rfl
abbrev e84n4 := cd 16 .skip (.exit 0)
abbrev e84n5 := qr [mA 13 6, mA 14 5, zA 15 14, bA 16 .neq 13 15] e84n4
abbrev e84n9 := cd 21 .skip (.exit 2)
abbrev e84n10 := qr [mA 19 7, mA 20 6, bA 21 .lss 19 20] e84n9
abbrev e84n14 := cd 38 .skip (.exit 4)
abbrev e84n15 := qr [mA 30 9, fA 31 2 2, lA 32 1 31, zA 33 32, bA 34 .lss 30 33, mA 35 34, gT 36 35 (oM 8), gT 37 35 (.bin .geq (.t 36) (cI 1000)), pA 38 35 37] e84n14
abbrev e84n18 := cd 49 (.reg [mA 50 5, mA 51 9, iA 52 (.build [(.int .i64 0), (.int .i64 0)] [(0, 1, (.t 51))]), iA 53 (cl 117 [(.t 50), (.t 52)]), mA 5 53]) .skip
abbrev e84n19 := qr [fA 41 2 2, lA 42 1 41, mA 43 9, aA 44 6 42 43, fA 45 0 44, lA 46 1 45, mA 47 8, bC 48 .sub 47 1000, bA 49 .eql 46 48] e84n18
abbrev e84n20 : EC := .block 5 e84n19
abbrev e84n22 : EC := .seq e84n20 (.reg [mA 39 9, bC 40 .add 39 1, mA 9 40])
abbrev e84n23 : EC := .seq e84n15 e84n22
abbrev e84n24 : EC := .loop e84n23
abbrev e84n25 : EC := .block 4 e84n24
abbrev e84n26 := qr [iA 9 (.mov (cI 0))] e84n25
abbrev e84n28 := cd 57 (.exit 2) .skip
abbrev e84n29 := qr [mA 54 5, zA 55 54, mA 56 6, bA 57 .neq 55 56] e84n28
abbrev e84n30 : EC := .seq e84n26 e84n29
abbrev e84n31 := qr [iR 24 (oG 5 2), mN 25 5, mN 26 7, aN 27 2 25 26, iR 28 (oG 2 27), iR 29 (cl 85 [(.t 24), (.t 28)]), mN 8 29] e84n30
abbrev e84n32 : EC := .block 3 e84n31
abbrev e84n34 : EC := .seq e84n32 (.reg [mA 22 7, bC 23 .add 22 1, mA 7 23])
abbrev e84n35 : EC := .seq e84n10 e84n34
abbrev e84n36 : EC := .loop e84n35
abbrev e84n37 : EC := .block 2 e84n36
abbrev e84n38 := qr [iA 7 (.mov (cI 0))] e84n37
abbrev e84n39 := qr [mA 17 5, zA 18 17, mA 6 18] e84n38
abbrev e84n40 : EC := .block 1 e84n39
abbrev e84n41 : EC := .seq e84n5 e84n40
abbrev e84n42 : EC := .loop e84n41
abbrev e84n43 : EC := .block 0 e84n42
abbrev e84n44 := qr [iA 6 (.mov (cI (-1)))] e84n43
abbrev e84n46 := qr [mA 58 5, mA 4 58] .ret
abbrev e84n47 : EC := .seq e84n44 e84n46
abbrev e84n48 := qr [lG 10 5 2, mA 11 1, iA 12 (cl 116 [(.t 10), (.t 11)]), mA 5 12] e84n47
abbrev e84n49 := qr [iA 2 (.box 5 (.t 0)), iA 4 (.mov (.c (.sl 2 true [])))] e84n48
abbrev e84 : EF := ⟨59, 2, [(.inl 4)], e84n49⟩
theorem e84_ok : compFn Tryz.prog {} Tryz.f84 = some e84 := by kernel_rfl
theorem e84_nm : (Tryz.f84.name == "runtime.NumGoroutine") = false := by kernel_rfl
abbrev e85n3 := qr [iA 4 (.mov (cI (-1)))] .ret
abbrev e85n4 := cd 21 e85n3 .skip
abbrev e85n5 := qr [iR 5 (oG 5 2), iR 6 (oG 2 3), iR 7 (cl 118 [(.t 5), (.t 6)]), iN 8 (.un .not (.t 7)), mN 9 8, ⟨(some 10), (some (9, false)), .faddr 1 (.t 3), .n⟩, ⟨(some 11), (some (9, false)), .load false 1 (.t 10), .r⟩, ⟨(some 12), (some (9, false)), .faddr 2 (.t 2), .n⟩, ⟨(some 13), (some (9, false)), .load false 1 (.t 12), .r⟩, ⟨(some 14), (some (9, false)), .faddr 0 (.t 3), .n⟩, ⟨(some 15), (some (9, false)), .load false 1 (.t 14), .r⟩, ⟨(some 16), (some (9, false)), .iaddr 6 (.t 13) (.t 15), .n⟩, ⟨(some 17), (some (9, false)), .faddr 1 (.t 16), .n⟩, ⟨(some 18), (some (9, false)), .load false 1 (.t 17), .r⟩, ⟨(some 19), (some (9, false)), .len (.t 18), .n⟩, ⟨(some 20), (some (9, false)), .bin .eql (.t 11) (.t 19), .n⟩, iN 21 (.pick (.t 9) (cB true) (.t 20))] e85n4
abbrev e85n7 := qr [fN 22 2 2, lR 23 1 22, fN 24 0 3, lR 25 1 24, aN 26 6 23 25, fN 27 1 26, lR 28 1 27, fN 29 1 3, lR 30 1 29, aN 31 1 28 30, lR 32 1 31, mN 4 32] .ret
abbrev e85n8 : EC := .seq e85n5 e85n7
abbrev e85n9 := qr [iA 2 (.box 5 (.t 0)), iA 3 (.box 2 (.t 1)), iA 4 (.mov (cI 0))] e85n8
abbrev e85 : EF := ⟨33, 2, [(.inl 4)], e85n9⟩
theorem e85_ok : compFn Tryz.prog {} Tryz.f85 = some e85 := by kernel_rfl
theorem e85_nm : (Tryz.f85.name == "runtime.NumGoroutine") = false := by kernel_rfl
abbrev e86n5 := cd 17 .skip (.exit 0)
abbrev e86n6 := qr [mA 14 9, mA 15 8, zA 16 15, bA 17 .lss 14 16] e86n5
abbrev e86n10 := cd 32 (.reg [mN 33 7, mN 34 8, mN 35 9, aN 36 2 34 35, fN 37 0 36, lR 38 1 37, mN 39 8, mN 40 9, aN 41 2 39 40, fN 42 1 41, lR 43 1 42, iN 44 (.bin .add (.t 43) (cI 1)), iN 45 (.build [(.int .i64 0), (.int .i64 0)] [(0, 1, (.t 38)), (1, 1, (.t 44))]), iR 46 (cl 117 [(.t 33), (.t 45)]), mN 7 46]) .skip
abbrev e86n11 := qr [mA 26 10, bC 27 .geq 26 0, mA 28 27, gT 29 28 (oM 10), gT 30 28 (oM 2), gT 31 28 (.bin .eql (.t 29) (.t 30)), pA 32 28 31] e86n10
abbrev e86n12 := qr [iR 20 (oG 5 3), mN 21 8, mN 22 9, aN 23 2 21 22, iR 24 (oG 2 23), iR 25 (cl 85 [(.t 20), (.t 24)]), mN 10 25] e86n11
abbrev e86n13 : EC := .block 1 e86n12
abbrev e86n15 : EC := .seq e86n13 (.reg [mA 18 9, bC 19 .add 18 1, mA 9 19])
abbrev e86n16 : EC := .seq e86n6 e86n15
abbrev e86n17 : EC := .loop e86n16
abbrev e86n18 : EC := .block 0 e86n17
abbrev e86n19 := qr [iA 9 (.mov (cI 0))] e86n18
abbrev e86n21 := qr [mA 47 7, mA 6 47] .ret
abbrev e86n22 : EC := .seq e86n19 e86n21
abbrev e86n23 := qr [lG 11 5 3, mA 12 1, iA 13 (cl 84 [(.t 11), (.t 12)]), mA 8 13] e86n22
abbrev e86n24 := qr [iA 7 (.mov (.c (.sl 2 true [])))] e86n23
abbrev e86n25 := qr [iA 3 (.box 5 (.t 0)), iA 6 (.mov (.c (.sl 2 true [])))] e86n24
abbrev e86 : EF := ⟨48, 3, [(.inl 6)], e86n25⟩
theorem e86_ok : compFn Tryz.prog {} Tryz.f86 = some e86 := by kernel_rfl
theorem e86_nm : (Tryz.f86.name == "runtime.NumGoroutine") = false := by kernel_rfl
abbrev e87n3 := cd 9 .skip (.exit 0)
abbrev e87n4 := qr [mA 6 5, mA 7 0, zA 8 7, bA 9 .lss 6 8] e87n3
abbrev e87n7 := qr [mA 19 5, mA 4 19] .ret
abbrev e87n8 := cd 18 e87n7 .skip
abbrev e87n9 := qr [mA 12 0, mA 13 5, aA 14 2 12 13, fA 15 0 14, lA 16 1 15, mA 17 1, iA 18 (cl 119 [(.t 16), (.t 17)])] e87n8
abbrev e87n10 : EC := .block 1 e87n9
abbrev e87n12 : EC := .seq e87n10 (.reg [mA 10 5, bC 11 .add 10 1, mA 5 11])
abbrev e87n13 : EC := .seq e87n4 e87n12
abbrev e87n14 : EC := .loop e87n13
abbrev e87n15 : EC := .block 0 e87n14
abbrev e87n16 := qr [iA 5 (.mov (cI 0))] e87n15
abbrev e87n18 := qr [iA 4 (.mov (cI (-1)))] .ret
abbrev e87n19 : EC := .seq e87n16 e87n18
abbrev e87n20 := qr [iA 4 (.mov (cI 0))] e87n19
abbrev e87 : EF := ⟨20, 2, [(.inl 4)], e87n20⟩
theorem e87_ok : compFn Tryz.prog {} Tryz.f87 = some e87 := by kernel_rfl
theorem e87_nm : (Tryz.f87.name == "runtime.NumGoroutine") = false := by kernel_rfl
abbrev e88n2 := qr [lG 3 5 1, iA 4 (cl 120 [(.t 3), (cB false)]), mA 2 4] .ret
abbrev e88n3 := qr [iA 1 (.box 5 (.t 0)), iA 2 (.mov (.c (.sl 1 true [])))] e88n2
abbrev e88 : EF := ⟨5, 1, [(.inl 2)], e88n3⟩
theorem e88_ok : compFn Tryz.prog {} Tryz.f88 = some e88 := by kernel_rfl
theorem e88_nm : (Tryz.f88.name == "runtime.NumGoroutine") = false := by kernel_rfl
abbrev e89n2 := qr [mA 3 0, zA 4 3, mA 2 4] (.reg [mA 5 0, mA 6 2, mA 7 2, iA 8 (.conv .u64 (.t 7)), iA 9 (cl 122 [.t 8]), iA 10 (cl 121 [(.t 5), (cI 0), (.t 6), (.t 9)])])
abbrev e89 : EF := ⟨11, 1, [], e89n2⟩
theorem e89_ok : compFn Tryz.prog {} Tryz.f89 = some e89 := by kernel_rfl
theorem e89_nm : (Tryz.f89.name == "runtime.NumGoroutine") = false := by kernel_rfl
abbrev e90n3 := qr [mA 9 0, mA 2 9] .ret
abbrev e90n4 := cd 8 e90n3 .skip
abbrev e90n5 := qr [mA 6 0, zA 7 6, bC 8 .lss 7 2] e90n4
abbrev e90n8 := cd 13 .skip (.exit 0)
abbrev e90n9 := qr [mA 10 3, mA 11 0, zA 12 11, bA 13 .lss 10 12] e90n8
abbrev e90n14 := cd 32 .skip (.exit 2)
abbrev e90n15 := qr [mA 29 5, mA 30 4, zA 31 30, bA 32 .lss 29 31] e90n14
abbrev e90n19 := qr [mA 45 0, mA 46 3, mA 47 4, mA 48 5, aA 49 1 47 48, lA 50 1 49, aA 51 1 45 46, sA 1 51 50] (.reg [mA 52 3, bC 53 .add 52 1, mA 3 53])
abbrev e90n20 := cd 44 e90n19 .skip
abbrev e90n21 := qr [mN 35 4, mN 36 5, aN 37 1 35 36, lR 38 1 37, mN 39 4, mN 40 5, iN 41 (.bin .sub (.t 40) (cI 1)), aN 42 1 39 41, lR 43 1 42, iN 44 (.bin .neq (.t 38) (.t 43))] e90n20
abbrev e90n22 : EC := .block 3 e90n21
abbrev e90n24 : EC := .seq e90n22 (.reg [mA 33 5, bC 34 .add 33 1, mA 5 34])
abbrev e90n25 : EC := .seq e90n15 e90n24
abbrev e90n26 : EC := .loop e90n25
abbrev e90n27 : EC := .block 2 e90n26
abbrev e90n28 := qr [iA 5 (.mov (cI 1))] e90n27
abbrev e90n31 := qr [mA 57 0, mA 58 3, iA 59 (.slc 1 (.t 57) none (some (.t 58)) none), mA 2 59] .ret
abbrev e90n32 := qr [mA 54 0, mA 55 3, iA 56 (.slc 1 (.t 54) (some (.t 55)) none none), ⟨none, none, .clear 0 .undef (.t 56), .any⟩] e90n31
abbrev e90n33 : EC := .seq e90n28 e90n32
abbrev e90n34 := qr [mA 26 0, mA 27 3, iA 28 (.slc 1 (.t 26) (some (.t 27)) none none), mA 4 28] e90n33
abbrev e90n35 := cd 25 e90n34 .skip
abbrev e90n36 := qr [mN 16 0, mN 17 3, aN 18 1 16 17, lR 19 1 18, mN 20 0, mN 21 3, iN 22 (.bin .sub (.t 21) (cI 1)), aN 23 1 20 22, lR 24 1 23, iN 25 (.bin .eql (.t 19) (.t 24))] e90n35
abbrev e90n37 : EC := .block 1 e90n36
abbrev e90n39 : EC := .seq e90n37 (.reg [mA 14 3, bC 15 .add 14 1, mA 3 15])
abbrev e90n40 : EC := .seq e90n9 e90n39
abbrev e90n41 : EC := .loop e90n40
abbrev e90n42 : EC := .block 0 e90n41
abbrev e90n43 := qr [iA 3 (.mov (cI 1))] e90n42
abbrev e90n45 := qr [mA 60 0, mA 2 60] .ret
abbrev e90n46 : EC := .seq e90n43 e90n45
abbrev e90n47 : EC := .seq e90n5 e90n46
abbrev e90n48 := qr [iA 2 (.mov (.c (.sl 1 true [])))] e90n47
abbrev e90 : EF := ⟨61, 1, [(.inl 2)], e90n48⟩
theorem e90_ok : compFn Tryz.prog {} Tryz.f90 = some e90 := by kernel_rfl
theorem e90_nm : (Tryz.f90.name == "runtime.NumGoroutine") = false := by kernel_rfl
abbrev e91n2 := qr [mN 5 0, nN 6 5, fN 7 5 6, lR 8 1 7, fN 9 0 3, lR 10 1 9, fN 11 1 3, lR 12 1 11, iR 13 (cl 94 [(.t 8), (.t 10), (.t 12)]), mN 4 13] .ret
abbrev e91n3 := qr [iA 3 (.box 2 (.t 1)), iA 4 (.mov (cI 0))] e91n2
abbrev e91 : EF := ⟨14, 2, [(.inl 4)], e91n3⟩
theorem e91_ok : compFn Tryz.prog {} Tryz.f91 = some e91 := by kernel_rfl
theorem e91_nm : (Tryz.f91.name == "runtime.NumGoroutine") = false := by kernel_rfl
abbrev e92n2 := qr [mA 5 0, lG 6 2 3, iA 7 (cl 123 [(.t 5), (.t 6)]), bC 8 .geq 7 0, mA 4 8] .ret
abbrev e92n3 := qr [iA 3 (.box 2 (.t 1)), iA 4 (.mov (cB false))] e92n2
abbrev e92 : EF := ⟨9, 2, [(.inl 4)], e92n3⟩
theorem e92_ok : compFn Tryz.prog {} Tryz.f92 = some e92 := by kernel_rfl
theorem e92_nm : (Tryz.f92.name == "runtime.NumGoroutine") = false := by kernel_rfl
abbrev e93n2 := qr [mA 5 1, iA 6 (.mkfn 125 [.t 2]), iA 7 (cl 124 [(.t 5), (.t 6)]), iA 8 (.un .not (.t 7)), mA 4 8] .ret
abbrev e93n3 := qr [iA 2 (.box 1 (.t 0)), iA 4 (.mov (cB false))] e93n2
abbrev e93 : EF := ⟨9, 2, [(.inl 4)], e93n3⟩
theorem e93_ok : compFn Tryz.prog {} Tryz.f93 = some e93 := by kernel_rfl
theorem e93_nm : (Tryz.f93.name == "runtime.NumGoroutine") = false := by kernel_rfl
abbrev e94n3 := cd 16 .skip (.exit 0)
abbrev e94n7 := qr [fA 23 1 8, lA 24 1 23, mA 6 24] .ret
abbrev e94n8 := cd 22 e94n7 .skip
abbrev e94n9 := qr [fA 19 0 8, lA 20 1 19, mA 21 2, bA 22 .eql 20 21] e94n8
abbrev e94n10 := qr [aA 17 2 13 15, lG 18 2 17, iA 8 (.alloc 2 (.agg [(.int .i64 0), (.int .i64 0)])), sA 2 8 18] e94n9
abbrev e94n11 : EC := .block 1 e94n10
abbrev e94n13 : EC := .seq e94n11 (.reg [bC 25 .add 15 1, mA 15 25])
abbrev e94n14 : EC := .seq e94n3 e94n13
abbrev e94n15 := qr [bA 16 .lss 15 14] e94n14
abbrev e94n16 : EC := .loop e94n15
abbrev e94n17 : EC := .block 0 e94n16
abbrev e94n18 := qr [mA 9 0, mA 10 1, aA 11 2 9 10, fA 12 1 11, lA 13 1 12, zA 14 13, iA 15 (.mov (cI 0))] e94n17
abbrev e94n20 := qr [iA 6 (.mov (cI (-1)))] .ret
abbrev e94n21 : EC := .seq e94n18 e94n20
abbrev e94n22 := qr [iA 6 (.mov (cI 0))] e94n21
abbrev e94 : EF := ⟨26, 3, [(.inl 6)], e94n22⟩
theorem e94_ok : compFn Tryz.prog {} Tryz.f94 = some e94 := by kernel_rfl
theorem e94_nm : (Tryz.f94.name == "runtime.NumGoroutine") = false := by kernel_rfl
abbrev e95n3 := cd 12 .skip (.exit 0)
abbrev e95n8 := qr [iA 6 (.mov (cI (-1)))] .ret
abbrev e95n9 := cd 20 e95n8 .skip
abbrev e95n10 := qr [mA 19 1, bC 20 .lss 19 0] e95n9
abbrev e95n11 := qr [mA 15 0, mA 16 1, mA 17 8, iA 18 (cl 94 [(.t 15), (.t 16), (.t 17)]), mA 1 18] e95n10
abbrev e95n12 := qr [aA 13 1 9 11, lA 14 1 13, mA 8 14] e95n11
abbrev e95n13 : EC := .block 1 e95n12
abbrev e95n15 : EC := .seq e95n13 (.reg [bC 21 .add 11 1, mA 11 21])
abbrev e95n16 : EC := .seq e95n3 e95n15
abbrev e95n17 := qr [bA 12 .lss 11 10] e95n16
abbrev e95n18 : EC := .loop e95n17
abbrev e95n19 : EC := .block 0 e95n18
abbrev e95n20 := qr [mA 9 2, zA 10 9, iA 11 (.mov (cI 0))] e95n19
abbrev e95n22 := qr [mA 22 1, mA 6 22] .ret
abbrev e95n23 : EC := .seq e95n20 e95n22
abbrev e95n24 := qr [iA 6 (.mov (cI 0))] e95n23
abbrev e95 : EF := ⟨23, 3, [(.inl 6)], e95n24⟩
theorem e95_ok : compFn Tryz.prog {} Tryz.f95 = some e95 := by kernel_rfl
theorem e95_nm : (Tryz.f95.name == "runtime.NumGoroutine") = false := by kernel_rfl

abbrev e96n2 := qr [mA 3 0, bC 4 .geq 3 0, mA 5 4, gT 6 5 (oM 0), gT 7 5 (.bin .lss (.t 6) (cI 1024)), pA 8 5 7, mA 2 8] .ret
abbrev e96n3 := qr [iA 2 (.mov (cB false))] e96n2
abbrev e96 : EF := ⟨9, 1, [(.inl 2)], e96n3⟩
theorem e96_ok : compFn Tryz.prog {} Tryz.f96 = some e96 := by kernel_rfl
theorem e96_nm : (Tryz.f96.name == "runtime.NumGoroutine") = false := by kernel_rfl
abbrev e97n3 := qr [iA 2 (.mov (cI 64))] .ret
abbrev e97n4 := cd 4 e97n3 .skip
abbrev e97n5 := qr [mA 3 0, iA 4 (.bin .eql (.t 3) (.c (.int .u64 0)))] e97n4
abbrev e97n7 := qr [mA 5 0, mA 6 0, iA 7 (.un .neg (.t 6)), bA 8 .and 5 7, iA 9 (.bin .mul (.t 8) (.c (.int .u64 285870213051353865))), iA 10 (.bin .shr (.t 9) (.c (.int .u64 58))), iA 11 (.iaddrA 64 1 (.c (Glob.G Tryz.prog 0)) (.t 10)), lA 12 1 11, iA 13 (.conv .i64 (.t 12)), mA 2 13] .ret
abbrev e97n8 : EC := .seq e97n5 e97n7
abbrev e97n9 := qr [iA 2 (.mov (cI 0))] e97n8
abbrev e97 : EF := ⟨14, 1, [(.inl 2)], e97n9⟩
theorem e97_ok : compFn Tryz.prog {} Tryz.f97 = some e97 := by kernel_rfl
theorem e97_nm : (Tryz.f97.name == "runtime.NumGoroutine") = false := by kernel_rfl
abbrev e98n3 := cd 13 .skip (.exit 0)
abbrev e98n4 := qr [mA 8 3, bC 9 .add 8 1, fA 10 0 1, lA 11 1 10, iA 12 (.lenS (.t 11)), bA 13 .lss 9 12] e98n3
abbrev e98n7 := qr [iA 2 (.mov (cB false))] .ret
abbrev e98n8 := cd 22 e98n7 .skip
abbrev e98n9 := qr [fA 16 0 1, lA 17 1 16, mA 18 3, mA 19 3, bC 20 .add 19 2, iA 21 (.slcS (.t 17) (some (.t 18)) (some (.t 20))), iA 22 (.bin .eql (.t 21) (.c (.str [37, 125])))] e98n8
abbrev e98n10 : EC := .block 1 e98n9
abbrev e98n12 : EC := .seq e98n10 (.reg [mA 14 3, bC 15 .add 14 1, mA 3 15])
abbrev e98n13 : EC := .seq e98n4 e98n12
abbrev e98n14 : EC := .loop e98n13
abbrev e98n15 : EC := .block 0 e98n14
abbrev e98n16 := qr [iA 3 (.mov (cI 0))] e98n15
abbrev e98n19 := cd 27 .skip (.exit 2)
abbrev e98n20 := qr [mA 23 4, fA 24 1 1, lA 25 1 24, zA 26 25, bA 27 .lss 23 26] e98n19
abbrev e98n23 := qr [iA 2 (.mov (cB false))] .ret
abbrev e98n24 := cd 36 e98n23 .skip
abbrev e98n25 := qr [fA 30 1 1, lA 31 1 30, mA 32 4, aA 33 4 31 32, lG 34 4 33, iA 35 (cl 126 [.t 34]), iA 36 (.un .not (.t 35))] e98n24
abbrev e98n26 : EC := .block 3 e98n25
abbrev e98n28 : EC := .seq e98n26 (.reg [mA 28 4, bC 29 .add 28 1, mA 4 29])
abbrev e98n29 : EC := .seq e98n20 e98n28
abbrev e98n30 : EC := .loop e98n29
abbrev e98n31 : EC := .block 2 e98n30
abbrev e98n32 := qr [iA 4 (.mov (cI 0))] e98n31
abbrev e98n35 := cd 41 .skip (.exit 4)
abbrev e98n36 := qr [mA 37 5, fA 38 2 1, lA 39 1 38, zA 40 39, bA 41 .lss 37 40] e98n35
abbrev e98n40 := qr [iA 2 (.mov (cB false))] .ret
abbrev e98n41 := cd 58 e98n40 .skip
abbrev e98n42 := qr [fA 49 0 6, lA 50 1 49, iA 51 (cl 127 [.t 50]), iA 52 (.un .not (.t 51)), mA 53 52, gF 54 53 (oF 1 6), gF 55 53 (oL 1 54), gF 56 53 (.len (.t 55)), gF 57 53 (.bin .eql (.t 56) (cI 0)), pO 58 53 57] e98n41
abbrev e98n45 := cd 63 .skip (.exit 6)
abbrev e98n46 := qr [mA 59 7, fA 60 1 6, lA 61 1 60, zA 62 61, bA 63 .lss 59 62] e98n45
abbrev e98n49 := qr [iA 2 (.mov (cB false))] .ret
abbrev e98n50 := cd 72 e98n49 .skip
abbrev e98n51 := qr [fA 66 1 6, lA 67 1 66, mA 68 7, aA 69 6 67 68, lG 70 6 69, iA 71 (cl 128 [.t 70]), iA 72 (.un .not (.t 71))] e98n50
abbrev e98n52 : EC := .block 7 e98n51
abbrev e98n54 : EC := .seq e98n52 (.reg [mA 64 7, bC 65 .add 64 1, mA 7 65])
abbrev e98n55 : EC := .seq e98n46 e98n54
abbrev e98n56 : EC := .loop e98n55
abbrev e98n57 : EC := .block 6 e98n56
abbrev e98n58 := qr [iA 7 (.mov (cI 0))] e98n57
abbrev e98n59 : EC := .seq e98n42 e98n58
abbrev e98n60 := qr [fA 44 2 1, lA 45 1 44, mA 46 5, aA 47 3 45 46, lG 48 3 47, iA 6 (.alloc 3 (.agg [(.str []), (.sl 6 true []), (.int .i64 0)])), sA 3 6 48] e98n59
abbrev e98n61 : EC := .block 5 e98n60
abbrev e98n63 : EC := .seq e98n61 (.reg [mA 42 5, bC 43 .add 42 1, mA 5 43])
abbrev e98n64 : EC := .seq e98n36 e98n63
abbrev e98n65 : EC := .loop e98n64
abbrev e98n66 : EC := .block 4 e98n65
abbrev e98n67 := qr [iA 5 (.mov (cI 0))] e98n66
abbrev e98n69 := qr [fA 73 2 1, lA 74 1 73, zA 75 74, bC 76 .gtr 75 0, mA 2 76] .ret
abbrev e98n70 : EC := .seq e98n67 e98n69
abbrev e98n71 : EC := .seq e98n32 e98n70
abbrev e98n72 : EC := .seq e98n16 e98n71
abbrev e98n73 := qr [iA 1 (.box 4 (.t 0)), iA 2 (.mov (cB false))] e98n72
abbrev e98 : EF := ⟨77, 1, [(.inl 2)], e98n73⟩
theorem e98_ok : compFn Tryz.prog {} Tryz.f98 = some e98 := by kernel_rfl
theorem e98_nm : (Tryz.f98.name == "runtime.NumGoroutine") = false := by kernel_rfl
abbrev e101n3 := cd 13 .skip (.exit 0)
abbrev e101n4 := qr [mA 6 5, mA 7 0, nA 8 7, fA 9 0 8, fA 10 0 9, lA 11 1 10, zA 12 11, bA 13 .lss 6 12] e101n3
abbrev e101n7 := qr [mA 46 5, mA 4 46] .ret
abbrev e101n8 := cd 45 e101n7 .skip
abbrev e101n9 := qr [mN 16 0, nN 17 16, fN 18 0 17, fN 19 0 18, lR 20 1 19, mN 21 5, aN 22 6 20 21, fN 23 0 22, lR 24 1 23, fN 25 0 3, lR 26 1 25, iN 27 (.bin .eql (.t 24) (.t 26)), mN 28 27, ⟨(some 29), (some (28, true)), .mov (.t 0), .n⟩, ⟨(some 30), (some (28, true)), .nilck (.t 29), .n⟩, ⟨(some 31), (some (28, true)), .faddr 0 (.t 30), .n⟩, ⟨(some 32), (some (28, true)), .faddr 0 (.t 31), .n⟩, ⟨(some 33), (some (28, true)), .load false 1 (.t 32), .r⟩, ⟨(some 34), (some (28, true)), .mov (.t 5), .n⟩, ⟨(some 35), (some (28, true)), .iaddr 6 (.t 33) (.t 34), .n⟩, ⟨(some 36), (some (28, true)), .faddr 1 (.t 35), .n⟩, ⟨(some 37), (some (28, true)), .load false 1 (.t 36), .r⟩, ⟨(some 38), (some (28, true)), .faddr 1 (.t 3), .n⟩, ⟨(some 39), (some (28, true)), .load false 1 (.t 38), .r⟩, ⟨(some 40), (some (28, true)), .eqb false (.t 37) (.t 39), .n⟩, iN 41 (.pick (.t 28) (.t 40) (cB false)), mN 42 41, ⟨(some 43), (some (42, true)), .mov (.t 5), .n⟩, ⟨(some 44), (some (42, true)), .bin .neq (.t 43) (cI 2), .n⟩, iN 45 (.pick (.t 42) (.t 44) (cB false))] e101n8
abbrev e101n10 : EC := .block 1 e101n9
abbrev e101n12 : EC := .seq e101n10 (.reg [mA 14 5, bC 15 .add 14 1, mA 5 15])
abbrev e101n13 : EC := .seq e101n4 e101n12
abbrev e101n14 : EC := .loop e101n13
abbrev e101n15 : EC := .block 0 e101n14
abbrev e101n16 := qr [iA 5 (.mov (cI 1))] e101n15
abbrev e101n18 := qr [iA 4 (.mov (cI (-1)))] .ret
abbrev e101n19 : EC := .seq e101n16 e101n18
abbrev e101n20 := qr [iA 3 (.box 4 (.t 1)), iA 4 (.mov (cI 0))] e101n19
abbrev e101 : EF := ⟨47, 2, [(.inl 4)], e101n20⟩
theorem e101_ok : compFn Tryz.prog {} Tryz.f101 = some e101 := by kernel_rfl
theorem e101_nm : (Tryz.f101.name == "runtime.NumGoroutine") = false := by kernel_rfl
abbrev e102n3 := cd 12 .skip (.exit 0)
abbrev e102n4 := qr [mA 6 5, mA 7 0, nA 8 7, fA 9 7 8, lA 10 1 9, zA 11 10, bA 12 .lss 6 11] e102n3
abbrev e102n7 := qr [mA 24 5, mA 4 24] .ret
abbrev e102n8 := cd 23 e102n7 .skip
abbrev e102n9 := qr [mA 15 0, nA 16 15, fA 17 7 16, lA 18 1 17, mA 19 5, aA 20 1 18 19, lA 21 1 20, mA 22 1, bA 23 .eql 21 22] e102n8
abbrev e102n10 : EC := .block 1 e102n9
abbrev e102n12 : EC := .seq e102n10 (.reg [mA 13 5, bC 14 .add 13 1, mA 5 14])
abbrev e102n13 : EC := .seq e102n4 e102n12
abbrev e102n14 : EC := .loop e102n13
abbrev e102n15 : EC := .block 0 e102n14
abbrev e102n16 := qr [iA 5 (.mov (cI 0))] e102n15
abbrev e102n18 := qr [iA 4 (.mov (cI (-1)))] .ret
abbrev e102n19 : EC := .seq e102n16 e102n18
abbrev e102n20 := qr [iA 4 (.mov (cI 0))] e102n19
abbrev e102 : EF := ⟨25, 2, [(.inl 4)], e102n20⟩
theorem e102_ok : compFn Tryz.prog {} Tryz.f102 = some e102 := by kernel_rfl
theorem e102_nm : (Tryz.f102.name == "runtime.NumGoroutine") = false := by kernel_rfl
abbrev e103n4 := cd 21 .skip (.exit 0)
abbrev e103n5 := qr [mA 17 7, fA 18 0 5, lA 19 1 18, zA 20 19, bA 21 .lss 17 20] e103n4
abbrev e103n14 := qr [mN 36 0, mN 37 0, nN 38 37, fN 39 0 38, fN 40 2 39, lR 41 1 40, mN 42 0, nN 43 42, fN 44 7 43, lR 45 1 44, iN 46 (.len (.t 45)), mN 47 0, nN 48 47, fN 49 12 48, lR 50 1 49, iN 51 (.bin .add (.t 46) (.t 50)), fN 52 4 8, lR 53 1 52, iN 54 (.lit false 1 false (.int .i64 0) 0 []), fN 55 1 6, lR 56 1 55, ⟨(some 57), none, .append false 1 8 (.t 54) (.t 56), .t⟩, fN 58 5 8, lR 59 1 58, iN 60 (.build [(.int .i64 0), (.sl 1 true []), (.int .i64 0), (.str []), (.sl 1 true []), (.int .i64 0)] [(0, 1, (.t 51)), (2, 1, (cI (-1))), (3, 1, (.t 53)), (4, 1, (.t 57)), (5, 1, (.t 59))]), iN 61 (.lit false 6 true (.agg [(.int .i64 0), (.sl 1 true []), (.int .i64 0), (.str []), (.sl 1 true []), (.int .i64 0)]) 1 [(0, (.t 60))]), ⟨(some 62), none, .append false 6 88 (.t 41) (.t 61), .t⟩, nN 63 36, fN 64 0 63, fN 65 2 64, sW 1 65 62] (.reg [fN 66 1 6, lR 67 1 66, mN 68 0, nN 69 68, fN 70 7 69, lR 71 1 70, iN 72 (.len (.t 71)), iN 73 (.bin .add (cI 1000) (.t 72)), mN 74 0, nN 75 74, fN 76 12 75, lR 77 1 76, iN 78 (.bin .add (.t 73) (.t 77)), iN 79 (.lit false 1 false (.int .i64 0) 1 [(0, (.t 78))]), ⟨(some 80), none, .append false 1 8 (.t 67) (.t 79), .t⟩, fN 81 1 6, sW 1 81 80])
abbrev e103n15 := qr [mA 29 0, nA 30 29, fA 31 12 30, lA 32 1 31, bC 33 .add 32 1, nA 34 29, fA 35 12 34, sA 1 35 33] e103n14
abbrev e103n16 := cd 95 (.reg [fN 102 4 8, ⟨(some 103), none, .load false 1 (.t 102), (.l 13)⟩, fN 104 5 8, ⟨(some 105), none, .load false 1 (.t 104), (.l 13)⟩, fN 106 3 6, ⟨none, none, .store 1 (.t 106) (.t 103), (.s 12)⟩, fN 107 5 6, ⟨none, none, .store 1 (.t 107) (.t 105), (.s 12)⟩]) e103n15
abbrev e103n17 := qr [mA 96 7, bC 97 .add 96 1, fA 98 0 5, lA 99 1 98, zA 100 99, bA 101 .eql 97 100, mA 95 101] e103n16
abbrev e103n18 := cd 82 (.reg [fN 86 1 6, ⟨(some 87), none, .load false 1 (.t 86), (.l 12)⟩, mN 88 0, fN 89 0 8, iR 90 (oG 4 89), ⟨(some 91), none, .call (.c (.fn 131 [])) [(.t 88), (.t 90)], (.v 12)⟩, iN 92 (.lit false 1 false (.int .i64 0) 1 [(0, (.t 91))]), ⟨(some 93), none, .append false 1 8 (.t 87) (.t 92), .t⟩, fN 94 1 6, sW 1 94 93]) e103n17
abbrev e103n19 := qr [fA 83 4 8, lA 84 1 83, iA 85 (.bin .eql (.t 84) (.c (.str []))), mA 82 85] e103n18
abbrev e103n20 : EC := .block 2 e103n19
abbrev e103n21 := qr [fA 24 0 5, lA 25 1 24, mA 26 7, aA 27 6 25 26, lG 28 6 27, iA 8 (.alloc 6 (.agg [(.str []), (.bool false), (.int .i64 0), (.int .i64 0), (.str []), (.int .i64 0)])), sA 6 8 28] e103n20
abbrev e103n22 : EC := .block 1 e103n21
abbrev e103n24 : EC := .seq e103n22 (.reg [mA 22 7, bC 23 .add 22 1, mA 7 23])
abbrev e103n25 : EC := .seq e103n5 e103n24
abbrev e103n26 : EC := .loop e103n25
abbrev e103n27 : EC := .block 0 e103n26
abbrev e103n28 := qr [iA 7 (.mov (cI 0))] e103n27
abbrev e103n31 := cd 112 .skip (.exit 3)
abbrev e103n32 := qr [mA 108 9, fA 109 1 6, lA 110 1 109, zA 111 110, bA 112 .lss 108 111] e103n31
abbrev e103n35 := cd 120 (.reg [fA 121 1 6, lA 122 1 121, mA 123 9, aA 124 1 122 123, lA 125 1 124, fA 126 2 6, sA 1 126 125]) .skip
abbrev e103n36 := qr [fA 115 1 6, lA 116 1 115, mA 117 9, aA 118 1 116 117, lA 119 1 118, bC 120 .lss 119 1000] e103n35
abbrev e103n37 : EC := .block 4 e103n36
abbrev e103n39 : EC := .seq e103n37 (.reg [mA 113 9, bC 114 .add 113 1, mA 9 114])
abbrev e103n40 : EC := .seq e103n32 e103n39
abbrev e103n41 : EC := .loop e103n40
abbrev e103n42 : EC := .block 3 e103n41
abbrev e103n43 := qr [iA 9 (.mov (cI 0))] e103n42
abbrev e103n49 := cd 142 (.reg [mA 143 0, fA 144 1 5, lG 145 4 144, iA 146 (cl 131 [(.t 143), (.t 145)]), fA 147 2 6, sA 1 147 146]) (.reg [mA 148 0, fA 149 1 5, fA 150 3 149, lA 151 1 150, fA 152 1 5, fA 153 0 152, lA 154 1 153, iA 155 (cl 100 [(.t 148), (.t 151), (.t 154)])])
abbrev e103n50 := qr [fA 132 1 5, fA 133 1 132, lA 134 1 133, mA 135 134, gF 136 135 (oM 0), gF 137 135 (oF 1 5), gF 138 135 (oF 0 137), gF 139 135 (oL 1 138), gF 140 135 (cl 102 [(.t 136), (.t 139)]), gF 141 135 (.bin .lss (.t 140) (cI 0)), pO 142 135 141] e103n49
abbrev e103n51 := qr [fA 131 2 6, ⟨none, none, .store 1 (.t 131) (cI (-1)), .any⟩] e103n50
abbrev e103n52 := cd 130 e103n51 .skip
abbrev e103n53 := qr [fA 127 1 5, fA 128 0 127, lA 129 1 128, iA 130 (.bin .neq (.t 129) (.c (.str [])))] e103n52
abbrev e103n56 := qr [iA 156 (.lit false 1 false (.int .i64 0) 0 []), fA 157 1 6, lA 158 1 157, iA 159 (.append false 1 8 (.t 156) (.t 158)), fA 160 4 6, sA 1 160 159] (.reg [mN 161 0, mN 162 0, nN 163 162, fN 164 0 163, fN 165 2 164, lR 166 1 165, iR 167 (oG 6 6), iN 168 (.lit false 6 true (.agg [(.int .i64 0), (.sl 1 true []), (.int .i64 0), (.str []), (.sl 1 true []), (.int .i64 0)]) 1 [(0, (.t 167))]), ⟨(some 169), none, .append false 6 88 (.t 166) (.t 168), .t⟩, nN 170 161, fN 171 0 170, fN 172 2 171, sW 1 172 169])
abbrev e103n57 : EC := .seq e103n53 e103n56
abbrev e103n58 : EC := .seq e103n43 e103n57
abbrev e103n59 : EC := .seq e103n28 e103n58
abbrev e103n60 := qr [mN 10 0, mN 11 1, ⟨(some 12), none, .call (.c (.fn 102 [])) [(.t 10), (.t 11)], .b⟩, iN 13 (.bin .add (cI 1) (.t 12)), fN 14 5 5, lR 15 1 14, iN 16 (.build [(.int .i64 0), (.sl 1 true []), (.int .i64 0), (.str []), (.sl 1 true []), (.int .i64 0)] [(0, 1, (.t 13)), (2, 1, (cI (-1))), (5, 1, (.t 15))]), ⟨(some 6), none, .alloc 6 (.agg [(.int .i64 0), (.sl 1 true []), (.int .i64 0), (.str []), (.sl 1 true []), (.int .i64 0)]), .a⟩, sW 6 6 16] e103n59
abbrev e103n61 := qr [iA 5 (.box 6 (.t 2))] e103n60
abbrev e103 : EF := ⟨173, 3, [], e103n61⟩
theorem e103_ok : compFn Tryz.prog { mu := fun t => [].contains t, cl := fun r i => ([(12, 1, Cls.l 13), (12, 3, Cls.l 13), (12, 5, Cls.s 12), (12, 7, Cls.s 12), (10, 1, Cls.l 12), (10, 5, Cls.v 12), (1, 2, Cls.b), (20, 8, Cls.b), (21, 3, Cls.w), (22, 7, Cls.w)].find? fun x => x.1 == r && x.2.1 == i).map (·.2.2) } Tryz.f103 = some e103 := by kernel_rfl
theorem e103_nm : (Tryz.f103.name == "runtime.NumGoroutine") = false := by kernel_rfl
abbrev e104n3 := cd 12 .skip (.exit 0)
abbrev e104n4 := qr [mA 6 5, mA 7 0, nA 8 7, fA 9 6 8, lA 10 1 9, zA 11 10, bA 12 .lss 6 11] e104n3
abbrev e104n7 := qr [mA 25 5, mA 4 25] .ret
abbrev e104n8 := cd 24 e104n7 .skip
abbrev e104n9 := qr [mA 15 0, nA 16 15, fA 17 6 16, lA 18 1 17, mA 19 5, aA 20 2 18 19, fA 21 0 20, lA 22 1 21, mA 23 1, bA 24 .eql 22 23] e104n8
abbrev e104n10 : EC := .block 1 e104n9
abbrev e104n12 : EC := .seq e104n10 (.reg [mA 13 5, bC 14 .add 13 1, mA 5 14])
abbrev e104n13 : EC := .seq e104n4 e104n12
abbrev e104n14 : EC := .loop e104n13
abbrev e104n15 : EC := .block 0 e104n14
abbrev e104n16 := qr [iA 5 (.mov (cI 0))] e104n15
abbrev e104n18 := qr [iA 4 (.mov (cI (-1)))] .ret
abbrev e104n19 : EC := .seq e104n16 e104n18
abbrev e104n20 := qr [iA 4 (.mov (cI 0))] e104n19
abbrev e104 : EF := ⟨26, 2, [(.inl 4)], e104n20⟩
theorem e104_ok : compFn Tryz.prog {} Tryz.f104 = some e104 := by kernel_rfl
theorem e104_nm : (Tryz.f104.name == "runtime.NumGoroutine") = false := by kernel_rfl
abbrev e106n2 := qr [fN 5 0 3, lR 6 1 5, iN 7 (.bin .geq (.t 6) (cI 0)), mN 8 7, ⟨(some 9), (some (8, true)), .faddr 0 (.t 3), .n⟩, ⟨(some 10), (some (8, true)), .load false 1 (.t 9), .r⟩, ⟨(some 11), (some (8, true)), .faddr 2 (.t 2), .n⟩, ⟨(some 12), (some (8, true)), .load false 1 (.t 11), .r⟩, ⟨(some 13), (some (8, true)), .len (.t 12), .n⟩, ⟨(some 14), (some (8, true)), .bin .lss (.t 10) (.t 13), .n⟩, iN 15 (.pick (.t 8) (.t 14) (cB false)), mN 16 15, ⟨(some 17), (some (16, true)), .faddr 1 (.t 3), .n⟩, ⟨(some 18), (some (16, true)), .load false 1 (.t 17), .r⟩, ⟨(some 19), (some (16, true)), .bin .geq (.t 18) (cI 0), .n⟩, iN 20 (.pick (.t 16) (.t 19) (cB false)), mN 21 20, ⟨(some 22), (some (21, true)), .faddr 1 (.t 3), .n⟩, ⟨(some 23), (some (21, true)), .load false 1 (.t 22), .r⟩, ⟨(some 24), (some (21, true)), .faddr 2 (.t 2), .n⟩, ⟨(some 25), (some (21, true)), .load false 1 (.t 24), .r⟩, ⟨(some 26), (some (21, true)), .faddr 0 (.t 3), .n⟩, ⟨(some 27), (some (21, true)), .load false 1 (.t 26), .r⟩, ⟨(some 28), (some (21, true)), .iaddr 6 (.t 25) (.t 27), .n⟩, ⟨(some 29), (some (21, true)), .faddr 1 (.t 28), .n⟩, ⟨(some 30), (some (21, true)), .load false 1 (.t 29), .r⟩, ⟨(some 31), (some (21, true)), .len (.t 30), .n⟩, ⟨(some 32), (some (21, true)), .bin .leq (.t 23) (.t 31), .n⟩, iN 33 (.pick (.t 21) (.t 32) (cB false)), mN 4 33] .ret
abbrev e106n3 := qr [iA 2 (.box 5 (.t 0)), iA 3 (.box 2 (.t 1)), iA 4 (.mov (cB false))] e106n2
abbrev e106 : EF := ⟨34, 2, [(.inl 4)], e106n3⟩
theorem e106_ok : compFn Tryz.prog {} Tryz.f106 = some e106 := by kernel_rfl
theorem e106_nm : (Tryz.f106.name == "runtime.NumGoroutine") = false := by kernel_rfl
abbrev e107n3 := qr [iA 4 (.mov (cI (-1)))] .ret
abbrev e107n4 := cd 21 e107n3 .skip
abbrev e107n5 := qr [iR 5 (oG 5 2), iR 6 (oG 2 3), iR 7 (cl 106 [(.t 5), (.t 6)]), iN 8 (.un .not (.t 7)), mN 9 8, ⟨(some 10), (some (9, false)), .faddr 1 (.t 3), .n⟩, ⟨(some 11), (some (9, false)), .load false 1 (.t 10), .r⟩, ⟨(some 12), (some (9, false)), .faddr 2 (.t 2), .n⟩, ⟨(some 13), (some (9, false)), .load false 1 (.t 12), .r⟩, ⟨(some 14), (some (9, false)), .faddr 0 (.t 3), .n⟩, ⟨(some 15), (some (9, false)), .load false 1 (.t 14), .r⟩, ⟨(some 16), (some (9, false)), .iaddr 6 (.t 13) (.t 15), .n⟩, ⟨(some 17), (some (9, false)), .faddr 1 (.t 16), .n⟩, ⟨(some 18), (some (9, false)), .load false 1 (.t 17), .r⟩, ⟨(some 19), (some (9, false)), .len (.t 18), .n⟩, ⟨(some 20), (some (9, false)), .bin .eql (.t 11) (.t 19), .n⟩, iN 21 (.pick (.t 9) (cB true) (.t 20))] e107n4
abbrev e107n7 := qr [fN 22 2 2, lR 23 1 22, fN 24 0 3, lR 25 1 24, aN 26 6 23 25, fN 27 1 26, lR 28 1 27, fN 29 1 3, lR 30 1 29, aN 31 1 28 30, lR 32 1 31, mN 4 32] .ret
abbrev e107n8 : EC := .seq e107n5 e107n7
abbrev e107n9 := qr [iA 2 (.box 5 (.t 0)), iA 3 (.box 2 (.t 1)), iA 4 (.mov (cI 0))] e107n8
abbrev e107 : EF := ⟨33, 2, [(.inl 4)], e107n9⟩
theorem e107_ok : compFn Tryz.prog {} Tryz.f107 = some e107 := by kernel_rfl
theorem e107_nm : (Tryz.f107.name == "runtime.NumGoroutine") = false := by kernel_rfl
abbrev e108n2 := qr [mA 5 0, zA 6 5, mA 4 6] (.reg [mA 7 0, mA 8 4, mA 9 4, iA 10 (.conv .u64 (.t 9)), iA 11 (cl 122 [.t 10]), mA 12 1, iA 13 (cl 132 [(.t 7), (cI 0), (.t 8), (.t 11), (.t 12)])])
abbrev e108 : EF := ⟨14, 2, [], e108n2⟩
theorem e108_ok : compFn Tryz.prog {} Tryz.f108 = some e108 := by kernel_rfl
theorem e108_nm : (Tryz.f108.name == "runtime.NumGoroutine") = false := by kernel_rfl
abbrev e109n2 := qr [fN 5 0 2, lR 6 1 5, fN 7 0 3, lR 8 1 7, iR 9 (cl 134 [(.t 6), (.t 8)]), fN 10 1 2, lR 11 1 10, fN 12 1 3, lR 13 1 12, iR 14 (cl 134 [(.t 11), (.t 13)]), iN 15 (.lit false 1 false (.int .i64 0) 2 [(0, (.t 9)), (1, (.t 14))]), iR 16 (cl 133 [.t 15]), mN 4 16] .ret
abbrev e109n3 := qr [iA 2 (.box 2 (.t 0)), iA 3 (.box 2 (.t 1)), iA 4 (.mov (cI 0))] e109n2
abbrev e109 : EF := ⟨17, 2, [(.inl 4)], e109n3⟩
theorem e109_ok : compFn Tryz.prog {} Tryz.f109 = some e109 := by kernel_rfl
theorem e109_nm : (Tryz.f109.name == "runtime.NumGoroutine") = false := by kernel_rfl
abbrev e110n3 := qr [mA 9 0, mA 2 9] .ret
abbrev e110n4 := cd 8 e110n3 .skip
abbrev e110n5 := qr [mA 6 0, zA 7 6, bC 8 .lss 7 2] e110n4
abbrev e110n8 := cd 13 .skip (.exit 0)
abbrev e110n9 := qr [mA 10 3, mA 11 0, zA 12 11, bA 13 .lss 10 12] e110n8
abbrev e110n14 := cd 32 .skip (.exit 2)
abbrev e110n15 := qr [mA 29 5, mA 30 4, zA 31 30, bA 32 .lss 29 31] e110n14
abbrev e110n19 := qr [mA 45 0, mA 46 3, mA 47 4, mA 48 5, aA 49 2 47 48, lG 50 2 49, aA 51 2 45 46, sA 2 51 50] (.reg [mA 52 3, bC 53 .add 52 1, mA 3 53])
abbrev e110n20 := cd 44 e110n19 .skip
abbrev e110n21 := qr [mN 35 4, mN 36 5, aN 37 2 35 36, iR 38 (oG 2 37), mN 39 4, mN 40 5, iN 41 (.bin .sub (.t 40) (cI 1)), aN 42 2 39 41, iR 43 (oG 2 42), iN 44 (.eqagg true [1, 1] (.t 38) (.t 43))] e110n20
abbrev e110n22 : EC := .block 3 e110n21
abbrev e110n24 : EC := .seq e110n22 (.reg [mA 33 5, bC 34 .add 33 1, mA 5 34])
abbrev e110n25 : EC := .seq e110n15 e110n24
abbrev e110n26 : EC := .loop e110n25
abbrev e110n27 : EC := .block 2 e110n26
abbrev e110n28 := qr [iA 5 (.mov (cI 1))] e110n27
abbrev e110n31 := qr [mA 57 0, mA 58 3, iA 59 (.slc 2 (.t 57) none (some (.t 58)) none), mA 2 59] .ret
abbrev e110n32 := qr [mA 54 0, mA 55 3, iA 56 (.slc 2 (.t 54) (some (.t 55)) none none), ⟨none, none, .clear 0 .undef (.t 56), .any⟩] e110n31
abbrev e110n33 : EC := .seq e110n28 e110n32
abbrev e110n34 := qr [mA 26 0, mA 27 3, iA 28 (.slc 2 (.t 26) (some (.t 27)) none none), mA 4 28] e110n33
abbrev e110n35 := cd 25 e110n34 .skip
abbrev e110n36 := qr [mN 16 0, mN 17 3, aN 18 2 16 17, iR 19 (oG 2 18), mN 20 0, mN 21 3, iN 22 (.bin .sub (.t 21) (cI 1)), aN 23 2 20 22, iR 24 (oG 2 23), iN 25 (.eqagg false [1, 1] (.t 19) (.t 24))] e110n35
abbrev e110n37 : EC := .block 1 e110n36
abbrev e110n39 : EC := .seq e110n37 (.reg [mA 14 3, bC 15 .add 14 1, mA 3 15])
abbrev e110n40 : EC := .seq e110n9 e110n39
abbrev e110n41 : EC := .loop e110n40
abbrev e110n42 : EC := .block 0 e110n41
abbrev e110n43 := qr [iA 3 (.mov (cI 1))] e110n42
abbrev e110n45 := qr [mA 60 0, mA 2 60] .ret
abbrev e110n46 : EC := .seq e110n43 e110n45
abbrev e110n47 : EC := .seq e110n5 e110n46
abbrev e110n48 := qr [iA 2 (.mov (.c (.sl 2 true [])))] e110n47
abbrev e110 : EF := ⟨61, 1, [(.inl 2)], e110n48⟩
theorem e110_ok : compFn Tryz.prog {} Tryz.f110 = some e110 := by kernel_rfl
theorem e110_nm : (Tryz.f110.name == "runtime.NumGoroutine") = false := by kernel_rfl
abbrev e115n5 := cd 52 .skip (.exit 0)
abbrev e115n11 := qr [mA 76 0, mA 77 5, iA 78 (cl 115 [(.t 76), (.t 77)])] (.reg [mN 79 0, nN 80 79, fN 81 2 80, lR 82 1 81, mN 83 1, mN 84 0, nN 85 84, fN 86 2 85, lR 87 1 86, mN 88 1, aN 89 1 87 88, lR 90 1 89, mN 91 0, nN 92 91, fN 93 2 92, lR 94 1 93, mN 95 5, aN 96 1 94 95, lR 97 1 96, iN 98 (.minmax false [(.t 90), (.t 97)]), aN 99 1 82 83, sW 1 99 98])
abbrev e115n14 := cd 100 (.reg [mN 109 0, nN 110 109, fN 111 2 110, lR 112 1 111, mN 113 1, mN 114 0, nN 115 114, fN 116 2 115, lR 117 1 116, mN 118 1, aN 119 1 117 118, lR 120 1 119, mN 121 0, nN 122 121, fN 123 1 122, lR 124 1 123, mN 125 5, aN 126 1 124 125, lR 127 1 126, iN 128 (.minmax false [(.t 120), (.t 127)]), aN 129 1 112 113, sW 1 129 128]) .skip
abbrev e115n15 := qr [mA 101 0, nA 102 101, fA 103 4 102, lA 104 1 103, mA 105 5, aA 106 1 104 105, lA 107 1 106, bC 108 .lss 107 0, mA 100 108] e115n14
abbrev e115n16 := cd 67 e115n11 e115n15
abbrev e115n17 := qr [mA 68 0, nA 69 68, fA 70 1 69, lA 71 1 70, mA 72 5, aA 73 1 71 72, lA 74 1 73, bC 75 .eql 74 0, mA 67 75] e115n16
abbrev e115n18 := cd 55 .skip e115n17
abbrev e115n19 := qr [mA 56 5, bC 57 .lss 56 0, mA 58 57, gF 59 58 (oM 5), gF 60 58 (oM 0), gF 61 58 (.nilck (.t 60)), gF 62 58 (oF 0 61), gF 63 58 (oL 1 62), gF 64 58 (.len (.t 63)), gF 65 58 (.bin .geq (.t 59) (.t 64)), pO 66 58 65, mA 55 66] e115n18
abbrev e115n20 : EC := .block 2 e115n19
abbrev e115n21 := qr [aA 53 1 49 51, lA 54 1 53, mA 5 54] e115n20
abbrev e115n22 : EC := .block 1 e115n21
abbrev e115n24 : EC := .seq e115n22 (.reg [bC 130 .add 51 1, mA 51 130])
abbrev e115n25 : EC := .seq e115n5 e115n24
abbrev e115n26 := qr [bA 52 .lss 51 50] e115n25
abbrev e115n27 : EC := .loop e115n26
abbrev e115n28 : EC := .block 0 e115n27
abbrev e115n29 := qr [mA 43 0, nA 44 43, fA 45 0 44, lA 46 1 45, mA 47 1, aA 48 1 46 47, lA 49 1 48, zA 50 49, iA 51 (.mov (cI 0))] e115n28
abbrev e115n32 := cd 145 (.reg [mA 146 0, mA 147 1, iA 148 (cl 135 [(.t 146), (.t 147)])]) .skip
abbrev e115n33 := qr [mN 131 0, nN 132 131, fN 133 2 132, lR 134 1 133, mN 135 1, aN 136 1 134 135, lR 137 1 136, mN 138 0, nN 139 138, fN 140 1 139, lR 141 1 140, mN 142 1, aN 143 1 141 142, lR 144 1 143, iN 145 (.bin .eql (.t 137) (.t 144))] e115n32
abbrev e115n34 : EC := .seq e115n29 e115n33
abbrev e115n35 := qr [mA 33 0, mA 34 0, nA 35 34, fA 36 3 35, lA 37 1 36, mA 38 1, iA 39 (.lit false 1 false (.int .i64 0) 1 [(0, (.t 38))]), iA 40 (.append true 1 8 (.t 37) (.t 39)), nA 41 33, fA 42 3 41, sA 1 42 40] e115n34
abbrev e115n36 := qr [mN 13 0, nN 14 13, fN 15 1 14, lR 16 1 15, mN 17 1, mN 18 0, nN 19 18, fN 20 2 19, lR 21 1 20, mN 22 1, mN 23 0, nN 24 23, fN 25 6 24, lR 26 1 25, mN 27 0, nN 28 27, fN 29 6 28, lR 30 1 29, aN 31 1 16 17, sW 1 31 26, aN 32 1 21 22, sW 1 32 30] e115n35
abbrev e115n37 := qr [mA 6 0, nA 7 6, fA 8 6 7, lA 9 1 8, bC 10 .add 9 1, nA 11 6, fA 12 6 11, sA 1 12 10] e115n36
abbrev e115 : EF := ⟨149, 2, [], e115n37⟩
theorem e115_ok : compFn Tryz.prog { mu := fun t => [40].contains t, cl := fun r i => ([(8, 2, Cls.w), (14, 2, Cls.w)].find? fun x => x.1 == r && x.2.1 == i).map (·.2.2) } Tryz.f115 = some e115 := by kernel_rfl
theorem e115_nm : (Tryz.f115.name == "runtime.NumGoroutine") = false := by kernel_rfl
abbrev e116n4 := cd 10 .skip (.exit 0)
abbrev e116n5 := qr [mA 7 6, mA 8 1, zA 9 8, bA 10 .lss 7 9] e116n4
abbrev e116n8 := cd 18 (.reg [mA 19 5, mA 20 1, mA 21 6, aA 22 2 20 21, lG 23 2 22, iA 24 (cl 117 [(.t 19), (.t 23)]), mA 5 24]) .skip
abbrev e116n9 := qr [iR 13 (oG 5 2), mN 14 1, mN 15 6, aN 16 2 14 15, iR 17 (oG 2 16), iR 18 (cl 118 [(.t 13), (.t 17)])] e116n8
abbrev e116n10 : EC := .block 1 e116n9
abbrev e116n12 : EC := .seq e116n10 (.reg [mA 11 6, bC 12 .add 11 1, mA 6 12])
abbrev e116n13 : EC := .seq e116n5 e116n12
abbrev e116n14 : EC := .loop e116n13
abbrev e116n15 : EC := .block 0 e116n14
abbrev e116n16 := qr [iA 6 (.mov (cI 0))] e116n15
abbrev e116n18 := qr [mA 25 5, mA 4 25] .ret
abbrev e116n19 : EC := .seq e116n16 e116n18
abbrev e116n20 := qr [iA 5 (.mov (.c (.sl 2 true [])))] e116n19
abbrev e116n21 := qr [iA 2 (.box 5 (.t 0)), iA 4 (.mov (.c (.sl 2 true [])))] e116n20
abbrev e116 : EF := ⟨26, 2, [(.inl 4)], e116n21⟩
theorem e116_ok : compFn Tryz.prog {} Tryz.f116 = some e116 := by kernel_rfl
theorem e116_nm : (Tryz.f116.name == "runtime.NumGoroutine") = false := by kernel_rfl
abbrev e117n3 := cd 43 .skip (.exit 0)
abbrev e117n4 := qr [mN 9 5, iN 10 (.bin .gtr (.t 9) (cI 0)), mN 11 10, ⟨(some 12), (some (11, true)), .mov (.t 0), .n⟩, ⟨(some 13), (some (11, true)), .mov (.t 5), .n⟩, ⟨(some 14), (some (11, true)), .bin .sub (.t 13) (cI 1), .n⟩, ⟨(some 15), (some (11, true)), .iaddr 2 (.t 12) (.t 14), .n⟩, ⟨(some 16), (some (11, true)), .faddr 0 (.t 15), .n⟩, ⟨(some 17), (some (11, true)), .load false 1 (.t 16), .r⟩, ⟨(some 18), (some (11, true)), .faddr 0 (.t 3), .n⟩, ⟨(some 19), (some (11, true)), .load false 1 (.t 18), .r⟩, ⟨(some 20), (some (11, true)), .bin .gtr (.t 17) (.t 19), .n⟩, ⟨(some 21), (some (11, true)), .mov (.t 20), .n⟩, ⟨(some 22), (some (21, false)), .mov (.t 0), .n⟩, ⟨(some 23), (some (21, false)), .mov (.t 5), .n⟩, ⟨(some 24), (some (21, false)), .bin .sub (.t 23) (cI 1), .n⟩, ⟨(some 25), (some (21, false)), .iaddr 2 (.t 22) (.t 24), .n⟩, ⟨(some 26), (some (21, false)), .faddr 0 (.t 25), .n⟩, ⟨(some 27), (some (21, false)), .load false 1 (.t 26), .r⟩, ⟨(some 28), (some (21, false)), .faddr 0 (.t 3), .n⟩, ⟨(some 29), (some (21, false)), .load false 1 (.t 28), .r⟩, ⟨(some 30), (some (21, false)), .bin .eql (.t 27) (.t 29), .n⟩, ⟨(some 31), (some (21, false)), .mov (.t 30), .n⟩, ⟨(some 32), (some (31, true)), .mov (.t 0), .n⟩, ⟨(some 33), (some (31, true)), .mov (.t 5), .n⟩, ⟨(some 34), (some (31, true)), .bin .sub (.t 33) (cI 1), .n⟩, ⟨(some 35), (some (31, true)), .iaddr 2 (.t 32) (.t 34), .n⟩, ⟨(some 36), (some (31, true)), .faddr 1 (.t 35), .n⟩, ⟨(some 37), (some (31, true)), .load false 1 (.t 36), .r⟩, ⟨(some 38), (some (31, true)), .faddr 1 (.t 3), .n⟩, ⟨(some 39), (some (31, true)), .load false 1 (.t 38), .r⟩, ⟨(some 40), (some (31, true)), .bin .gtr (.t 37) (.t 39), .n⟩, ⟨(some 41), (some (21, false)), .pick (.t 31) (.t 40) (cB false), .n⟩, ⟨(some 42), (some (11, true)), .pick (.t 21) (cB true) (.t 41), .n⟩, iN 43 (.pick (.t 11) (.t 42) (cB false))] e117n3
abbrev e117n6 : EC := .block 1 (.reg [mA 44 5, bC 45 .sub 44 1, mA 5 45])
abbrev e117n7 : EC := .seq e117n4 e117n6
abbrev e117n8 : EC := .loop e117n7
abbrev e117n9 : EC := .block 0 e117n8
abbrev e117n12 := qr [mA 57 0, mA 4 57] .ret
abbrev e117n13 := cd 56 e117n12 .skip
abbrev e117n14 := qr [mN 46 5, iN 47 (.bin .gtr (.t 46) (cI 0)), mN 48 47, ⟨(some 49), (some (48, true)), .mov (.t 0), .n⟩, ⟨(some 50), (some (48, true)), .mov (.t 5), .n⟩, ⟨(some 51), (some (48, true)), .bin .sub (.t 50) (cI 1), .n⟩, ⟨(some 52), (some (48, true)), .iaddr 2 (.t 49) (.t 51), .n⟩, ⟨(some 53), (some (48, true)), .load true 2 (.t 52), .r⟩, ⟨(some 54), (some (48, true)), .load true 2 (.t 3), .r⟩, ⟨(some 55), (some (48, true)), .eqagg false [1, 1] (.t 53) (.t 54), .n⟩, iN 56 (.pick (.t 48) (.t 55) (cB false))] e117n13
abbrev e117n17 := qr [mN 63 6, iR 64 (oG 2 3), iN 65 (.lit false 2 true (.agg [(.int .i64 0), (.int .i64 0)]) 1 [(0, (.t 64))]), ⟨(some 66), none, .append false 2 16 (.t 63) (.t 65), .t⟩, mN 67 0, mN 68 5, iN 69 (.slc 2 (.t 67) (some (.t 68)) none none), ⟨(some 70), none, .append false 2 16 (.t 66) (.t 69), .t⟩, mN 4 70] .ret
abbrev e117n18 := qr [iA 58 (.lit false 2 true (.agg [(.int .i64 0), (.int .i64 0)]) 0 []), mA 59 0, mA 60 5, iA 61 (.slc 2 (.t 59) none (some (.t 60)) none), iA 62 (.append false 2 16 (.t 58) (.t 61)), mA 6 62] e117n17
abbrev e117n19 : EC := .seq e117n14 e117n18
abbrev e117n20 : EC := .seq e117n9 e117n19
abbrev e117n21 := qr [mA 7 0, zA 8 7, mA 5 8] e117n20
abbrev e117n22 := qr [iA 3 (.box 2 (.t 1)), iA 4 (.mov (.c (.sl 2 true [])))] e117n21
abbrev e117 : EF := ⟨71, 2, [(.inl 4)], e117n22⟩
theorem e117_ok : compFn Tryz.prog {} Tryz.f117 = some e117 := by kernel_rfl
theorem e117_nm : (Tryz.f117.name == "runtime.NumGoroutine") = false := by kernel_rfl
abbrev e118n2 := qr [fN 5 0 3, lR 6 1 5, iN 7 (.bin .geq (.t 6) (cI 0)), mN 8 7, ⟨(some 9), (some (8, true)), .faddr 0 (.t 3), .n⟩, ⟨(some 10), (some (8, true)), .load false 1 (.t 9), .r⟩, ⟨(some 11), (some (8, true)), .faddr 2 (.t 2), .n⟩, ⟨(some 12), (some (8, true)), .load false 1 (.t 11), .r⟩, ⟨(some 13), (some (8, true)), .len (.t 12), .n⟩, ⟨(some 14), (some (8, true)), .bin .lss (.t 10) (.t 13), .n⟩, iN 15 (.pick (.t 8) (.t 14) (cB false)), mN 16 15, ⟨(some 17), (some (16, true)), .faddr 1 (.t 3), .n⟩, ⟨(some 18), (some (16, true)), .load false 1 (.t 17), .r⟩, ⟨(some 19), (some (16, true)), .bin .geq (.t 18) (cI 0), .n⟩, iN 20 (.pick (.t 16) (.t 19) (cB false)), mN 21 20, ⟨(some 22), (some (21, true)), .faddr 1 (.t 3), .n⟩, ⟨(some 23), (some (21, true)), .load false 1 (.t 22), .r⟩, ⟨(some 24), (some (21, true)), .faddr 2 (.t 2), .n⟩, ⟨(some 25), (some (21, true)), .load false 1 (.t 24), .r⟩, ⟨(some 26), (some (21, true)), .faddr 0 (.t 3), .n⟩, ⟨(some 27), (some (21, true)), .load false 1 (.t 26), .r⟩, ⟨(some 28), (some (21, true)), .iaddr 6 (.t 25) (.t 27), .n⟩, ⟨(some 29), (some (21, true)), .faddr 1 (.t 28), .n⟩, ⟨(some 30), (some (21, true)), .load false 1 (.t 29), .r⟩, ⟨(some 31), (some (21, true)), .len (.t 30), .n⟩, ⟨(some 32), (some (21, true)), .bin .leq (.t 23) (.t 31), .n⟩, iN 33 (.pick (.t 21) (.t 32) (cB false)), mN 4 33] .ret
abbrev e118n3 := qr [iA 2 (.box 5 (.t 0)), iA 3 (.box 2 (.t 1)), iA 4 (.mov (cB false))] e118n2
abbrev e118 : EF := ⟨34, 2, [(.inl 4)], e118n3⟩
theorem e118_ok : compFn Tryz.prog {} Tryz.f118 = some e118 := by kernel_rfl
theorem e118_nm : (Tryz.f118.name == "runtime.NumGoroutine") = false := by kernel_rfl
abbrev e119n3 := qr [iA 4 (.mov (cB false))] .ret
abbrev e119n4 := cd 10 e119n3 .skip
abbrev e119n5 := qr [mA 6 0, zA 7 6, mA 8 1, zA 9 8, bA 10 .neq 7 9] e119n4
abbrev e119n8 := cd 14 .skip (.exit 0)
abbrev e119n9 := qr [mA 11 5, mA 12 0, zA 13 12, bA 14 .lss 11 13] e119n8
abbrev e119n12 := qr [iA 4 (.mov (cB false))] .ret
abbrev e119n13 := cd 25 e119n12 .skip
abbrev e119n14 := qr [mN 17 0, mN 18 5, aN 19 2 17 18, iR 20 (oG 2 19), mN 21 1, mN 22 5, aN 23 2 21 22, iR 24 (oG 2 23), iN 25 (.eqagg true [1, 1] (.t 20) (.t 24))] e119n13
abbrev e119n15 : EC := .block 1 e119n14
abbrev e119n17 : EC := .seq e119n15 (.reg [mA 15 5, bC 16 .add 15 1, mA 5 16])
abbrev e119n18 : EC := .seq e119n9 e119n17
abbrev e119n19 : EC := .loop e119n18
abbrev e119n20 : EC := .block 0 e119n19
abbrev e119n21 := qr [iA 5 (.mov (cI 0))] e119n20
abbrev e119n23 := qr [iA 4 (.mov (cB true))] .ret
abbrev e119n24 : EC := .seq e119n21 e119n23
abbrev e119n25 : EC := .seq e119n5 e119n24
abbrev e119n26 := qr [iA 4 (.mov (cB false))] e119n25
abbrev e119 : EF := ⟨26, 2, [(.inl 4)], e119n26⟩
theorem e119_ok : compFn Tryz.prog {} Tryz.f119 = some e119 := by kernel_rfl
theorem e119_nm : (Tryz.f119.name == "runtime.NumGoroutine") = false := by kernel_rfl
abbrev e120n5 := cd 15 .skip (.exit 0)
abbrev e120n6 := qr [mA 15 7] e120n5
abbrev e120n10 := cd 20 .skip (.exit 2)
abbrev e120n14 := cd 33 (.reg [lA 34 1 5, fA 35 0 9, lA 36 1 35, aA 37 1 34 36, ⟨none, none, .store 1 (.t 37) (cB true), .any⟩, iA 7 (.mov (cB true))]) .skip
abbrev e120n15 := qr [lA 23 1 5, fA 24 0 9, lA 25 1 24, aA 26 1 23 25, lA 27 1 26, iA 28 (.un .not (.t 27)), mA 29 28, gT 30 29 (oM 6), gT 31 29 (oG 6 9), gT 32 29 (.call (.t 30) [.t 31]), pA 33 29 32] e120n14
abbrev e120n16 := qr [aA 21 6 17 19, lG 22 6 21, iA 9 (.alloc 6 (.agg [(.int .i64 0), (.sl 1 true []), (.int .i64 0), (.str []), (.sl 1 true []), (.int .i64 0)])), sA 6 9 22] e120n15
abbrev e120n17 : EC := .block 3 e120n16
abbrev e120n19 : EC := .seq e120n17 (.reg [bC 38 .add 19 1, mA 19 38])
abbrev e120n20 : EC := .seq e120n10 e120n19
abbrev e120n21 := qr [bA 20 .lss 19 18] e120n20
abbrev e120n22 : EC := .loop e120n21
abbrev e120n23 : EC := .block 2 e120n22
abbrev e120n24 := qr [fA 16 2 2, lA 17 1 16, zA 18 17, iA 19 (.mov (cI 0))] e120n23
abbrev e120n25 := qr [iA 7 (.mov (cB false))] e120n24
abbrev e120n26 : EC := .block 1 e120n25
abbrev e120n27 : EC := .seq e120n6 e120n26
abbrev e120n28 : EC := .loop e120n27
abbrev e120n29 : EC := .block 0 e120n28
abbrev e120n30 := qr [iA 7 (.mov (cB true))] e120n29
abbrev e120n32 := qr [lA 39 1 5, mA 4 39] .ret
abbrev e120n33 : EC := .seq e120n30 e120n32
abbrev e120n34 := qr [iA 14 (.mkfn 136 [(.t 3), (.t 5)]), mA 6 14] e120n33
abbrev e120n35 := qr [fA 10 1 2, lA 11 1 10, zA 12 11, iA 13 (.mksl true 1 1 (.bool false) (.t 12) (.t 12)), iA 5 (.alloc 1 (.sl 1 true [])), sA 1 5 13] e120n34
abbrev e120n36 := qr [iA 2 (.box 5 (.t 0)), iA 3 (.box 1 (.t 1)), iA 4 (.mov (.c (.sl 1 true [])))] e120n35
abbrev e120 : EF := ⟨40, 2, [(.inl 4)], e120n36⟩
theorem e120_ok : compFn Tryz.prog { mu := fun t => [13].contains t } Tryz.f120 = some e120 := by kernel_rfl
theorem e120_nm : (Tryz.f120.name == "runtime.NumGoroutine") = false := by kernel_rfl
abbrev e121n5 := qr [mA 24 0, mA 25 1, mA 26 2, iA 27 (cl 137 [(.t 24), (.t 25), (.t 26)])] .ret
abbrev e121n6 := cd 23 e121n5 .skip
abbrev e121n7 := qr [mA 22 10, bC 23 .leq 22 12] e121n6
abbrev e121n10 := qr [mA 30 0, mA 31 1, mA 32 2, iA 33 (cl 138 [(.t 30), (.t 31), (.t 32)])] .ret
abbrev e121n11 := cd 29 e121n10 .skip
abbrev e121n12 := qr [mA 28 3, bC 29 .eql 28 0] e121n11
abbrev e121n16 := qr [mA 36 0, mA 37 1, mA 38 2, iA 39 (cl 139 [(.t 36), (.t 37), (.t 38)])] (.reg [mA 40 3, bC 41 .sub 40 1, mA 3 41])
abbrev e121n17 := cd 35 e121n16 .skip
abbrev e121n18 := qr [mA 34 8, iA 35 (.un .not (.t 34))] e121n17
abbrev e121n24 := qr [mA 55 2, bC 56 .sub 55 1, mA 57 11, mA 58 1, bA 59 .sub 57 58, bA 60 .sub 56 59, mA 11 60] (.reg [iA 12 (.mov (cI 1))])
abbrev e121n25 := qr [mA 51 0, mA 52 1, mA 53 2, iA 54 (cl 141 [(.t 51), (.t 52), (.t 53)])] e121n24
abbrev e121n26 := cd 50 e121n25 .skip
abbrev e121n27 := qr [mA 49 12, bC 50 .eql 49 2] e121n26
abbrev e121n30 := cd 72 .ret .skip
abbrev e121n31 := qr [mA 69 0, mA 70 1, mA 71 2, iA 72 (cl 142 [(.t 69), (.t 70), (.t 71)])] e121n30
abbrev e121n32 := cd 68 e121n31 .skip
abbrev e121n33 := qr [mA 61 8, mA 62 61, gT 63 62 (oM 9), pA 64 62 63, mA 65 64, gT 66 65 (oM 12), gT 67 65 (.bin .eql (.t 66) (cI 1)), pA 68 65 67] e121n32
abbrev e121n37 := qr [mA 93 13, mA 1 93] (.exit 1)
abbrev e121n38 := qr [mA 88 0, mA 89 1, mA 90 2, mA 91 11, iA 92 (cl 144 [(.t 88), (.t 89), (.t 90), (.t 91)]), mA 13 92] e121n37
abbrev e121n39 := cd 87 e121n38 .skip
abbrev e121n40 := qr [mN 73 1, iN 74 (.bin .gtr (.t 73) (cI 0)), mN 75 74, ⟨(some 76), (some (75, true)), .mov (.t 0), .n⟩, ⟨(some 77), (some (75, true)), .mov (.t 1), .n⟩, ⟨(some 78), (some (75, true)), .bin .sub (.t 77) (cI 1), .n⟩, ⟨(some 79), (some (75, true)), .iaddr 1 (.t 76) (.t 78), .n⟩, ⟨(some 80), (some (75, true)), .load false 1 (.t 79), .r⟩, ⟨(some 81), (some (75, true)), .mov (.t 0), .n⟩, ⟨(some 82), (some (75, true)), .mov (.t 11), .n⟩, ⟨(some 83), (some (75, true)), .iaddr 1 (.t 81) (.t 82), .n⟩, ⟨(some 84), (some (75, true)), .load false 1 (.t 83), .r⟩, ⟨(some 85), (some (75, true)), .call (.c (.fn 143 [])) [(.t 80), (.t 84)], .r⟩, ⟨(some 86), (some (75, true)), .un .not (.t 85), .n⟩, iN 87 (.pick (.t 75) (.t 86) (cB false))] e121n39
abbrev e121n49 := qr [mA 117 0, mA 118 1, mA 119 14, mA 120 3, iA 121 (cl 121 [(.t 117), (.t 118), (.t 119), (.t 120)])] (.reg [mA 122 14, bC 123 .add 122 1, mA 1 123])
abbrev e121n50 := qr [mA 114 16, mA 115 18, bA 116 .geq 114 115, mA 8 116] e121n49
abbrev e121n54 := qr [mA 127 0, mA 128 14, bC 129 .add 128 1, mA 130 2, mA 131 3, iA 132 (cl 121 [(.t 127), (.t 129), (.t 130), (.t 131)])] (.reg [mA 133 14, mA 2 133])
abbrev e121n55 := qr [mA 124 17, mA 125 18, bA 126 .geq 124 125, mA 8 126] e121n54
abbrev e121n56 := cd 113 e121n50 e121n55
abbrev e121n57 := qr [mA 111 16, mA 112 17, bA 113 .lss 111 112] e121n56
abbrev e121n58 := qr [mA 109 10, bC 110 .quo 109 8, mA 18 110] e121n57
abbrev e121n59 := qr [mA 103 14, mA 104 1, bA 105 .sub 103 104, mA 106 2, mA 107 14, bA 108 .sub 106 107, mA 16 105, mA 17 108] e121n58
abbrev e121n60 := qr [mA 102 15, mA 9 102] e121n59
abbrev e121n61 := qr [mA 95 0, mA 96 1, mA 97 2, mA 98 11, iA 99 (cl 145 [(.t 95), (.t 96), (.t 97), (.t 98)]), mA 94 99, iA 100 (.ext (.t 94) 0), iA 101 (.ext (.t 94) 1), mA 14 100, mA 15 101] e121n60
abbrev e121n62 : EC := .seq e121n40 e121n61
abbrev e121n63 : EC := .seq e121n33 e121n62
abbrev e121n64 : EC := .seq e121n27 e121n63
abbrev e121n65 := qr [mA 43 0, mA 44 1, mA 45 2, iA 46 (cl 140 [(.t 43), (.t 44), (.t 45)]), mA 42 46, iA 47 (.ext (.t 42) 0), iA 48 (.ext (.t 42) 1), mA 11 47, mA 12 48] e121n64
abbrev e121n66 : EC := .seq e121n18 e121n65
abbrev e121n67 : EC := .seq e121n12 e121n66
abbrev e121n68 : EC := .seq e121n7 e121n67
abbrev e121n69 := qr [mA 19 2, mA 20 1, bA 21 .sub 19 20, mA 10 21] e121n68
abbrev e121n70 : EC := .block 1 e121n69
abbrev e121n71 : EC := .loop e121n70
abbrev e121n72 : EC := .block 0 e121n71
abbrev e121n73 := qr [iA 9 (.mov (cB true))] e121n72
abbrev e121n74 := qr [iA 8 (.mov (cB true))] e121n73
abbrev e121 : EF := ⟨134, 4, [], e121n74⟩
theorem e121_ok : compFn Tryz.prog {} Tryz.f121 = some e121 := by kernel_rfl
theorem e121_nm : (Tryz.f121.name == "runtime.NumGoroutine") = false := by kernel_rfl
abbrev e122n2 := qr [mA 3 0, iA 4 (.conv .u32 (.t 3)), iA 5 (cl 146 [.t 4]), mA 2 5] .ret
abbrev e122n3 : EC := .cond (cB false) e122n2 .skip
abbrev e122n5 := qr [mA 6 0, iA 7 (cl 147 [.t 6]), mA 2 7] .ret
abbrev e122n6 : EC := .seq e122n3 e122n5
abbrev e122n7 := qr [iA 2 (.mov (cI 0))] e122n6
abbrev e122 : EF := ⟨8, 1, [(.inl 2)], e122n7⟩
theorem e122_ok : compFn Tryz.prog {} Tryz.f122 = some e122 := by kernel_rfl
theorem e122_nm : (Tryz.f122.name == "runtime.NumGoroutine") = false := by kernel_rfl
abbrev e123n3 := cd 9 .skip (.exit 0)
abbrev e123n7 := qr [mA 17 5, mA 4 17] .ret
abbrev e123n8 := cd 16 e123n7 .skip
abbrev e123n9 := qr [iR 11 (oG 2 3), mN 12 0, mN 13 5, aN 14 2 12 13, iR 15 (oG 2 14), iN 16 (.eqagg false [1, 1] (.t 11) (.t 15))] e123n8
abbrev e123n10 := qr [mA 10 8, mA 5 10] e123n9
abbrev e123n11 : EC := .block 1 e123n10
abbrev e123n13 : EC := .seq e123n11 (.reg [bC 18 .add 8 1, mA 8 18])
abbrev e123n14 : EC := .seq e123n3 e123n13
abbrev e123n15 := qr [bA 9 .lss 8 7] e123n14
abbrev e123n16 : EC := .loop e123n15
abbrev e123n17 : EC := .block 0 e123n16
abbrev e123n18 := qr [mA 6 0, zA 7 6, iA 8 (.mov (cI 0))] e123n17
abbrev e123n20 := qr [iA 4 (.mov (cI (-1)))] .ret
abbrev e123n21 : EC := .seq e123n18 e123n20
abbrev e123n22 := qr [iA 3 (.box 2 (.t 1)), iA 4 (.mov (cI 0))] e123n21
abbrev e123 : EF := ⟨19, 2, [(.inl 4)], e123n22⟩
theorem e123_ok : compFn Tryz.prog {} Tryz.f123 = some e123 := by kernel_rfl
theorem e123_nm : (Tryz.f123.name == "runtime.NumGoroutine") = false := by kernel_rfl
abbrev e124n2 := qr [mA 5 0, mA 6 1, iA 7 (cl 148 [(.t 5), (.t 6)]), bC 8 .geq 7 0, mA 4 8] .ret
abbrev e124n3 := qr [iA 4 (.mov (cB false))] e124n2
abbrev e124 : EF := ⟨9, 2, [(.inl 4)], e124n3⟩
theorem e124_ok : compFn Tryz.prog {} Tryz.f124 = some e124 := by kernel_rfl
theorem e124_nm : (Tryz.f124.name == "runtime.NumGoroutine") = false := by kernel_rfl
abbrev e125n2 := qr [mA 4 0, bC 5 .lss 4 1000, mA 6 5, gF 7 6 (oL 1 1), gF 8 6 (.nilck (.t 7)), gF 9 6 (oF 8 8), gF 10 6 (oL 1 9), gF 11 6 (oM 0), gF 12 6 (.bin .sub (.t 11) (cI 1000)), gF 13 6 (.iaddr 1 (.t 10) (.t 12)), gF 14 6 (oL 1 13), gF 15 6 (.un .not (.t 14)), pO 16 6 15, mA 3 16] .ret
abbrev e125n3 := qr [iA 3 (.mov (cB false))] e125n2
abbrev e125 : EF := ⟨17, 2, [(.inl 3)], e125n3⟩
theorem e125_ok : compFn Tryz.prog {} Tryz.f125 = some e125 := by kernel_rfl
theorem e125_nm : (Tryz.f125.name == "runtime.NumGoroutine") = false := by kernel_rfl
abbrev e127n2 := qr [mA 3 0, iA 4 (.lenS (.t 3)), bC 5 .geq 4 1, mA 6 5, gT 7 6 (oM 0), gT 8 6 (.lenS (.t 7)), gT 9 6 (.bin .leq (.t 8) (cI 20)), pA 10 6 9, mA 11 10, gT 12 11 (oM 0), gT 13 11 (cl 150 [(.t 12), (cI 0)]), gT 14 11 (oM 0), gT 15 11 (.lenS (.t 14)), gT 16 11 (.bin .eql (.t 13) (.t 15)), pA 17 11 16, mA 2 17] .ret
abbrev e127n3 := qr [iA 2 (.mov (cB false))] e127n2
abbrev e127 : EF := ⟨18, 1, [(.inl 2)], e127n3⟩
theorem e127_ok : compFn Tryz.prog {} Tryz.f127 = some e127 := by kernel_rfl
theorem e127_nm : (Tryz.f127.name == "runtime.NumGoroutine") = false := by kernel_rfl
abbrev e128n3 := cd 9 .skip (.exit 0)
abbrev e128n4 := qr [mA 5 3, fA 6 0 1, lA 7 1 6, zA 8 7, bA 9 .lss 5 8] e128n3
abbrev e128n8 := qr [iA 2 (.mov (cB false))] .ret
abbrev e128n9 := cd 45 e128n8 .skip
abbrev e128n10 := qr [fN 17 4 4, lR 18 1 17, iN 19 (.bin .eql (.t 18) (.c (.str []))), mN 20 19, ⟨(some 21), (some (20, true)), .faddr 0 (.t 4), .n⟩, ⟨(some 22), (some (20, true)), .load true 4 (.t 21), .r⟩, ⟨(some 23), (some (20, true)), .call (.c (.fn 149 [])) [(.t 22), (cB false), (cB true)], .r⟩, ⟨(some 24), (some (20, true)), .un .not (.t 23), .n⟩, iN 25 (.pick (.t 20) (.t 24) (cB false)), mN 26 25, ⟨(some 27), (some (26, false)), .faddr 4 (.t 4), .n⟩, ⟨(some 28), (some (26, false)), .load false 1 (.t 27), .r⟩, ⟨(some 29), (some (26, false)), .bin .neq (.t 28) (.c (.str [])), .n⟩, ⟨(some 30), (some (26, false)), .mov (.t 29), .n⟩, ⟨(some 31), (some (30, true)), .faddr 0 (.t 4), .n⟩, ⟨(some 32), (some (30, true)), .load true 4 (.t 31), .r⟩, ⟨(some 33), (some (30, true)), .call (.c (.fn 151 [])) [.t 32], .r⟩, ⟨(some 34), (some (30, true)), .un .not (.t 33), .n⟩, ⟨(some 35), (some (30, true)), .mov (.t 34), .n⟩, ⟨(some 36), (some (35, false)), .faddr 4 (.t 4), .n⟩, ⟨(some 37), (some (35, false)), .load false 1 (.t 36), .r⟩, ⟨(some 38), (some (35, false)), .call (.c (.fn 152 [])) [(.t 37), (cI 0)], .r⟩, ⟨(some 39), (some (35, false)), .faddr 4 (.t 4), .n⟩, ⟨(some 40), (some (35, false)), .load false 1 (.t 39), .r⟩, ⟨(some 41), (some (35, false)), .lenS (.t 40), .n⟩, ⟨(some 42), (some (35, false)), .bin .neq (.t 38) (.t 41), .n⟩, ⟨(some 43), (some (30, true)), .pick (.t 35) (cB true) (.t 42), .n⟩, ⟨(some 44), (some (26, false)), .pick (.t 30) (.t 43) (cB false), .n⟩, iN 45 (.pick (.t 26) (cB true) (.t 44))] e128n9
abbrev e128n11 := qr [fA 12 0 1, lA 13 1 12, mA 14 3, aA 15 6 13 14, lG 16 6 15, iA 4 (.alloc 6 (.agg [(.str []), (.bool false), (.int .i64 0), (.int .i64 0), (.str []), (.int .i64 0)])), sA 6 4 16] e128n10
abbrev e128n12 : EC := .block 1 e128n11
abbrev e128n14 : EC := .seq e128n12 (.reg [mA 10 3, bC 11 .add 10 1, mA 3 11])
abbrev e128n15 : EC := .seq e128n4 e128n14
abbrev e128n16 : EC := .loop e128n15
abbrev e128n17 : EC := .block 0 e128n16
abbrev e128n18 := qr [iA 3 (.mov (cI 0))] e128n17
abbrev e128n20 := qr [fA 46 1 1, lG 47 4 46, iA 48 (cl 151 [.t 47]), mA 49 48, gF 50 49 (oF 1 1), gF 51 49 (oG 4 50), gF 52 49 (cl 149 [(.t 51), (cB false), (cB true)]), pO 53 49 52, mA 2 53] .ret
abbrev e128n21 : EC := .seq e128n18 e128n20
abbrev e128n22 := qr [iA 1 (.box 6 (.t 0)), iA 2 (.mov (cB false))] e128n21
abbrev e128 : EF := ⟨54, 1, [(.inl 2)], e128n22⟩
theorem e128_ok : compFn Tryz.prog {} Tryz.f128 = some e128 := by kernel_rfl
theorem e128_nm : (Tryz.f128.name == "runtime.NumGoroutine") = false := by kernel_rfl
abbrev e129n4 := qr [mA 12 5, mA 4 12] .ret
abbrev e129n5 := cd 11 e129n4 .skip
abbrev e129n6 := qr [mA 10 5, bC 11 .geq 10 0] e129n5
abbrev e129n12 := cd 29 (.reg [mA 30 0, fA 31 3 3, lA 32 1 31, fA 33 0 3, lA 34 1 33, iA 35 (cl 100 [(.t 30), (.t 32), (.t 34)])]) .skip
abbrev e129n13 := qr [mA 25 0, fA 26 2 6, lA 27 1 26, iA 28 (cl 130 [(.t 25), (.t 27)]), bC 29 .geq 28 0] e129n12
abbrev e129n14 := qr [fA 20 0 3, lA 21 1 20, iA 22 (.idxS (.t 21) (cI 0)), iA 23 (.conv .i64 (.t 22)), fA 24 2 6, sA 1 24 23] e129n13
abbrev e129n15 := cd 19 e129n14 .skip
abbrev e129n16 := qr [fA 18 1 3, lA 19 1 18] e129n15
abbrev e129n20 := qr [mA 59 0, nA 60 59, fA 61 0 60, fA 62 0 61, lA 63 1 62, zA 64 63, bC 65 .sub 64 1, mA 4 65] .ret
abbrev e129n21 := qr [mN 48 0, mN 49 0, nN 50 49, fN 51 5 50, lR 52 1 51, fN 53 1 3, lR 54 1 53, iN 55 (.lit false 1 false (.bool false) 1 [(0, (.t 54))]), ⟨(some 56), none, .append true 1 1 (.t 52) (.t 55), .w⟩, nN 57 48, fN 58 5 57, sW 1 58 56] e129n20
abbrev e129n22 := qr [mN 36 0, mN 37 0, nN 38 37, fN 39 0 38, fN 40 0 39, lR 41 1 40, iR 42 (oG 6 6), iN 43 (.lit false 6 true (.agg [(.str []), (.bool false), (.int .i64 0), (.int .i64 0), (.int .i64 0), (.str [])]) 1 [(0, (.t 42))]), ⟨(some 44), none, .append true 6 64 (.t 41) (.t 43), .w⟩, nN 45 36, fN 46 0 45, fN 47 0 46, sW 1 47 44] e129n21
abbrev e129n23 : EC := .seq e129n16 e129n22
abbrev e129n24 := qr [fA 13 0 3, lA 14 1 13, fA 15 1 3, lA 16 1 15, iA 17 (.build [(.str []), (.bool false), (.int .i64 0), (.int .i64 0), (.int .i64 0), (.str [])] [(0, 1, (.t 14)), (1, 1, (.t 16))]), iA 6 (.alloc 6 (.agg [(.str []), (.bool false), (.int .i64 0), (.int .i64 0), (.int .i64 0), (.str [])])), sA 6 6 17] e129n23
abbrev e129n25 : EC := .seq e129n6 e129n24
abbrev e129n26 := qr [mA 7 0, lG 8 4 3, iA 9 (cl 101 [(.t 7), (.t 8)]), mA 5 9] e129n25
abbrev e129n27 := qr [iA 3 (.box 4 (.t 1)), iA 4 (.mov (cI 0))] e129n26
abbrev e129 : EF := ⟨66, 2, [(.inl 4)], e129n27⟩
theorem e129_ok : compFn Tryz.prog { mu := fun t => [44, 56].contains t, cl := fun r i => ([(9, 8, Cls.w), (10, 8, Cls.w), (1, 2, Cls.b), (7, 3, Cls.b), (8, 5, Cls.w)].find? fun x => x.1 == r && x.2.1 == i).map (·.2.2) } Tryz.f129 = some e129 := by kernel_rfl
theorem e129_nm : (Tryz.f129.name == "runtime.NumGoroutine") = false := by kernel_rfl
abbrev e130n3 := cd 13 .skip (.exit 0)
abbrev e130n4 := qr [mA 6 5, mA 7 0, nA 8 7, fA 9 0 8, fA 10 0 9, lA 11 1 10, zA 12 11, bA 13 .lss 6 12] e130n3
abbrev e130n7 := qr [mA 27 5, mA 4 27] .ret
abbrev e130n8 := cd 26 e130n7 .skip
abbrev e130n9 := qr [mA 16 0, nA 17 16, fA 18 0 17, fA 19 0 18, lA 20 1 19, mA 21 5, aA 22 6 20 21, fA 23 2 22, lA 24 1 23, mA 25 1, bA 26 .eql 24 25] e130n8
abbrev e130n10 : EC := .block 1 e130n9
abbrev e130n12 : EC := .seq e130n10 (.reg [mA 14 5, bC 15 .add 14 1, mA 5 15])
abbrev e130n13 : EC := .seq e130n4 e130n12
abbrev e130n14 : EC := .loop e130n13
abbrev e130n15 : EC := .block 0 e130n14
abbrev e130n16 := qr [iA 5 (.mov (cI 3))] e130n15
abbrev e130n18 := qr [iA 4 (.mov (cI (-1)))] .ret
abbrev e130n19 : EC := .seq e130n16 e130n18
abbrev e130n20 := qr [iA 4 (.mov (cI 0))] e130n19
abbrev e130 : EF := ⟨28, 2, [(.inl 4)], e130n20⟩
theorem e130_ok : compFn Tryz.prog {} Tryz.f130 = some e130 := by kernel_rfl
theorem e130_nm : (Tryz.f130.name == "runtime.NumGoroutine") = false := by kernel_rfl
abbrev e131n3 := qr [mA 9 0, lG 10 4 3, iA 11 (cl 129 [(.t 9), (.t 10)]), mA 4 11] .ret
abbrev e131n4 := cd 8 e131n3 .skip
abbrev e131n5 := qr [fA 7 1 3, lA 8 1 7] e131n4
abbrev e131n9 := qr [mA 18 5, iA 19 (.bin .add (cI 1001) (.t 18)), mA 4 19] .ret
abbrev e131n10 := cd 17 e131n9 .skip
abbrev e131n11 := qr [mA 16 5, bC 17 .geq 16 0] e131n10
abbrev e131n12 := qr [mA 12 0, fA 13 0 3, lA 14 1 13, iA 15 (cl 102 [(.t 12), (.t 14)]), mA 5 15] e131n11
abbrev e131n17 := qr [iA 4 (.mov (cI 0))] .ret
abbrev e131n18 := qr [mA 25 0, fA 26 3 3, lA 27 1 26, fA 28 0 3, lA 29 1 28, iA 30 (cl 100 [(.t 25), (.t 27), (.t 29)])] e131n17
abbrev e131n19 := cd 24 e131n18 .skip
abbrev e131n20 := qr [mA 23 6, bC 24 .lss 23 0] e131n19
abbrev e131n22 := qr [mA 31 6, mA 4 31] .ret
abbrev e131n23 : EC := .seq e131n20 e131n22
abbrev e131n24 := qr [mA 20 0, lG 21 4 3, iA 22 (cl 101 [(.t 20), (.t 21)]), mA 6 22] e131n23
abbrev e131n25 : EC := .seq e131n12 e131n24
abbrev e131n26 : EC := .seq e131n5 e131n25
abbrev e131n27 := qr [iA 3 (.box 4 (.t 1)), iA 4 (.mov (cI 0))] e131n26
abbrev e131 : EF := ⟨32, 2, [(.inl 4)], e131n27⟩
theorem e131_ok : compFn Tryz.prog { mu := fun t => [].contains t, cl := fun r i => ([(2, 2, Cls.w), (3, 3, Cls.b), (6, 2, Cls.b), (8, 5, Cls.w)].find? fun x => x.1 == r && x.2.1 == i).map (·.2.2) } Tryz.f131 = some e131 := by kernel_rfl
theorem e131_nm : (Tryz.f131.name == "runtime.NumGoroutine") = false := by kernel_rfl
abbrev e132n5 := qr [mA 26 0, mA 27 1, mA 28 2, mA 29 4, iA 30 (cl 153 [(.t 26), (.t 27), (.t 28), (.t 29)])] .ret
abbrev e132n6 := cd 25 e132n5 .skip
abbrev e132n7 := qr [mA 24 12, bC 25 .leq 24 12] e132n6
abbrev e132n10 := qr [mA 33 0, mA 34 1, mA 35 2, mA 36 4, iA 37 (cl 154 [(.t 33), (.t 34), (.t 35), (.t 36)])] .ret
abbrev e132n11 := cd 32 e132n10 .skip
abbrev e132n12 := qr [mA 31 3, bC 32 .eql 31 0] e132n11
abbrev e132n16 := qr [mA 40 0, mA 41 1, mA 42 2, mA 43 4, iA 44 (cl 155 [(.t 40), (.t 41), (.t 42), (.t 43)])] (.reg [mA 45 3, bC 46 .sub 45 1, mA 3 46])
abbrev e132n17 := cd 39 e132n16 .skip
abbrev e132n18 := qr [mA 38 10, iA 39 (.un .not (.t 38))] e132n17
abbrev e132n24 := qr [mA 62 2, bC 63 .sub 62 1, mA 64 13, mA 65 1, bA 66 .sub 64 65, bA 67 .sub 63 66, mA 13 67] (.reg [iA 14 (.mov (cI 1))])
abbrev e132n25 := qr [mA 57 0, mA 58 1, mA 59 2, mA 60 4, iA 61 (cl 157 [(.t 57), (.t 58), (.t 59), (.t 60)])] e132n24
abbrev e132n26 := cd 56 e132n25 .skip
abbrev e132n27 := qr [mA 55 14, bC 56 .eql 55 2] e132n26
abbrev e132n30 := cd 80 .ret .skip
abbrev e132n31 := qr [mA 76 0, mA 77 1, mA 78 2, mA 79 4, iA 80 (cl 158 [(.t 76), (.t 77), (.t 78), (.t 79)])] e132n30
abbrev e132n32 := cd 75 e132n31 .skip
abbrev e132n33 := qr [mA 68 10, mA 69 68, gT 70 69 (oM 11), pA 71 69 70, mA 72 71, gT 73 72 (oM 14), gT 74 72 (.bin .eql (.t 73) (cI 1)), pA 75 72 74] e132n32
abbrev e132n37 := qr [mA 104 15, mA 1 104] (.exit 1)
abbrev e132n38 := qr [mA 98 0, mA 99 1, mA 100 2, mA 101 13, mA 102 4, iA 103 (cl 159 [(.t 98), (.t 99), (.t 100), (.t 101), (.t 102)]), mA 15 103] e132n37
abbrev e132n39 := cd 97 e132n38 .skip
abbrev e132n40 := qr [mN 81 1, iN 82 (.bin .gtr (.t 81) (cI 0)), mN 83 82, ⟨(some 84), (some (83, true)), .mov (.t 4), .n⟩, ⟨(some 85), (some (83, true)), .mov (.t 0), .n⟩, ⟨(some 86), (some (83, true)), .mov (.t 1), .n⟩, ⟨(some 87), (some (83, true)), .bin .sub (.t 86) (cI 1), .n⟩, ⟨(some 88), (some (83, true)), .iaddr 2 (.t 85) (.t 87), .n⟩, ⟨(some 89), (some (83, true)), .load true 2 (.t 88), .r⟩, ⟨(some 90), (some (83, true)), .mov (.t 0), .n⟩, ⟨(some 91), (some (83, true)), .mov (.t 13), .n⟩, ⟨(some 92), (some (83, true)), .iaddr 2 (.t 90) (.t 91), .n⟩, ⟨(some 93), (some (83, true)), .load true 2 (.t 92), .r⟩, ⟨(some 94), (some (83, true)), .call (.t 84) [(.t 89), (.t 93)], .r⟩, ⟨(some 95), (some (83, true)), .bin .lss (.t 94) (cI 0), .n⟩, ⟨(some 96), (some (83, true)), .un .not (.t 95), .n⟩, iN 97 (.pick (.t 83) (.t 96) (cB false))] e132n39
abbrev e132n49 := qr [mA 129 0, mA 130 1, mA 131 16, mA 132 3, mA 133 4, iA 134 (cl 132 [(.t 129), (.t 130), (.t 131), (.t 132), (.t 133)])] (.reg [mA 135 16, bC 136 .add 135 1, mA 1 136])
abbrev e132n50 := qr [mA 126 18, mA 127 20, bA 128 .geq 126 127, mA 10 128] e132n49
abbrev e132n54 := qr [mA 140 0, mA 141 16, bC 142 .add 141 1, mA 143 2, mA 144 3, mA 145 4, iA 146 (cl 132 [(.t 140), (.t 142), (.t 143), (.t 144), (.t 145)])] (.reg [mA 147 16, mA 2 147])
abbrev e132n55 := qr [mA 137 19, mA 138 20, bA 139 .geq 137 138, mA 10 139] e132n54
abbrev e132n56 := cd 125 e132n50 e132n55
abbrev e132n57 := qr [mA 123 18, mA 124 19, bA 125 .lss 123 124] e132n56
abbrev e132n58 := qr [mA 121 12, bC 122 .quo 121 8, mA 20 122] e132n57
abbrev e132n59 := qr [mA 115 16, mA 116 1, bA 117 .sub 115 116, mA 118 2, mA 119 16, bA 120 .sub 118 119, mA 18 117, mA 19 120] e132n58
abbrev e132n60 := qr [mA 114 17, mA 11 114] e132n59
abbrev e132n61 := qr [mA 106 0, mA 107 1, mA 108 2, mA 109 13, mA 110 4, iA 111 (cl 160 [(.t 106), (.t 107), (.t 108), (.t 109), (.t 110)]), mA 105 111, iA 112 (.ext (.t 105) 0), iA 113 (.ext (.t 105) 1), mA 16 112, mA 17 113] e132n60
abbrev e132n62 : EC := .seq e132n40 e132n61
abbrev e132n63 : EC := .seq e132n33 e132n62
abbrev e132n64 : EC := .seq e132n27 e132n63
abbrev e132n65 := qr [mA 48 0, mA 49 1, mA 50 2, mA 51 4, iA 52 (cl 156 [(.t 48), (.t 49), (.t 50), (.t 51)]), mA 47 52, iA 53 (.ext (.t 47) 0), iA 54 (.ext (.t 47) 1), mA 13 53, mA 14 54] e132n64
abbrev e132n66 : EC := .seq e132n18 e132n65
abbrev e132n67 : EC := .seq e132n12 e132n66
abbrev e132n68 : EC := .seq e132n7 e132n67
abbrev e132n69 := qr [mA 21 2, mA 22 1, bA 23 .sub 21 22, mA 12 23] e132n68
abbrev e132n70 : EC := .block 1 e132n69
abbrev e132n71 : EC := .loop e132n70
abbrev e132n72 : EC := .block 0 e132n71
abbrev e132n73 := qr [iA 11 (.mov (cB true))] e132n72
abbrev e132n74 := qr [iA 10 (.mov (cB true))] e132n73
abbrev e132 : EF := ⟨148, 5, [], e132n74⟩
theorem e132_ok : compFn Tryz.prog {} Tryz.f132 = some e132 := by kernel_rfl
theorem e132_nm : (Tryz.f132.name == "runtime.NumGoroutine") = false := by kernel_rfl
abbrev e133n4 := cd 9 .skip (.exit 0)
abbrev e133n8 := qr [mA 15 5, mA 2 15] .ret
abbrev e133n9 := cd 14 e133n8 .skip
abbrev e133n10 := qr [mA 12 5, mA 13 3, bA 14 .neq 12 13] e133n9
abbrev e133n11 := qr [aA 10 1 6 8, lA 11 1 10, mA 5 11] e133n10
abbrev e133n12 : EC := .block 1 e133n11
abbrev e133n14 : EC := .seq e133n12 (.reg [bC 16 .add 8 1, mA 8 16])
abbrev e133n15 : EC := .seq e133n4 e133n14
abbrev e133n16 := qr [bA 9 .lss 8 7] e133n15
abbrev e133n17 : EC := .loop e133n16
abbrev e133n18 : EC := .block 0 e133n17
abbrev e133n19 := qr [mA 6 0, zA 7 6, iA 8 (.mov (cI 0))] e133n18
abbrev e133n21 := qr [mA 17 3, mA 2 17] .ret
abbrev e133n22 : EC := .seq e133n19 e133n21
abbrev e133n23 := qr [iA 3 (.mov (cI 0))] e133n22
abbrev e133n24 := qr [iA 2 (.mov (cI 0))] e133n23
abbrev e133 : EF := ⟨18, 1, [(.inl 2)], e133n24⟩
theorem e133_ok : compFn Tryz.prog {} Tryz.f133 = some e133 := by kernel_rfl
theorem e133_nm : (Tryz.f133.name == "runtime.NumGoroutine") = false := by kernel_rfl
abbrev e134n6 := qr [iA 4 (.mov (cI 0))] .ret
abbrev e134n7 := cd 12 e134n6 .skip
abbrev e134n8 := qr [mA 12 6] e134n7
abbrev e134n10 := qr [iA 4 (.mov (cI (-1)))] .ret
abbrev e134n11 : EC := .seq e134n8 e134n10
abbrev e134n12 := cd 11 e134n11 .skip
abbrev e134n13 := qr [mA 11 5] e134n12
abbrev e134n16 := qr [iA 4 (.mov (cI 1))] .ret
abbrev e134n17 := cd 13 e134n16 .skip
abbrev e134n18 := qr [mA 13 6] e134n17
abbrev e134n21 := qr [iA 4 (.mov (cI (-1)))] .ret
abbrev e134n22 := cd 16 e134n21 .skip
abbrev e134n23 := qr [mA 14 0, mA 15 1, bA 16 .lss 14 15] e134n22
abbrev e134n26 := qr [iA 4 (.mov (cI 1))] .ret
abbrev e134n27 := cd 19 e134n26 .skip
abbrev e134n28 := qr [mA 17 0, mA 18 1, bA 19 .gtr 17 18] e134n27
abbrev e134n30 := qr [iA 4 (.mov (cI 0))] .ret
abbrev e134n31 : EC := .seq e134n28 e134n30
abbrev e134n32 : EC := .seq e134n23 e134n31
abbrev e134n33 : EC := .seq e134n18 e134n32
abbrev e134n34 : EC := .seq e134n13 e134n33
abbrev e134n35 := qr [mA 9 1, iA 10 (cl 161 [.t 9]), mA 6 10] e134n34
abbrev e134n36 := qr [mA 7 0, iA 8 (cl 161 [.t 7]), mA 5 8] e134n35
abbrev e134n37 := qr [iA 4 (.mov (cI 0))] e134n36
abbrev e134 : EF := ⟨20, 2, [(.inl 4)], e134n37⟩
theorem e134_ok : compFn Tryz.prog {} Tryz.f134 = some e134 := by kernel_rfl
theorem e134_nm : (Tryz.f134.name == "runtime.NumGoroutine") = false := by kernel_rfl
abbrev e135n5 := cd 33 .skip (.exit 0)
abbrev e135n8 := qr [aA 34 1 30 32, lA 35 1 34, mA 7 35] (.reg [mN 36 0, nN 37 36, fN 38 4 37, lR 39 1 38, mN 40 7, mN 41 0, nN 42 41, fN 43 5 42, lR 44 1 43, iN 45 (.len (.t 44)), aN 46 1 39 40, sW 1 46 45])
abbrev e135n9 : EC := .block 1 e135n8
abbrev e135n11 : EC := .seq e135n9 (.reg [bC 47 .add 32 1, mA 32 47])
abbrev e135n12 : EC := .seq e135n5 e135n11
abbrev e135n13 := qr [bA 33 .lss 32 31] e135n12
abbrev e135n14 : EC := .loop e135n13
abbrev e135n15 : EC := .block 0 e135n14
abbrev e135n16 := qr [mA 30 5, zA 31 30, iA 32 (.mov (cI 0))] e135n15
abbrev e135n19 := qr [mA 48 5, iA 49 (cl 89 [.t 48])] (.reg [mA 50 0, mA 51 0, nA 52 51, fA 53 5 52, lA 54 1 53, mA 55 5, iA 56 (.lit false 1 false (.sl 1 true []) 1 [(0, (.t 55))]), iA 57 (.append true 1 24 (.t 54) (.t 56)), nA 58 50, fA 59 5 58, sA 1 59 57])
abbrev e135n20 : EC := .seq e135n16 e135n19
abbrev e135n21 := qr [mA 21 0, mA 22 0, nA 23 22, fA 24 3 23, lA 25 1 24, mA 26 4, iA 27 (.slc 1 (.t 25) none (some (.t 26)) none), nA 28 21, fA 29 3 28, sA 1 29 27] e135n20
abbrev e135n22 := qr [mA 14 0, nA 15 14, fA 16 3 15, lA 17 1 16, mA 18 4, iA 19 (.slc 1 (.t 17) (some (.t 18)) none none), iA 20 (cl 163 [.t 19]), mA 5 20] e135n21
abbrev e135n23 := qr [mA 8 0, nA 9 8, fA 10 3 9, lA 11 1 10, mA 12 1, iA 13 (cl 162 [(.t 11), (.t 12)]), mA 4 13] e135n22
abbrev e135 : EF := ⟨60, 2, [], e135n23⟩
theorem e135_ok : compFn Tryz.prog { mu := fun t => [57].contains t } Tryz.f135 = some e135 := by kernel_rfl
theorem e135_nm : (Tryz.f135.name == "runtime.NumGoroutine") = false := by kernel_rfl
abbrev e136n3 := cd 11 .skip (.exit 0)
abbrev e136n7 := qr [iA 4 (.mov (cB false))] .ret
abbrev e136n8 := cd 31 e136n7 .skip
abbrev e136n9 := qr [mA 14 6, bC 15 .lss 14 1000, mA 16 15, gT 17 16 (oL 1 1), gT 18 16 (.un .not (.t 17)), pA 19 16 18, mA 20 19, gF 21 20 (oM 6), gF 22 20 (.bin .geq (.t 21) (cI 1000)), gF 23 20 (oM 22), gT 24 23 (oL 1 2), gT 25 23 (oM 6), gT 26 23 (.bin .sub (.t 25) (cI 1000)), gT 27 23 (.iaddr 1 (.t 24) (.t 26)), gT 28 23 (oL 1 27), gT 29 23 (.un .not (.t 28)), gF 30 20 (.pick (.t 23) (.t 29) (cB false)), pO 31 20 30] e136n8
abbrev e136n10 := qr [aA 12 1 8 10, lA 13 1 12, mA 6 13] e136n9
abbrev e136n11 : EC := .block 1 e136n10
abbrev e136n13 : EC := .seq e136n11 (.reg [bC 32 .add 10 1, mA 10 32])
abbrev e136n14 : EC := .seq e136n3 e136n13
abbrev e136n15 := qr [bA 11 .lss 10 9] e136n14
abbrev e136n16 : EC := .loop e136n15
abbrev e136n17 : EC := .block 0 e136n16
abbrev e136n18 := qr [fA 7 1 3, lA 8 1 7, zA 9 8, iA 10 (.mov (cI 0))] e136n17
abbrev e136n20 := qr [iA 4 (.mov (cB true))] .ret
abbrev e136n21 : EC := .seq e136n18 e136n20
abbrev e136n22 := qr [iA 3 (.box 6 (.t 0)), iA 4 (.mov (cB false))] e136n21
abbrev e136 : EF := ⟨33, 3, [(.inl 4)], e136n22⟩
theorem e136_ok : compFn Tryz.prog {} Tryz.f136 = some e136 := by kernel_rfl
theorem e136_nm : (Tryz.f136.name == "runtime.NumGoroutine") = false := by kernel_rfl
abbrev e137n2 := cd 12 .skip (.exit 0)
abbrev e137n3 := qr [mA 10 6, mA 11 2, bA 12 .lss 10 11] e137n2
abbrev e137n6 := cd 30 .skip (.exit 2)
abbrev e137n7 := qr [mN 16 7, mN 17 1, iN 18 (.bin .gtr (.t 16) (.t 17)), mN 19 18, ⟨(some 20), (some (19, true)), .mov (.t 0), .n⟩, ⟨(some 21), (some (19, true)), .mov (.t 7), .n⟩, ⟨(some 22), (some (19, true)), .iaddr 1 (.t 20) (.t 21), .n⟩, ⟨(some 23), (some (19, true)), .load false 1 (.t 22), .r⟩, ⟨(some 24), (some (19, true)), .mov (.t 0), .n⟩, ⟨(some 25), (some (19, true)), .mov (.t 7), .n⟩, ⟨(some 26), (some (19, true)), .bin .sub (.t 25) (cI 1), .n⟩, ⟨(some 27), (some (19, true)), .iaddr 1 (.t 24) (.t 26), .n⟩, ⟨(some 28), (some (19, true)), .load false 1 (.t 27), .r⟩, ⟨(some 29), (some (19, true)), .call (.c (.fn 143 [])) [(.t 23), (.t 28)], .r⟩, iN 30 (.pick (.t 19) (.t 29) (cB false))] e137n6
abbrev e137n9 : EC := .block 3 (.reg [mN 33 0, mN 34 7, mN 35 0, mN 36 7, iN 37 (.bin .sub (.t 36) (cI 1)), mN 38 0, mN 39 7, iN 40 (.bin .sub (.t 39) (cI 1)), aN 41 1 38 40, lR 42 1 41, mN 43 0, mN 44 7, aN 45 1 43 44, lR 46 1 45, aN 47 1 33 34, sW 1 47 42, aN 48 1 35 37, sW 1 48 46])
abbrev e137n11 : EC := .seq e137n9 (.reg [mA 31 7, bC 32 .sub 31 1, mA 7 32])
abbrev e137n12 : EC := .seq e137n7 e137n11
abbrev e137n13 : EC := .loop e137n12
abbrev e137n14 : EC := .block 2 e137n13
abbrev e137n15 := qr [mA 15 6, mA 7 15] e137n14
abbrev e137n16 : EC := .block 1 e137n15
abbrev e137n18 : EC := .seq e137n16 (.reg [mA 13 6, bC 14 .add 13 1, mA 6 14])
abbrev e137n19 : EC := .seq e137n3 e137n18
abbrev e137n20 : EC := .loop e137n19
abbrev e137n21 : EC := .block 0 e137n20
abbrev e137n22 := qr [mA 8 1, bC 9 .add 8 1, mA 6 9] e137n21
abbrev e137 : EF := ⟨49, 3, [], e137n22⟩
theorem e137_ok : compFn Tryz.prog {} Tryz.f137 = some e137 := by kernel_rfl
theorem e137_nm : (Tryz.f137.name == "runtime.NumGoroutine") = false := by kernel_rfl
abbrev e143n2 := qr [mA 5 0, iA 6 (cl 161 [.t 5]), mA 7 6, gT 8 7 (oM 1), gT 9 7 (cl 161 [.t 8]), gT 10 7 (.un .not (.t 9)), pA 11 7 10, mA 12 11, gF 13 12 (oM 0), gF 14 12 (oM 1), gF 15 12 (.bin .lss (.t 13) (.t 14)), pO 16 12 15, mA 4 16] .ret
abbrev e143n3 := qr [iA 4 (.mov (cB false))] e143n2
abbrev e143 : EF := ⟨17, 2, [(.inl 4)], e143n3⟩
theorem e143_ok : compFn Tryz.prog {} Tryz.f143 = some e143 := by kernel_rfl
theorem e143_nm : (Tryz.f143.name == "runtime.NumGoroutine") = false := by kernel_rfl
abbrev e147n4 := qr [mA 5 0, iA 6 (.bin .shr (.t 5) (.c (.int .u64 32))), mA 0 6] (.reg [iA 2 (.mov (cI 32))])
abbrev e147n5 := cd 4 e147n4 .skip
abbrev e147n6 := qr [mA 3 0, iA 4 (.bin .geq (.t 3) (.c (.int .u64 4294967296)))] e147n5
abbrev e147n10 := qr [mA 9 0, iA 10 (.bin .shr (.t 9) (.c (.int .u64 16))), mA 0 10] (.reg [mA 11 2, bC 12 .add 11 16, mA 2 12])
abbrev e147n11 := cd 8 e147n10 .skip
abbrev e147n12 := qr [mA 7 0, iA 8 (.bin .geq (.t 7) (.c (.int .u64 65536)))] e147n11
abbrev e147n16 := qr [mA 15 0, iA 16 (.bin .shr (.t 15) (.c (.int .u64 8))), mA 0 16] (.reg [mA 17 2, bC 18 .add 17 8, mA 2 18])
abbrev e147n17 := cd 14 e147n16 .skip
abbrev e147n18 := qr [mA 13 0, iA 14 (.bin .geq (.t 13) (.c (.int .u64 256)))] e147n17
abbrev e147n20 := qr [mA 19 2, mA 20 0, iA 21 (.conv .u8 (.t 20)), iA 22 (.idxS (.c (.str [0, 1, 2, 2, 3, 3, 3, 3, 4, 4, 4, 4, 4, 4, 4, 4, 5, 5, 5, 5, 5, 5, 5, 5, 5, 5, 5, 5, 5, 5, 5, 5, 6, 6, 6, 6, 6, 6, 6, 6, 6, 6, 6, 6, 6, 6, 6, 6, 6, 6, 6, 6, 6, 6, 6, 6, 6, 6, 6, 6, 6, 6, 6, 6, 7, 7, 7, 7, 7, 7, 7, 7, 7, 7, 7, 7, 7, 7, 7, 7, 7, 7, 7, 7, 7, 7, 7, 7, 7, 7, 7, 7, 7, 7, 7, 7, 7, 7, 7, 7, 7, 7, 7, 7, 7, 7, 7, 7, 7, 7, 7, 7, 7, 7, 7, 7, 7, 7, 7, 7, 7, 7, 7, 7, 7, 7, 7, 7, 8, 8, 8, 8, 8, 8, 8, 8, 8, 8, 8, 8, 8, 8, 8, 8, 8, 8, 8, 8, 8, 8, 8, 8, 8, 8, 8, 8, 8, 8, 8, 8, 8, 8, 8, 8, 8, 8, 8, 8, 8, 8, 8, 8, 8, 8, 8, 8, 8, 8, 8, 8, 8, 8, 8, 8, 8, 8, 8, 8, 8, 8, 8, 8, 8, 8, 8, 8, 8, 8, 8, 8, 8, 8, 8, 8, 8, 8, 8, 8, 8, 8, 8, 8, 8, 8, 8, 8, 8, 8, 8, 8, 8, 8, 8, 8, 8, 8, 8, 8, 8, 8, 8, 8, 8, 8, 8, 8, 8, 8, 8, 8, 8, 8, 8, 8, 8, 8, 8, 8, 8, 8, 8, 8, 8, 8, 8, 8])) (.t 21)), iA 23 (.conv .i64 (.t 22)), bA 24 .add 19 23, mA 2 24] .ret
abbrev e147n21 : EC := .seq e147n18 e147n20
abbrev e147n22 : EC := .seq e147n12 e147n21
abbrev e147n23 : EC := .seq e147n6 e147n22
abbrev e147n24 := qr [iA 2 (.mov (cI 0))] e147n23
abbrev e147 : EF := ⟨25, 1, [(.inl 2)], e147n24⟩
theorem e147_ok : compFn Tryz.prog {} Tryz.f147 = some e147 := by kernel_rfl
theorem e147_nm : (Tryz.f147.name == "runtime.NumGoroutine") = false := by kernel_rfl
abbrev e148n3 := cd 9 .skip (.exit 0)
abbrev e148n7 := qr [mA 17 5, mA 4 17] .ret
abbrev e148n8 := cd 16 e148n7 .skip
abbrev e148n9 := qr [mA 11 1, mA 12 0, mA 13 5, aA 14 1 12 13, lA 15 1 14, iA 16 (.call (.t 11) [.t 15])] e148n8
abbrev e148n10 := qr [mA 10 8, mA 5 10] e148n9
abbrev e148n11 : EC := .block 1 e148n10
abbrev e148n13 : EC := .seq e148n11 (.reg [bC 18 .add 8 1, mA 8 18])
abbrev e148n14 : EC := .seq e148n3 e148n13
abbrev e148n15 := qr [bA 9 .lss 8 7] e148n14
abbrev e148n16 : EC := .loop e148n15
abbrev e148n17 : EC := .block 0 e148n16
abbrev e148n18 := qr [mA 6 0, zA 7 6, iA 8 (.mov (cI 0))] e148n17
abbrev e148n20 := qr [iA 4 (.mov (cI (-1)))] .ret
abbrev e148n21 : EC := .seq e148n18 e148n20
abbrev e148n22 := qr [iA 4 (.mov (cI 0))] e148n21
abbrev e148 : EF := ⟨19, 2, [(.inl 4)], e148n22⟩
theorem e148_ok : compFn Tryz.prog {} Tryz.f148 = some e148 := by kernel_rfl
theorem e148_nm : (Tryz.f148.name == "runtime.NumGoroutine") = false := by kernel_rfl
abbrev e149n4 := qr [iA 6 (.mov (cB false))] .ret
abbrev e149n5 := cd 23 e149n4 .skip
abbrev e149n6 := qr [mA 11 2, iA 12 (.un .not (.t 11)), mA 13 12, gF 14 13 (oF 0 3), gF 15 13 (oL 1 14), gF 16 13 (.lenS (.t 15)), gF 17 13 (.bin .neq (.t 16) (cI 1)), pO 18 13 17, mA 19 18, gF 20 19 (oF 2 3), gF 21 19 (oL 1 20), gF 22 19 (.bin .neq (.t 21) (cI 0)), pO 23 19 22] e149n5
abbrev e149n9 := qr [mA 31 8, mA 6 31] .ret
abbrev e149n10 := qr [fA 25 0 3, lA 26 1 25, iA 27 (.idxS (.t 26) (cI 0)), iA 28 (cl 169 [.t 27]), mA 24 28, iA 29 (.ext (.t 24) 0), iA 30 (.ext (.t 24) 1), mA 7 29, mA 8 30] e149n9
abbrev e149n11 : EC := .seq e149n6 e149n10
abbrev e149n12 := cd 10 e149n11 .skip
abbrev e149n13 := qr [fA 9 1 3, lA 10 1 9] e149n12
abbrev e149n15 := qr [fA 32 0 3, lA 33 1 32, iA 34 (cl 127 [.t 33]), mA 35 34, gT 36 35 (oF 2 3), gT 37 35 (oL 1 36), gT 38 35 (.bin .eql (.t 37) (cI 0)), gT 39 35 (oM 38), gF 40 39 (oM 1), gF 41 39 (oM 40), gT 42 41 (oF 2 3), gT 43 41 (oL 1 42), gT 44 41 (.bin .geq (.t 43) (cI 1)), gF 45 39 (.pick (.t 41) (.t 44) (cB false)), gF 46 39 (oM 45), gT 47 46 (oF 2 3), gT 48 46 (oL 1 47), gT 49 46 (.bin .leq (.t 48) (cI 50000)), gF 50 39 (.pick (.t 46) (.t 49) (cB false)), gT 51 35 (.pick (.t 39) (cB true) (.t 50)), pA 52 35 51, mA 6 52] .ret
abbrev e149n16 : EC := .seq e149n13 e149n15
abbrev e149n17 := qr [iA 3 (.box 4 (.t 0)), iA 6 (.mov (cB false))] e149n16
abbrev e149 : EF := ⟨53, 3, [(.inl 6)], e149n17⟩
theorem e149_ok : compFn Tryz.prog {} Tryz.f149 = some e149 := by kernel_rfl
theorem e149_nm : (Tryz.f149.name == "runtime.NumGoroutine") = false := by kernel_rfl
abbrev e150n3 := cd 39 .skip (.exit 0)
abbrev e150n4 := qr [mA 6 1, mA 7 5, bA 8 .add 6 7, mA 9 0, iA 10 (.lenS (.t 9)), bA 11 .lss 8 10, mA 12 11, gT 13 12 (oM 0), gT 14 12 (oM 1), gT 15 12 (oM 5), gT 16 12 (.bin .add (.t 14) (.t 15)), gT 17 12 (.idxS (.t 13) (.t 16)), gT 18 12 (cl 170 [.t 17]), gT 19 12 (oM 18), gF 20 19 (oM 5), gF 21 19 (.bin .gtr (.t 20) (cI 0)), gF 22 19 (oM 21), gT 23 22 (oM 0), gT 24 22 (oM 1), gT 25 22 (oM 5), gT 26 22 (.bin .add (.t 24) (.t 25)), gT 27 22 (.idxS (.t 23) (.t 26)), gT 28 22 (cl 171 [.t 27]), gT 29 22 (oM 28), gF 30 29 (oM 0), gF 31 29 (oM 1), gF 32 29 (oM 5), gF 33 29 (.bin .add (.t 31) (.t 32)), gF 34 29 (.idxS (.t 30) (.t 33)), gF 35 29 (.bin .eql (.t 34) (.c (.int .u8 46))), gT 36 22 (.pick (.t 29) (cB true) (.t 35)), gF 37 19 (.pick (.t 22) (.t 36) (cB false)), gT 38 12 (.pick (.t 19) (cB true) (.t 37)), pA 39 12 38] e150n3
abbrev e150n6 : EC := .block 1 (.reg [mA 40 5, bC 41 .add 40 1, mA 5 41])
abbrev e150n7 : EC := .seq e150n4 e150n6
abbrev e150n8 : EC := .loop e150n7
abbrev e150n9 : EC := .block 0 e150n8
abbrev e150n11 := qr [mA 42 5, mA 4 42] .ret
abbrev e150n12 : EC := .seq e150n9 e150n11
abbrev e150n13 := qr [iA 5 (.mov (cI 0))] e150n12
abbrev e150n14 := qr [iA 4 (.mov (cI 0))] e150n13
abbrev e150 : EF := ⟨43, 2, [(.inl 4)], e150n14⟩
theorem e150_ok : compFn Tryz.prog {} Tryz.f150 = some e150 := by kernel_rfl
theorem e150_nm : (Tryz.f150.name == "runtime.NumGoroutine") = false := by kernel_rfl
abbrev e151n2 := qr [fA 3 0 1, lA 4 1 3, iA 5 (.bin .eql (.t 4) (.c (.str []))), mA 6 5, gT 7 6 (oF 1 1), gT 8 6 (oL 1 7), gT 9 6 (.un .not (.t 8)), pA 10 6 9, mA 11 10, gT 12 11 (oF 2 1), gT 13 11 (oL 1 12), gT 14 11 (.bin .eql (.t 13) (cI 0)), pA 15 11 14, mA 2 15] .ret
abbrev e151n3 := qr [iA 1 (.box 4 (.t 0)), iA 2 (.mov (cB false))] e151n2
abbrev e151 : EF := ⟨16, 1, [(.inl 2)], e151n3⟩
theorem e151_ok : compFn Tryz.prog {} Tryz.f151 = some e151 := by kernel_rfl
theorem e151_nm : (Tryz.f151.name == "runtime.NumGoroutine") = false := by kernel_rfl
abbrev e153n2 := cd 14 .skip (.exit 0)
abbrev e153n3 := qr [mA 12 8, mA 13 2, bA 14 .lss 12 13] e153n2
abbrev e153n6 := cd 34 .skip (.exit 2)
abbrev e153n7 := qr [mN 18 9, mN 19 1, iN 20 (.bin .gtr (.t 18) (.t 19)), mN 21 20, ⟨(some 22), (some (21, true)), .mov (.t 3), .n⟩, ⟨(some 23), (some (21, true)), .mov (.t 0), .n⟩, ⟨(some 24), (some (21, true)), .mov (.t 9), .n⟩, ⟨(some 25), (some (21, true)), .iaddr 2 (.t 23) (.t 24), .n⟩, ⟨(some 26), (some (21, true)), .load true 2 (.t 25), .r⟩, ⟨(some 27), (some (21, true)), .mov (.t 0), .n⟩, ⟨(some 28), (some (21, true)), .mov (.t 9), .n⟩, ⟨(some 29), (some (21, true)), .bin .sub (.t 28) (cI 1), .n⟩, ⟨(some 30), (some (21, true)), .iaddr 2 (.t 27) (.t 29), .n⟩, ⟨(some 31), (some (21, true)), .load true 2 (.t 30), .r⟩, ⟨(some 32), (some (21, true)), .call (.t 22) [(.t 26), (.t 31)], .r⟩, ⟨(some 33), (some (21, true)), .bin .lss (.t 32) (cI 0), .n⟩, iN 34 (.pick (.t 21) (.t 33) (cB false))] e153n6
abbrev e153n9 : EC := .block 3 (.reg [mN 37 0, mN 38 9, mN 39 0, mN 40 9, iN 41 (.bin .sub (.t 40) (cI 1)), mN 42 0, mN 43 9, iN 44 (.bin .sub (.t 43) (cI 1)), aN 45 2 42 44, iR 46 (oG 2 45), mN 47 0, mN 48 9, aN 49 2 47 48, iR 50 (oG 2 49), aN 51 2 37 38, sW 2 51 46, aN 52 2 39 41, sW 2 52 50])
abbrev e153n11 : EC := .seq e153n9 (.reg [mA 35 9, bC 36 .sub 35 1, mA 9 36])
abbrev e153n12 : EC := .seq e153n7 e153n11
abbrev e153n13 : EC := .loop e153n12
abbrev e153n14 : EC := .block 2 e153n13
abbrev e153n15 := qr [mA 17 8, mA 9 17] e153n14
abbrev e153n16 : EC := .block 1 e153n15
abbrev e153n18 : EC := .seq e153n16 (.reg [mA 15 8, bC 16 .add 15 1, mA 8 16])
abbrev e153n19 : EC := .seq e153n3 e153n18
abbrev e153n20 : EC := .loop e153n19
abbrev e153n21 : EC := .block 0 e153n20
abbrev e153n22 := qr [mA 10 1, bC 11 .add 10 1, mA 8 11] e153n21
abbrev e153 : EF := ⟨53, 4, [], e153n22⟩
theorem e153_ok : compFn Tryz.prog {} Tryz.f153 = some e153 := by kernel_rfl
theorem e153_nm : (Tryz.f153.name == "runtime.NumGoroutine") = false := by kernel_rfl
abbrev e156n11 := qr [mA 41 0, mA 42 13, mA 43 3, iA 44 (cl 174 [(.t 41), (.t 42), (.t 11), (.t 43)]), mA 13 44] (.reg [mA 45 0, mA 46 14, mA 47 3, iA 48 (cl 174 [(.t 45), (.t 46), (.t 11), (.t 47)]), mA 14 48])
abbrev e156n12 := qr [mA 37 0, mA 38 12, mA 39 3, iA 40 (cl 174 [(.t 37), (.t 38), (.t 11), (.t 39)]), mA 12 40] e156n11
abbrev e156n13 := cd 36 e156n12 .skip
abbrev e156n14 := qr [mA 35 10, bC 36 .geq 35 50] e156n13
abbrev e156n16 : EC := .seq e156n14 (.reg [mA 49 0, mA 50 12, mA 51 13, mA 52 14, mA 53 3, iA 54 (cl 175 [(.t 49), (.t 50), (.t 51), (.t 52), (.t 11), (.t 53)]), mA 13 54])
abbrev e156n17 := cd 34 e156n16 .skip
abbrev e156n18 := qr [mA 33 10, bC 34 .geq 33 8] e156n17
abbrev e156n22 := qr [mA 59 13, mA 8 59, iA 9 (.mov (cI 1))] .ret
abbrev e156n25 := qr [mA 62 13, mA 8 62, iA 9 (.mov (cI 2))] .ret
abbrev e156n27 := qr [mA 56 13, mA 8 56, iA 9 (.mov (cI 0))] .ret
abbrev e156n28 := cd 60 e156n25 e156n27
abbrev e156n29 := qr [bC 61 .eql 55 12, mA 60 61] e156n28
abbrev e156n30 := cd 57 e156n22 e156n29
abbrev e156n31 := qr [bC 58 .eql 55 0, mA 57 58] e156n30
abbrev e156n32 : EC := .block 0 e156n31
abbrev e156n33 := qr [lA 55 1 11] e156n32
abbrev e156n34 : EC := .seq e156n18 e156n33
abbrev e156n35 := qr [mA 28 1, mA 29 10, bC 30 .quo 29 4, bC 31 .mul 30 3, bA 32 .add 28 31, mA 14 32] e156n34
abbrev e156n36 := qr [mA 23 1, mA 24 10, bC 25 .quo 24 4, bC 26 .mul 25 2, bA 27 .add 23 26, mA 13 27] e156n35
abbrev e156n37 := qr [mA 18 1, mA 19 10, bC 20 .quo 19 4, bC 21 .mul 20 1, bA 22 .add 18 21, mA 12 22] e156n36
abbrev e156n38 := qr [iA 11 (.alloc 1 (.int .i64 0))] e156n37
abbrev e156n39 := qr [mA 15 2, mA 16 1, bA 17 .sub 15 16, mA 10 17] e156n38
abbrev e156n40 := qr [iA 8 (.mov (cI 0)), iA 9 (.mov (cI 0))] e156n39
abbrev e156 : EF := ⟨63, 4, [(.inl 8), (.inl 9)], e156n40⟩
theorem e156_ok : compFn Tryz.prog {} Tryz.f156 = some e156 := by kernel_rfl
theorem e156_nm : (Tryz.f156.name == "runtime.NumGoroutine") = false := by kernel_rfl
abbrev e158n4 := cd 16 .skip (.exit 0)
abbrev e158n5 := qr [mA 15 10, bC 16 .lss 15 5] e158n4
abbrev e158n7 := cd 36 .skip (.exit 2)
abbrev e158n8 := qr [mN 19 9, mN 20 2, iN 21 (.bin .lss (.t 19) (.t 20)), mN 22 21, ⟨(some 23), (some (22, true)), .mov (.t 3), .n⟩, ⟨(some 24), (some (22, true)), .mov (.t 0), .n⟩, ⟨(some 25), (some (22, true)), .mov (.t 9), .n⟩, ⟨(some 26), (some (22, true)), .iaddr 2 (.t 24) (.t 25), .n⟩, ⟨(some 27), (some (22, true)), .load true 2 (.t 26), .r⟩, ⟨(some 28), (some (22, true)), .mov (.t 0), .n⟩, ⟨(some 29), (some (22, true)), .mov (.t 9), .n⟩, ⟨(some 30), (some (22, true)), .bin .sub (.t 29) (cI 1), .n⟩, ⟨(some 31), (some (22, true)), .iaddr 2 (.t 28) (.t 30), .n⟩, ⟨(some 32), (some (22, true)), .load true 2 (.t 31), .r⟩, ⟨(some 33), (some (22, true)), .call (.t 23) [(.t 27), (.t 32)], .r⟩, ⟨(some 34), (some (22, true)), .bin .lss (.t 33) (cI 0), .n⟩, ⟨(some 35), (some (22, true)), .un .not (.t 34), .n⟩, iN 36 (.pick (.t 22) (.t 35) (cB false))] e158n7
abbrev e158n10 : EC := .block 3 (.reg [mA 37 9, bC 38 .add 37 1, mA 9 38])
abbrev e158n11 : EC := .seq e158n8 e158n10
abbrev e158n12 : EC := .loop e158n11
abbrev e158n13 : EC := .block 2 e158n12
abbrev e158n16 := qr [iA 8 (.mov (cB true))] .ret
abbrev e158n17 := cd 41 e158n16 .skip
abbrev e158n18 := qr [mA 39 9, mA 40 2, bA 41 .eql 39 40] e158n17
abbrev e158n21 := qr [iA 8 (.mov (cB false))] .ret
abbrev e158n22 := cd 45 e158n21 .skip
abbrev e158n23 := qr [mA 42 2, mA 43 1, bA 44 .sub 42 43, bC 45 .lss 44 50] e158n22
abbrev e158n28 := cd 69 .skip (.exit 4)
abbrev e158n29 := qr [mA 68 11, bC 69 .geq 68 1] e158n28
abbrev e158n31 := cd 84 (.exit 4) .skip
abbrev e158n32 := qr [mN 72 3, mN 73 0, mN 74 11, aN 75 2 73 74, iR 76 (oG 2 75), mN 77 0, mN 78 11, iN 79 (.bin .sub (.t 78) (cI 1)), aN 80 2 77 79, iR 81 (oG 2 80), iR 82 (.call (.t 72) [(.t 76), (.t 81)]), iN 83 (.bin .lss (.t 82) (cI 0)), iN 84 (.un .not (.t 83))] e158n31
abbrev e158n34 : EC := .seq e158n32 (.reg [mN 85 0, mN 86 11, mN 87 0, mN 88 11, iN 89 (.bin .sub (.t 88) (cI 1)), mN 90 0, mN 91 11, iN 92 (.bin .sub (.t 91) (cI 1)), aN 93 2 90 92, iR 94 (oG 2 93), mN 95 0, mN 96 11, aN 97 2 95 96, iR 98 (oG 2 97), aN 99 2 85 86, sW 2 99 94, aN 100 2 87 89, sW 2 100 98])
abbrev e158n35 : EC := .block 5 e158n34
abbrev e158n37 : EC := .seq e158n35 (.reg [mA 70 11, bC 71 .sub 70 1, mA 11 71])
abbrev e158n38 : EC := .seq e158n29 e158n37
abbrev e158n39 : EC := .loop e158n38
abbrev e158n40 : EC := .block 4 e158n39
abbrev e158n41 := qr [mA 66 9, bC 67 .sub 66 1, mA 11 67] e158n40
abbrev e158n42 := cd 65 e158n41 .skip
abbrev e158n43 := qr [mA 62 9, mA 63 1, bA 64 .sub 62 63, bC 65 .geq 64 2] e158n42
abbrev e158n47 := cd 109 .skip (.exit 6)
abbrev e158n48 := qr [mA 107 12, mA 108 2, bA 109 .lss 107 108] e158n47
abbrev e158n50 := cd 124 (.exit 6) .skip
abbrev e158n51 := qr [mN 112 3, mN 113 0, mN 114 12, aN 115 2 113 114, iR 116 (oG 2 115), mN 117 0, mN 118 12, iN 119 (.bin .sub (.t 118) (cI 1)), aN 120 2 117 119, iR 121 (oG 2 120), iR 122 (.call (.t 112) [(.t 116), (.t 121)]), iN 123 (.bin .lss (.t 122) (cI 0)), iN 124 (.un .not (.t 123))] e158n50
abbrev e158n53 : EC := .seq e158n51 (.reg [mN 125 0, mN 126 12, mN 127 0, mN 128 12, iN 129 (.bin .sub (.t 128) (cI 1)), mN 130 0, mN 131 12, iN 132 (.bin .sub (.t 131) (cI 1)), aN 133 2 130 132, iR 134 (oG 2 133), mN 135 0, mN 136 12, aN 137 2 135 136, iR 138 (oG 2 137), aN 139 2 125 126, sW 2 139 134, aN 140 2 127 129, sW 2 140 138])
abbrev e158n54 : EC := .block 7 e158n53
abbrev e158n56 : EC := .seq e158n54 (.reg [mA 110 12, bC 111 .add 110 1, mA 12 111])
abbrev e158n57 : EC := .seq e158n48 e158n56
abbrev e158n58 : EC := .loop e158n57
abbrev e158n59 : EC := .block 6 e158n58
abbrev e158n60 := qr [mA 105 9, bC 106 .add 105 1, mA 12 106] e158n59
abbrev e158n61 := cd 104 e158n60 .skip
abbrev e158n62 := qr [mA 101 2, mA 102 9, bA 103 .sub 101 102, bC 104 .geq 103 2] e158n61
abbrev e158n63 : EC := .seq e158n43 e158n62
abbrev e158n64 := qr [mN 46 0, mN 47 9, mN 48 0, mN 49 9, iN 50 (.bin .sub (.t 49) (cI 1)), mN 51 0, mN 52 9, iN 53 (.bin .sub (.t 52) (cI 1)), aN 54 2 51 53, iR 55 (oG 2 54), mN 56 0, mN 57 9, aN 58 2 56 57, iR 59 (oG 2 58), aN 60 2 46 47, sW 2 60 55, aN 61 2 48 50, sW 2 61 59] e158n63
abbrev e158n65 : EC := .seq e158n23 e158n64
abbrev e158n66 : EC := .seq e158n18 e158n65
abbrev e158n67 : EC := .seq e158n13 e158n66
abbrev e158n68 : EC := .block 1 e158n67
abbrev e158n70 : EC := .seq e158n68 (.reg [mA 17 10, bC 18 .add 17 1, mA 10 18])
abbrev e158n71 : EC := .seq e158n5 e158n70
abbrev e158n72 : EC := .loop e158n71
abbrev e158n73 : EC := .block 0 e158n72
abbrev e158n74 := qr [iA 10 (.mov (cI 0))] e158n73
abbrev e158n76 := qr [iA 8 (.mov (cB false))] .ret
abbrev e158n77 : EC := .seq e158n74 e158n76
abbrev e158n78 := qr [mA 13 1, bC 14 .add 13 1, mA 9 14] e158n77
abbrev e158n79 := qr [iA 8 (.mov (cB false))] e158n78
abbrev e158 : EF := ⟨141, 4, [(.inl 8)], e158n79⟩
theorem e158_ok : compFn Tryz.prog {} Tryz.f158 = some e158 := by kernel_rfl
theorem e158_nm : (Tryz.f158.name == "runtime.NumGoroutine") = false := by kernel_rfl
abbrev e160n4 := cd 47 .skip (.exit 0)
abbrev e160n5 := qr [mN 32 12, mN 33 13, iN 34 (.bin .leq (.t 32) (.t 33)), mN 35 34, ⟨(some 36), (some (35, true)), .mov (.t 4), .n⟩, ⟨(some 37), (some (35, true)), .mov (.t 0), .n⟩, ⟨(some 38), (some (35, true)), .mov (.t 12), .n⟩, ⟨(some 39), (some (35, true)), .iaddr 2 (.t 37) (.t 38), .n⟩, ⟨(some 40), (some (35, true)), .load true 2 (.t 39), .r⟩, ⟨(some 41), (some (35, true)), .mov (.t 0), .n⟩, ⟨(some 42), (some (35, true)), .mov (.t 1), .n⟩, ⟨(some 43), (some (35, true)), .iaddr 2 (.t 41) (.t 42), .n⟩, ⟨(some 44), (some (35, true)), .load true 2 (.t 43), .r⟩, ⟨(some 45), (some (35, true)), .call (.t 36) [(.t 40), (.t 44)], .r⟩, ⟨(some 46), (some (35, true)), .bin .lss (.t 45) (cI 0), .n⟩, iN 47 (.pick (.t 35) (.t 46) (cB false))] e160n4
abbrev e160n7 : EC := .block 1 (.reg [mA 48 12, bC 49 .add 48 1, mA 12 49])
abbrev e160n8 : EC := .seq e160n5 e160n7
abbrev e160n9 : EC := .loop e160n8
abbrev e160n10 : EC := .block 0 e160n9
abbrev e160n12 := cd 66 .skip (.exit 2)
abbrev e160n13 := qr [mN 50 12, mN 51 13, iN 52 (.bin .leq (.t 50) (.t 51)), mN 53 52, ⟨(some 54), (some (53, true)), .mov (.t 4), .n⟩, ⟨(some 55), (some (53, true)), .mov (.t 0), .n⟩, ⟨(some 56), (some (53, true)), .mov (.t 13), .n⟩, ⟨(some 57), (some (53, true)), .iaddr 2 (.t 55) (.t 56), .n⟩, ⟨(some 58), (some (53, true)), .load true 2 (.t 57), .r⟩, ⟨(some 59), (some (53, true)), .mov (.t 0), .n⟩, ⟨(some 60), (some (53, true)), .mov (.t 1), .n⟩, ⟨(some 61), (some (53, true)), .iaddr 2 (.t 59) (.t 60), .n⟩, ⟨(some 62), (some (53, true)), .load true 2 (.t 61), .r⟩, ⟨(some 63), (some (53, true)), .call (.t 54) [(.t 58), (.t 62)], .r⟩, ⟨(some 64), (some (53, true)), .bin .lss (.t 63) (cI 0), .n⟩, ⟨(some 65), (some (53, true)), .un .not (.t 64), .n⟩, iN 66 (.pick (.t 53) (.t 65) (cB false))] e160n12
abbrev e160n15 : EC := .block 3 (.reg [mA 67 13, bC 68 .sub 67 1, mA 13 68])
abbrev e160n16 : EC := .seq e160n13 e160n15
abbrev e160n17 : EC := .loop e160n16
abbrev e160n18 : EC := .block 2 e160n17
abbrev e160n22 := qr [mA 86 13, mA 10 86, iA 11 (.mov (cB true))] .ret
abbrev e160n23 := qr [mN 72 0, mN 73 13, mN 74 0, mN 75 1, mN 76 0, mN 77 1, aN 78 2 76 77, iR 79 (oG 2 78), mN 80 0, mN 81 13, aN 82 2 80 81, iR 83 (oG 2 82), aN 84 2 72 73, sW 2 84 79, aN 85 2 74 75, sW 2 85 83] e160n22
abbrev e160n24 := cd 71 e160n23 .skip
abbrev e160n25 := qr [mA 69 12, mA 70 13, bA 71 .gtr 69 70] e160n24
abbrev e160n30 := cd 120 .skip (.exit 6)
abbrev e160n31 := qr [mN 105 12, mN 106 13, iN 107 (.bin .leq (.t 105) (.t 106)), mN 108 107, ⟨(some 109), (some (108, true)), .mov (.t 4), .n⟩, ⟨(some 110), (some (108, true)), .mov (.t 0), .n⟩, ⟨(some 111), (some (108, true)), .mov (.t 12), .n⟩, ⟨(some 112), (some (108, true)), .iaddr 2 (.t 110) (.t 111), .n⟩, ⟨(some 113), (some (108, true)), .load true 2 (.t 112), .r⟩, ⟨(some 114), (some (108, true)), .mov (.t 0), .n⟩, ⟨(some 115), (some (108, true)), .mov (.t 1), .n⟩, ⟨(some 116), (some (108, true)), .iaddr 2 (.t 114) (.t 115), .n⟩, ⟨(some 117), (some (108, true)), .load true 2 (.t 116), .r⟩, ⟨(some 118), (some (108, true)), .call (.t 109) [(.t 113), (.t 117)], .r⟩, ⟨(some 119), (some (108, true)), .bin .lss (.t 118) (cI 0), .n⟩, iN 120 (.pick (.t 108) (.t 119) (cB false))] e160n30
abbrev e160n33 : EC := .block 7 (.reg [mA 121 12, bC 122 .add 121 1, mA 12 122])
abbrev e160n34 : EC := .seq e160n31 e160n33
abbrev e160n35 : EC := .loop e160n34
abbrev e160n36 : EC := .block 6 e160n35
abbrev e160n38 := cd 139 .skip (.exit 8)
abbrev e160n39 := qr [mN 123 12, mN 124 13, iN 125 (.bin .leq (.t 123) (.t 124)), mN 126 125, ⟨(some 127), (some (126, true)), .mov (.t 4), .n⟩, ⟨(some 128), (some (126, true)), .mov (.t 0), .n⟩, ⟨(some 129), (some (126, true)), .mov (.t 13), .n⟩, ⟨(some 130), (some (126, true)), .iaddr 2 (.t 128) (.t 129), .n⟩, ⟨(some 131), (some (126, true)), .load true 2 (.t 130), .r⟩, ⟨(some 132), (some (126, true)), .mov (.t 0), .n⟩, ⟨(some 133), (some (126, true)), .mov (.t 1), .n⟩, ⟨(some 134), (some (126, true)), .iaddr 2 (.t 132) (.t 133), .n⟩, ⟨(some 135), (some (126, true)), .load true 2 (.t 134), .r⟩, ⟨(some 136), (some (126, true)), .call (.t 127) [(.t 131), (.t 135)], .r⟩, ⟨(some 137), (some (126, true)), .bin .lss (.t 136) (cI 0), .n⟩, ⟨(some 138), (some (126, true)), .un .not (.t 137), .n⟩, iN 139 (.pick (.t 126) (.t 138) (cB false))] e160n38
abbrev e160n41 : EC := .block 9 (.reg [mA 140 13, bC 141 .sub 140 1, mA 13 141])
abbrev e160n42 : EC := .seq e160n39 e160n41
abbrev e160n43 : EC := .loop e160n42
abbrev e160n44 : EC := .block 8 e160n43
abbrev e160n46 := cd 144 (.exit 4) .skip
abbrev e160n47 := qr [mA 142 12, mA 143 13, bA 144 .gtr 142 143] e160n46
abbrev e160n51 := qr [mA 159 12, bC 160 .add 159 1, mA 12 160] (.reg [mA 161 13, bC 162 .sub 161 1, mA 13 162])
abbrev e160n52 := qr [mN 145 0, mN 146 12, mN 147 0, mN 148 13, mN 149 0, mN 150 13, aN 151 2 149 150, iR 152 (oG 2 151), mN 153 0, mN 154 12, aN 155 2 153 154, iR 156 (oG 2 155), aN 157 2 145 146, sW 2 157 152, aN 158 2 147 148, sW 2 158 156] e160n51
abbrev e160n53 : EC := .seq e160n47 e160n52
abbrev e160n54 : EC := .seq e160n44 e160n53
abbrev e160n55 : EC := .seq e160n36 e160n54
abbrev e160n56 : EC := .block 5 e160n55
abbrev e160n57 : EC := .loop e160n56
abbrev e160n58 : EC := .block 4 e160n57
abbrev e160n61 := qr [mA 177 13, mA 10 177, iA 11 (.mov (cB false))] .ret
abbrev e160n62 := qr [mN 163 0, mN 164 13, mN 165 0, mN 166 1, mN 167 0, mN 168 1, aN 169 2 167 168, iR 170 (oG 2 169), mN 171 0, mN 172 13, aN 173 2 171 172, iR 174 (oG 2 173), aN 175 2 163 164, sW 2 175 170, aN 176 2 165 166, sW 2 176 174] e160n61
abbrev e160n63 : EC := .seq e160n58 e160n62
abbrev e160n64 := qr [mA 103 13, bC 104 .sub 103 1, mA 13 104] e160n63
abbrev e160n65 := qr [mA 101 12, bC 102 .add 101 1, mA 12 102] e160n64
abbrev e160n66 := qr [mN 87 0, mN 88 12, mN 89 0, mN 90 13, mN 91 0, mN 92 13, aN 93 2 91 92, iR 94 (oG 2 93), mN 95 0, mN 96 12, aN 97 2 95 96, iR 98 (oG 2 97), aN 99 2 87 88, sW 2 99 94, aN 100 2 89 90, sW 2 100 98] e160n65
abbrev e160n67 : EC := .seq e160n25 e160n66
abbrev e160n68 : EC := .seq e160n18 e160n67
abbrev e160n69 : EC := .seq e160n10 e160n68
abbrev e160n70 := qr [mA 28 1, bC 29 .add 28 1, mA 30 2, bC 31 .sub 30 1, mA 12 29, mA 13 31] e160n69
abbrev e160n71 := qr [mN 14 0, mN 15 1, mN 16 0, mN 17 3, mN 18 0, mN 19 3, aN 20 2 18 19, iR 21 (oG 2 20), mN 22 0, mN 23 1, aN 24 2 22 23, iR 25 (oG 2 24), aN 26 2 14 15, sW 2 26 21, aN 27 2 16 17, sW 2 27 25] e160n70
abbrev e160n72 := qr [iA 10 (.mov (cI 0)), iA 11 (.mov (cB false))] e160n71
abbrev e160 : EF := ⟨178, 5, [(.inl 10), (.inl 11)], e160n72⟩
theorem e160_ok : compFn Tryz.prog {} Tryz.f160 = some e160 := by kernel_rfl
theorem e160_nm : (Tryz.f160.name == "runtime.NumGoroutine") = false := by kernel_rfl
abbrev e161n2 := qr [mA 3 0, mA 4 0, bA 5 .neq 3 4, mA 2 5] .ret
abbrev e161n3 := qr [iA 2 (.mov (cB false))] e161n2
abbrev e161 : EF := ⟨6, 1, [(.inl 2)], e161n3⟩
theorem e161_ok : compFn Tryz.prog {} Tryz.f161 = some e161 := by kernel_rfl
theorem e161_nm : (Tryz.f161.name == "runtime.NumGoroutine") = false := by kernel_rfl
abbrev e162n3 := cd 9 .skip (.exit 0)
abbrev e162n7 := qr [mA 17 5, mA 4 17] .ret
abbrev e162n8 := cd 16 e162n7 .skip
abbrev e162n9 := qr [mA 11 1, mA 12 0, mA 13 5, aA 14 1 12 13, lA 15 1 14, bA 16 .eql 11 15] e162n8
abbrev e162n10 := qr [mA 10 8, mA 5 10] e162n9
abbrev e162n11 : EC := .block 1 e162n10
abbrev e162n13 : EC := .seq e162n11 (.reg [bC 18 .add 8 1, mA 8 18])
abbrev e162n14 : EC := .seq e162n3 e162n13
abbrev e162n15 := qr [bA 9 .lss 8 7] e162n14
abbrev e162n16 : EC := .loop e162n15
abbrev e162n17 : EC := .block 0 e162n16
abbrev e162n18 := qr [mA 6 0, zA 7 6, iA 8 (.mov (cI 0))] e162n17
abbrev e162n20 := qr [iA 4 (.mov (cI (-1)))] .ret
abbrev e162n21 : EC := .seq e162n18 e162n20
abbrev e162n22 := qr [iA 4 (.mov (cI 0))] e162n21
abbrev e162 : EF := ⟨19, 2, [(.inl 4)], e162n22⟩
theorem e162_ok : compFn Tryz.prog {} Tryz.f162 = some e162 := by kernel_rfl
theorem e162_nm : (Tryz.f162.name == "runtime.NumGoroutine") = false := by kernel_rfl
abbrev e163n3 := qr [iA 2 (.mov (.c (.sl 1 true [])))] .ret
abbrev e163n4 := cd 4 e163n3 .skip
abbrev e163n5 := qr [mA 3 0, iA 4 (.eqnil false (.t 3))] e163n4
abbrev e163n7 := qr [iA 5 (.lit false 1 false (.int .i64 0) 0 []), mA 6 0, iA 7 (.append true 1 8 (.t 5) (.t 6)), mA 2 7] .ret
abbrev e163n8 : EC := .seq e163n5 e163n7
abbrev e163n9 := qr [iA 2 (.mov (.c (.sl 1 true [])))] e163n8
abbrev e163 : EF := ⟨8, 1, [(.inl 2)], e163n9⟩
theorem e163_ok : compFn Tryz.prog { mu := fun t => [7].contains t } Tryz.f163 = some e163 := by kernel_rfl
theorem e163_nm : (Tryz.f163.name == "runtime.NumGoroutine") = false := by kernel_rfl
abbrev e169n4 := qr [iA 2 (.mov (.c (.int .u8 110))), iA 3 (.mov (cB true))] .ret
abbrev e169n7 := qr [iA 2 (.mov (.c (.int .u8 116))), iA 3 (.mov (cB true))] .ret
abbrev e169n10 := qr [iA 2 (.mov (.c (.int .u8 114))), iA 3 (.mov (cB true))] .ret
abbrev e169n13 := cd 11 .skip (.reg [iA 13 (.bin .eql (.t 4) (.c (.int .u8 39))), mA 11 13])
abbrev e169n14 := qr [iA 12 (.bin .eql (.t 4) (.c (.int .u8 92))), mA 11 12] e169n13
abbrev e169n16 := qr [mA 14 0, mA 2 14, iA 3 (.mov (cB true))] .ret
abbrev e169n17 := cd 11 e169n16 .skip
abbrev e169n18 : EC := .seq e169n14 e169n17
abbrev e169n19 := cd 9 e169n10 e169n18
abbrev e169n20 := qr [iA 10 (.bin .eql (.t 4) (.c (.int .u8 13))), mA 9 10] e169n19
abbrev e169n21 := cd 7 e169n7 e169n20
abbrev e169n22 := qr [iA 8 (.bin .eql (.t 4) (.c (.int .u8 9))), mA 7 8] e169n21
abbrev e169n23 := cd 5 e169n4 e169n22
abbrev e169n24 := qr [iA 6 (.bin .eql (.t 4) (.c (.int .u8 10))), mA 5 6] e169n23
abbrev e169n25 : EC := .block 0 e169n24
abbrev e169n26 := qr [mA 4 0] e169n25
abbrev e169n28 := qr [mA 15 0, iA 16 (.bin .geq (.t 15) (.c (.int .u8 32))), mA 17 16, gT 18 17 (oM 0), gT 19 17 (.bin .leq (.t 18) (.c (.int .u8 126))), pA 20 17 19, iA 2 (.mov (.c (.int .u8 0))), mA 3 20] .ret
abbrev e169n29 : EC := .seq e169n26 e169n28
abbrev e169n30 := qr [iA 2 (.mov (.c (.int .u8 0))), iA 3 (.mov (cB false))] e169n29
abbrev e169 : EF := ⟨21, 1, [(.inl 2), (.inl 3)], e169n30⟩
theorem e169_ok : compFn Tryz.prog {} Tryz.f169 = some e169 := by kernel_rfl
theorem e169_nm : (Tryz.f169.name == "runtime.NumGoroutine") = false := by kernel_rfl
abbrev e170n2 := qr [mA 3 0, iA 4 (.bin .geq (.t 3) (.c (.int .u8 97))), mA 5 4, gT 6 5 (oM 0), gT 7 5 (.bin .leq (.t 6) (.c (.int .u8 122))), pA 8 5 7, mA 9 8, gF 10 9 (oM 0), gF 11 9 (.bin .geq (.t 10) (.c (.int .u8 65))), gF 12 9 (oM 11), gT 13 12 (oM 0), gT 14 12 (.bin .leq (.t 13) (.c (.int .u8 90))), gF 15 9 (.pick (.t 12) (.t 14) (cB false)), pO 16 9 15, mA 17 16, gF 18 17 (oM 0), gF 19 17 (.bin .eql (.t 18) (.c (.int .u8 95))), pO 20 17 19, mA 2 20] .ret
abbrev e170n3 := qr [iA 2 (.mov (cB false))] e170n2
abbrev e170 : EF := ⟨21, 1, [(.inl 2)], e170n3⟩
theorem e170_ok : compFn Tryz.prog {} Tryz.f170 = some e170 := by kernel_rfl
theorem e170_nm : (Tryz.f170.name == "runtime.NumGoroutine") = false := by kernel_rfl
abbrev e175n5 := qr [mA 40 2, mA 12 40] .ret
abbrev e175n6 := qr [mA 32 0, mA 33 1, mA 34 2, mA 35 4, mA 36 5, iA 37 (cl 178 [(.t 32), (.t 33), (.t 34), (.t 35), (.t 36)]), mA 31 37, iA 38 (.ext (.t 31) 0), iA 39 (.ext (.t 31) 1), mA 1 38, mA 2 39] e175n5
abbrev e175n7 := qr [mA 23 0, mA 24 2, mA 25 3, mA 26 4, mA 27 5, iA 28 (cl 178 [(.t 23), (.t 24), (.t 25), (.t 26), (.t 27)]), mA 22 28, iA 29 (.ext (.t 22) 0), iA 30 (.ext (.t 22) 1), mA 2 29, mA 3 30] e175n6
abbrev e175n8 := qr [mA 14 0, mA 15 1, mA 16 2, mA 17 4, mA 18 5, iA 19 (cl 178 [(.t 14), (.t 15), (.t 16), (.t 17), (.t 18)]), mA 13 19, iA 20 (.ext (.t 13) 0), iA 21 (.ext (.t 13) 1), mA 1 20, mA 2 21] e175n7
abbrev e175n9 := qr [iA 12 (.mov (cI 0))] e175n8
abbrev e175 : EF := ⟨41, 6, [(.inl 12)], e175n9⟩
theorem e175_ok : compFn Tryz.prog {} Tryz.f175 = some e175 := by kernel_rfl
theorem e175_nm : (Tryz.f175.name == "runtime.NumGoroutine") = false := by kernel_rfl
abbrev e178n4 := qr [mA 28 2, mA 29 1, mA 10 28, mA 11 29] .ret
abbrev e178n5 := qr [mA 23 3, nA 24 23, lA 25 1 24, bC 26 .add 25 1, nA 27 23, sA 1 27 26] e178n4
abbrev e178n6 := cd 22 e178n5 .skip
abbrev e178n7 := qr [mN 12 4, mN 13 0, mN 14 2, aN 15 2 13 14, iR 16 (oG 2 15), mN 17 0, mN 18 1, aN 19 2 17 18, iR 20 (oG 2 19), iR 21 (.call (.t 12) [(.t 16), (.t 20)]), iN 22 (.bin .lss (.t 21) (cI 0))] e178n6
abbrev e178n9 := qr [mA 30 1, mA 31 2, mA 10 30, mA 11 31] .ret
abbrev e178n10 : EC := .seq e178n7 e178n9
abbrev e178n11 := qr [iA 10 (.mov (cI 0)), iA 11 (.mov (cI 0))] e178n10
abbrev e178 : EF := ⟨32, 5, [(.inl 10), (.inl 11)], e178n11⟩
theorem e178_ok : compFn Tryz.prog {} Tryz.f178 = some e178 := by kernel_rfl
theorem e178_nm : (Tryz.f178.name == "runtime.NumGoroutine") = false := by kernel_rfl
end Go.Proofs
