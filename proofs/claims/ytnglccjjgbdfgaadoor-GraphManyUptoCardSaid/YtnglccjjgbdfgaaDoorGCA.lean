/- Part of a proof that a law of the given program answers true. -/
import Derived.Test.YtnglccjjgbdfgaaDoorXEC
import Derived.Test.YtnglccjjgbdfgaaDoorProg
import Derived.KernelRfl
import Derived.Lib.TrailingZeros
namespace Go.Proofs
open Go.E
instance : Glob Tryd.prog where
 G := fun g => if g = 0 then .iptr 64 (.agg (Lib.deBruijn64tab.map fun (n : Nat) => V.int .u8 (n : Int))) 0 else .iptr 0 (.agg []) 0

set_option linter.unusedSimpArgs false
set_option linter.unusedVariables false
set_option maxRecDepth 100000
abbrev zz : List V := List.replicate 625 (.int .i64 0)
abbrev iA (d : Nat) (o : EOp) : Ins := ⟨some d, none, o, .any⟩
abbrev iN (d : Nat) (o : EOp) : Ins := ⟨some d, none, o, .n⟩
abbrev iR (d : Nat) (o : EOp) : Ins := ⟨some d, none, o, .r⟩
abbrev cI (n : Int) : Opd := .c (.int .i64 n)
abbrev cB (b : Bool) : Opd := .c (.bool b)
abbrev gT (d g : Nat) (o : EOp) : Ins := ⟨some d, some (g, true), o, .any⟩
abbrev gF (d g : Nat) (o : EOp) : Ins := ⟨some d, some (g, false), o, .any⟩
abbrev oM (s : Nat) : EOp := .mov (.t s)
abbrev oL (n s : Nat) : EOp := .load false n (.t s)
abbrev oG (n s : Nat) : EOp := .load true n (.t s)
abbrev oF (n s : Nat) : EOp := .faddr n (.t s)
abbrev mA (d s : Nat) : Ins := iA d (.mov (.t s))
abbrev mN (d s : Nat) : Ins := iN d (.mov (.t s))
abbrev lA (d n s : Nat) : Ins := iA d (.load false n (.t s))
abbrev lR (d n s : Nat) : Ins := iR d (.load false n (.t s))
abbrev lG (d n s : Nat) : Ins := iA d (.load true n (.t s))
abbrev fA (d n s : Nat) : Ins := iA d (.faddr n (.t s))
abbrev fN (d n s : Nat) : Ins := iN d (.faddr n (.t s))
abbrev nA (d s : Nat) : Ins := iA d (.nilck (.t s))
abbrev nN (d s : Nat) : Ins := iN d (.nilck (.t s))
abbrev zA (d s : Nat) : Ins := iA d (.len (.t s))
abbrev sA (n p x : Nat) : Ins := ⟨none, none, .store n (.t p) (.t x), .any⟩
abbrev sW (n p x : Nat) : Ins := ⟨none, none, .store n (.t p) (.t x), .w⟩
abbrev bA (d : Nat) (o : BinOp) (x y : Nat) : Ins := iA d (.bin o (.t x) (.t y))
abbrev bC (d : Nat) (o : BinOp) (x : Nat) (y : Int) : Ins := iA d (.bin o (.t x) (.c (.int .i64 y)))
abbrev aA (d z x y : Nat) : Ins := iA d (.iaddr z (.t x) (.t y))
abbrev aN (d z x y : Nat) : Ins := iN d (.iaddr z (.t x) (.t y))
abbrev pA (d x y : Nat) : Ins := iA d (.pick (.t x) (.t y) (.c (.bool false)))
abbrev pO (d x y : Nat) : Ins := iA d (.pick (.t x) (.c (.bool true)) (.t y))
abbrev cl (f : Nat) (l : List Opd) : EOp := .call (.c (.fn f [])) l
abbrev qr (l : List Ins) (b : EC) : EC := .seq (.reg l) b
abbrev cd (c : Nat) (a b : EC) : EC := .cond (.t c) a b
abbrev e3n3 := qr [iA 4 (.mov (cB false))] .ret
abbrev e3n4 := cd 8 e3n3 .skip
abbrev e3n5 := qr [iA 7 (cl 8 []), iA 8 (.un .not (.t 7))] e3n4
abbrev e3n10 := qr [mA 19 5, mA 20 6, iA 21 (cl 12 [(.t 19), (.t 20)]), mA 4 21] .ret
abbrev e3n11 := qr [mA 16 0, mA 17 1, iA 18 (cl 11 [(.t 16), (.t 17)]), mA 6 18] e3n10
abbrev e3n12 := qr [mA 13 0, mA 14 1, iA 15 (cl 10 [(.t 13), (.t 14)]), mA 5 15] e3n11
abbrev e3n13 := qr [mA 9 0, iA 10 (cl 9 [(.t 9), (cI 25), (cI 8)]), mA 11 1, iA 12 (cl 9 [(.t 11), (cI 30), (cI 8)]), mA 0 10, mA 1 12] e3n12
abbrev e3n14 : EC := .seq e3n5 e3n13
abbrev e3n15 := qr [iA 4 (.mov (cB false))] e3n14
abbrev e3 : EF := ⟨22, 2, [(.inl 4)], e3n15⟩
theorem e3_ok : compFn Tryd.prog {} Tryd.f3 = some e3 := by kernel_rfl
theorem e3_nm : (Tryd.f3.name == "runtime.NumGoroutine") = false := by kernel_rfl
abbrev e4n3 := qr [iA 2 (.mov (cB false))] .ret
abbrev e4n4 := cd 4 e4n3 .skip
abbrev e4n5 := qr [iA 3 (cl 8 []), iA 4 (.un .not (.t 3))] e4n4
abbrev e4n8 := qr [mA 7 0, iA 8 (cl 13 [.t 7]), mA 9 0, iA 10 (cl 14 [.t 9]), iA 11 (cl 12 [(.t 8), (.t 10)]), mA 2 11] .ret
abbrev e4n9 := qr [mA 5 0, iA 6 (cl 9 [(.t 5), (cI 25), (cI 6)]), mA 0 6] e4n8
abbrev e4n10 : EC := .seq e4n5 e4n9
abbrev e4n11 := qr [iA 2 (.mov (cB false))] e4n10
abbrev e4 : EF := ⟨12, 1, [(.inl 2)], e4n11⟩
theorem e4_ok : compFn Tryd.prog {} Tryd.f4 = some e4 := by kernel_rfl
theorem e4_nm : (Tryd.f4.name == "runtime.NumGoroutine") = false := by kernel_rfl
abbrev e5n3 := qr [iA 4 (.mov (cB false))] .ret
abbrev e5n4 := cd 15 e5n3 .skip
abbrev e5n5 := qr [iA 14 (cl 8 []), iA 15 (.un .not (.t 14))] e5n4
abbrev e5n10 := cd 21 .skip (.exit 0)
abbrev e5n11 := qr [mA 19 8, mA 20 0, bA 21 .lss 19 20] e5n10
abbrev e5n15 := cd 33 (.reg [iA 34 (.lit false 1 false (.int .i64 0) 1 [(0, (cI 0))]), mA 9 34]) .skip
abbrev e5n16 := qr [mA 27 8, bC 28 .add 27 1, mA 29 0, bA 30 .eql 28 29, mA 31 30, gT 32 31 (oM 1), pA 33 31 32] e5n15
abbrev e5n18 : EC := .seq e5n16 (.reg [mA 35 5, mA 36 9, iA 37 (.lit false 1 false (.sl 1 true []) 1 [(0, (.t 36))]), iA 38 (.append false 1 24 (.t 35) (.t 37)), mA 39 6, mA 40 8, iA 41 (.lit false 1 false (.int .i64 0) 1 [(0, (.t 40))]), iA 42 (.lit false 1 false (.sl 1 true []) 1 [(0, (.t 41))]), iA 43 (.append false 1 24 (.t 39) (.t 42)), mA 5 38, mA 6 43])
abbrev e5n19 := qr [mA 24 8, bC 25 .add 24 1, iA 26 (.lit false 1 false (.int .i64 0) 1 [(0, (.t 25))]), mA 9 26] e5n18
abbrev e5n20 : EC := .block 1 e5n19
abbrev e5n22 : EC := .seq e5n20 (.reg [mA 22 8, bC 23 .add 22 1, mA 8 23])
abbrev e5n23 : EC := .seq e5n11 e5n22
abbrev e5n24 : EC := .loop e5n23
abbrev e5n25 : EC := .block 0 e5n24
abbrev e5n26 := qr [iA 8 (.mov (cI 0))] e5n25
abbrev e5n29 := cd 46 .skip (.exit 2)
abbrev e5n30 := qr [mA 44 10, mA 45 0, bA 46 .lss 44 45] e5n29
abbrev e5n34 := cd 51 .skip (.exit 4)
abbrev e5n35 := qr [mA 49 12, mA 50 0, bA 51 .lss 49 50] e5n34
abbrev e5n38 := cd 59 (.reg [mA 60 11, mA 61 12, iA 62 (.lit false 1 false (.int .i64 0) 1 [(0, (.t 61))]), iA 63 (.append false 1 8 (.t 60) (.t 62)), mA 11 63]) .skip
abbrev e5n39 := qr [mA 54 1, mA 55 54, gF 56 55 (oM 12), gF 57 55 (oM 10), gF 58 55 (.bin .geq (.t 56) (.t 57)), pO 59 55 58] e5n38
abbrev e5n40 : EC := .block 5 e5n39
abbrev e5n42 : EC := .seq e5n40 (.reg [mA 52 12, bC 53 .add 52 1, mA 12 53])
abbrev e5n43 : EC := .seq e5n35 e5n42
abbrev e5n44 : EC := .loop e5n43
abbrev e5n45 : EC := .block 4 e5n44
abbrev e5n46 := qr [iA 12 (.mov (cI 0))] e5n45
abbrev e5n48 : EC := .seq e5n46 (.reg [mA 64 7, mA 65 11, iA 66 (.lit false 1 false (.sl 1 true []) 1 [(0, (.t 65))]), iA 67 (.append false 1 24 (.t 64) (.t 66)), mA 7 67])
abbrev e5n49 := qr [iA 11 (.mov (.c (.sl 1 true [])))] e5n48
abbrev e5n50 : EC := .block 3 e5n49
abbrev e5n52 : EC := .seq e5n50 (.reg [mA 47 10, bC 48 .add 47 1, mA 10 48])
abbrev e5n53 : EC := .seq e5n30 e5n52
abbrev e5n54 : EC := .loop e5n53
abbrev e5n55 : EC := .block 2 e5n54
abbrev e5n56 := qr [iA 10 (.mov (cI 0))] e5n55
abbrev e5n60 := qr [mA 71 13, zA 72 71, bC 73 .eql 72 1, mA 74 73, gT 75 74 (oM 13), gT 76 74 (.iaddr 1 (.t 75) (cI 0)), gT 77 74 (oL 1 76), gT 78 74 (.len (.t 77)), gT 79 74 (oM 0), gT 80 74 (.bin .eql (.t 78) (.t 79)), pA 81 74 80, mA 82 81, gT 83 82 (oM 5), gT 84 82 (oM 6), gT 85 82 (cl 10 [(.t 83), (.t 84)]), gT 86 82 (oM 7), gT 87 82 (cl 12 [(.t 85), (.t 86)]), pA 88 82 87, mA 4 88] .ret
abbrev e5n61 := cd 70 e5n60 .skip
abbrev e5n62 := qr [mA 70 1] e5n61
abbrev e5n64 := qr [mA 89 13, zA 90 89, mA 91 0, bA 92 .eql 90 91, mA 93 92, gT 94 93 (oM 5), gT 95 93 (oM 6), gT 96 93 (cl 10 [(.t 94), (.t 95)]), gT 97 93 (oM 7), gT 98 93 (cl 12 [(.t 96), (.t 97)]), pA 99 93 98, mA 4 99] .ret
abbrev e5n65 : EC := .seq e5n62 e5n64
abbrev e5n66 := qr [mA 68 5, iA 69 (cl 13 [.t 68]), mA 13 69] e5n65
abbrev e5n67 : EC := .seq e5n56 e5n66
abbrev e5n68 : EC := .seq e5n26 e5n67
abbrev e5n69 := qr [iA 5 (.mov (.c (.sl 1 true []))), iA 6 (.mov (.c (.sl 1 true []))), iA 7 (.mov (.c (.sl 1 true [])))] e5n68
abbrev e5n70 := qr [mA 16 0, iA 17 (cl 15 [(.t 16), (cI 60)]), iA 18 (.bin .add (cI 1) (.t 17)), mA 0 18] e5n69
abbrev e5n71 : EC := .seq e5n5 e5n70
abbrev e5n72 := qr [iA 4 (.mov (cB false))] e5n71
abbrev e5 : EF := ⟨100, 2, [(.inl 4)], e5n72⟩
theorem e5_ok : compFn Tryd.prog {} Tryd.f5 = some e5 := by kernel_rfl
theorem e5_nm : (Tryd.f5.name == "runtime.NumGoroutine") = false := by kernel_rfl
abbrev e6n3 := qr [iA 4 (.mov (cB false))] .ret
abbrev e6n4 := cd 13 e6n3 .skip
abbrev e6n5 := qr [iA 12 (cl 8 []), iA 13 (.un .not (.t 12))] e6n4
abbrev e6n10 := qr [iA 4 (.mov (cB false))] .ret
abbrev e6n11 := cd 33 e6n10 .skip
abbrev e6n12 := qr [mA 21 5, zA 22 21, mA 23 0, zA 24 23, bA 25 .neq 22 24, mA 26 25, gF 27 26 (oM 0), gF 28 26 (oM 5), gF 29 26 (cl 10 [(.t 27), (.t 28)]), gF 30 26 (oM 5), gF 31 26 (cl 12 [(.t 29), (.t 30)]), gF 32 26 (.un .not (.t 31)), pO 33 26 32] e6n11
abbrev e6n17 := cd 39 .skip (.exit 0)
abbrev e6n18 := qr [mA 36 8, mA 37 6, zA 38 37, bA 39 .lss 36 38] e6n17
abbrev e6n21 := cd 48 .skip (.exit 2)
abbrev e6n22 := qr [mA 42 9, mA 43 6, mA 44 8, aA 45 1 43 44, lA 46 1 45, zA 47 46, bA 48 .lss 42 47] e6n21
abbrev e6n26 := qr [iA 4 (.mov (cB false))] .ret
abbrev e6n27 := cd 93 e6n26 .skip
abbrev e6n28 := qr [mN 64 10, iN 65 (.bin .lss (.t 64) (cI 0)), mN 66 65, ⟨(some 67), (some (66, false)), .mov (.t 10), .n⟩, ⟨(some 68), (some (66, false)), .mov (.t 5), .n⟩, ⟨(some 69), (some (66, false)), .len (.t 68), .n⟩, ⟨(some 70), (some (66, false)), .bin .geq (.t 67) (.t 69), .n⟩, iN 71 (.pick (.t 66) (cB true) (.t 70)), mN 72 71, ⟨(some 73), (some (72, false)), .mov (.t 11), .n⟩, ⟨(some 74), (some (72, false)), .bin .lss (.t 73) (cI 0), .n⟩, iN 75 (.pick (.t 72) (cB true) (.t 74)), mN 76 75, ⟨(some 77), (some (76, false)), .mov (.t 11), .n⟩, ⟨(some 78), (some (76, false)), .mov (.t 5), .n⟩, ⟨(some 79), (some (76, false)), .len (.t 78), .n⟩, ⟨(some 80), (some (76, false)), .bin .geq (.t 77) (.t 79), .n⟩, iN 81 (.pick (.t 76) (cB true) (.t 80)), mN 82 81, ⟨(some 83), (some (82, false)), .mov (.t 5), .n⟩, ⟨(some 84), (some (82, false)), .mov (.t 10), .n⟩, ⟨(some 85), (some (82, false)), .iaddr 1 (.t 83) (.t 84), .n⟩, ⟨(some 86), (some (82, false)), .load false 1 (.t 85), .r⟩, ⟨(some 87), (some (82, false)), .mov (.t 5), .n⟩, ⟨(some 88), (some (82, false)), .mov (.t 11), .n⟩, ⟨(some 89), (some (82, false)), .iaddr 1 (.t 87) (.t 88), .n⟩, ⟨(some 90), (some (82, false)), .load false 1 (.t 89), .r⟩, ⟨(some 91), (some (82, false)), .call (.c (.fn 16 [])) [(.t 86), (.t 90)], .r⟩, ⟨(some 92), (some (82, false)), .un .not (.t 91), .n⟩, iN 93 (.pick (.t 82) (cB true) (.t 92))] e6n27
abbrev e6n30 : EC := .seq e6n28 (.reg [mA 94 7, bC 95 .add 94 1, mA 7 95])
abbrev e6n31 := qr [mN 51 6, mN 52 8, aN 53 1 51 52, lR 54 1 53, iN 55 (.iaddr 1 (.t 54) (cI 0)), lR 56 1 55, mN 57 6, mN 58 8, aN 59 1 57 58, lR 60 1 59, mN 61 9, aN 62 1 60 61, lR 63 1 62, mN 10 56, mN 11 63] e6n30
abbrev e6n32 : EC := .block 3 e6n31
abbrev e6n34 : EC := .seq e6n32 (.reg [mA 49 9, bC 50 .add 49 1, mA 9 50])
abbrev e6n35 : EC := .seq e6n22 e6n34
abbrev e6n36 : EC := .loop e6n35
abbrev e6n37 : EC := .block 2 e6n36
abbrev e6n38 := qr [iA 9 (.mov (cI 0))] e6n37
abbrev e6n39 : EC := .block 1 e6n38
abbrev e6n41 : EC := .seq e6n39 (.reg [mA 40 8, bC 41 .add 40 1, mA 8 41])
abbrev e6n42 : EC := .seq e6n18 e6n41
abbrev e6n43 : EC := .loop e6n42
abbrev e6n44 : EC := .block 0 e6n43
abbrev e6n45 := qr [iA 8 (.mov (cI 0))] e6n44
abbrev e6n47 := qr [mA 96 7, mA 97 0, zA 98 97, bA 99 .eql 96 98, mA 4 99] .ret
abbrev e6n48 : EC := .seq e6n45 e6n47
abbrev e6n49 := qr [iA 7 (.mov (cI 0))] e6n48
abbrev e6n50 := qr [mA 34 0, iA 35 (cl 13 [.t 34]), mA 6 35] e6n49
abbrev e6n51 : EC := .seq e6n12 e6n50
abbrev e6n52 := qr [mA 18 0, mA 19 1, iA 20 (cl 10 [(.t 18), (.t 19)]), mA 5 20] e6n51
abbrev e6n53 := qr [mA 14 0, iA 15 (cl 9 [(.t 14), (cI 20), (cI 6)]), mA 16 1, iA 17 (cl 9 [(.t 16), (cI 20), (cI 6)]), mA 0 15, mA 1 17] e6n52
abbrev e6n54 : EC := .seq e6n5 e6n53
abbrev e6n55 := qr [iA 4 (.mov (cB false))] e6n54
abbrev e6 : EF := ⟨100, 2, [(.inl 4)], e6n55⟩
theorem e6_ok : compFn Tryd.prog {} Tryd.f6 = some e6 := by kernel_rfl
theorem e6_nm : (Tryd.f6.name == "runtime.NumGoroutine") = false := by kernel_rfl
abbrev e7n3 := qr [iA 2 (.mov (cB false))] .ret
abbrev e7n4 := cd 8 e7n3 .skip
abbrev e7n5 := qr [iA 7 (cl 8 []), iA 8 (.un .not (.t 7))] e7n4
abbrev e7n10 := cd 16 .skip (.exit 0)
abbrev e7n11 := qr [mA 14 4, mA 15 0, bA 16 .lss 14 15] e7n10
abbrev e7n13 : EC := .block 1 (.reg [mA 19 3, mA 20 4, mA 21 4, mA 22 4, bC 23 .sub 22 1, iA 24 (.lit false 1 false (.int .i64 0) 2 [(0, (.t 21)), (1, (.t 23))]), aA 25 1 19 20, sA 1 25 24])
abbrev e7n15 : EC := .seq e7n13 (.reg [mA 17 4, bC 18 .add 17 1, mA 4 18])
abbrev e7n16 : EC := .seq e7n11 e7n15
abbrev e7n17 : EC := .loop e7n16
abbrev e7n18 : EC := .block 0 e7n17
abbrev e7n19 := qr [iA 4 (.mov (cI 0))] e7n18
abbrev e7n23 := qr [mA 34 5, zA 35 34, bC 36 .eql 35 0, mA 37 36, gT 38 37 (oM 6), gT 39 37 (.len (.t 38)), gT 40 37 (.bin .eql (.t 39) (cI 0)), pA 41 37 40, mA 2 41] .ret
abbrev e7n24 := cd 33 e7n23 .skip
abbrev e7n25 := qr [mA 32 0, bC 33 .gtr 32 4000] e7n24
abbrev e7n27 := qr [mA 42 5, zA 43 42, mA 44 0, bA 45 .eql 43 44, mA 46 45, gT 47 46 (oM 6), gT 48 46 (.len (.t 47)), gT 49 46 (oM 0), gT 50 46 (.bin .eql (.t 48) (.t 49)), pA 51 46 50, mA 52 51, gT 53 52 (oM 5), gT 54 52 (oM 0), gT 55 52 (.bin .sub (.t 54) (cI 1)), gT 56 52 (.iaddr 1 (.t 53) (.t 55)), gT 57 52 (oL 1 56), gT 58 52 (.lit false 1 false (.int .i64 0) 1 [(0, (cI 7))]), gT 59 52 (cl 16 [(.t 57), (.t 58)]), pA 60 52 59, mA 2 60] .ret
abbrev e7n28 : EC := .seq e7n25 e7n27
abbrev e7n29 := qr [mA 26 3, iA 27 (.lit false 1 false (.int .i64 0) 1 [(0, (cI 7))]), iA 28 (.lit false 1 false (.sl 1 true []) 1 [(0, (.t 27))]), iA 29 (cl 10 [(.t 26), (.t 28)]), mA 30 3, iA 31 (cl 13 [.t 30]), mA 5 29, mA 6 31] e7n28
abbrev e7n30 : EC := .seq e7n19 e7n29
abbrev e7n31 := qr [mA 12 0, iA 13 (.mksl true 1 24 (.sl 1 true []) (.t 12) (.t 12)), mA 3 13] e7n30
abbrev e7n32 := qr [mA 9 0, iA 10 (cl 15 [(.t 9), (cI 9)]), iA 11 (.bin .add (cI 3996) (.t 10)), mA 0 11] e7n31
abbrev e7n33 : EC := .seq e7n5 e7n32
abbrev e7n34 := qr [iA 2 (.mov (cB false))] e7n33
abbrev e7 : EF := ⟨61, 1, [(.inl 2)], e7n34⟩
theorem e7_ok : compFn Tryd.prog { mu := fun t => [13].contains t } Tryd.f7 = some e7 := by kernel_rfl
theorem e7_nm : (Tryd.f7.name == "runtime.NumGoroutine") = false := by kernel_rfl
abbrev e8n3 := qr [mA 6 1, iA 7 (.lit false 1 false (.int .i64 0) 1 [(0, (cI 5))]), iA 8 (.lit false 1 false (.int .i64 0) 1 [(0, (cI 6))]), iA 9 (.lit false 1 false (.sl 1 true []) 2 [(0, (.t 7)), (1, (.t 8))]), iA 10 (cl 10 [(.t 6), (.t 9)]), iA 11 (.lit false 1 false (.int .i64 0) 2 [(0, (cI 5)), (1, (cI 6))]), iA 12 (.lit false 1 false (.int .i64 0) 2 [(0, (cI 5)), (1, (cI 6))]), iA 13 (.lit false 1 false (.int .i64 0) 2 [(0, (cI 5)), (1, (cI 6))]), iA 14 (.lit false 1 false (.sl 1 true []) 3 [(0, (.t 11)), (1, (.t 12)), (2, (.t 13))]), iA 15 (cl 12 [(.t 10), (.t 14)]), mA 16 15, gT 17 16 (oM 1), gT 18 16 (cl 13 [.t 17]), gT 19 16 (.lit false 1 false (.int .i64 0) 2 [(0, (cI 0)), (1, (cI 1))]), gT 20 16 (.lit false 1 false (.int .i64 0) 1 [(0, (cI 2))]), gT 21 16 (.lit false 1 false (.sl 1 true []) 2 [(0, (.t 19)), (1, (.t 20))]), gT 22 16 (cl 12 [(.t 18), (.t 21)]), pA 23 16 22, mA 0 23] .ret
abbrev e8n4 := qr [iA 2 (.lit false 1 false (.int .i64 0) 1 [(0, (cI 1))]), iA 3 (.lit false 1 false (.int .i64 0) 1 [(0, (cI 0))]), iA 4 (.lit false 1 false (.int .i64 0) 1 [(0, (cI 0))]), iA 5 (.lit false 1 false (.sl 1 true []) 3 [(0, (.t 2)), (1, (.t 3)), (2, (.t 4))]), mA 1 5] e8n3
abbrev e8n5 := qr [iA 0 (.mov (cB false))] e8n4
abbrev e8 : EF := ⟨24, 0, [(.inl 0)], e8n5⟩
theorem e8_ok : compFn Tryd.prog {} Tryd.f8 = some e8 := by kernel_rfl
theorem e8_nm : (Tryd.f8.name == "runtime.NumGoroutine") = false := by kernel_rfl
abbrev e9n4 := cd 17 .skip (.exit 0)
abbrev e9n5 := qr [mA 9 8, mA 10 0, zA 11 10, bA 12 .lss 9 11, mA 13 12, gT 14 13 (oM 8), gT 15 13 (oM 1), gT 16 13 (.bin .lss (.t 14) (.t 15)), pA 17 13 16] e9n4
abbrev e9n7 : EC := .block 1 (.reg [mA 20 7, mA 21 0, mA 22 8, aA 23 1 21 22, lA 24 1 23, mA 25 2, iA 26 (cl 17 [(.t 24), (.t 25)]), iA 27 (.lit false 1 false (.sl 1 true []) 1 [(0, (.t 26))]), iA 28 (.append false 1 24 (.t 20) (.t 27)), mA 7 28])
abbrev e9n9 : EC := .seq e9n7 (.reg [mA 18 8, bC 19 .add 18 1, mA 8 19])
abbrev e9n10 : EC := .seq e9n5 e9n9
abbrev e9n11 : EC := .loop e9n10
abbrev e9n12 : EC := .block 0 e9n11
abbrev e9n13 := qr [iA 8 (.mov (cI 0))] e9n12
abbrev e9n15 := qr [mA 29 7, mA 6 29] .ret
abbrev e9n16 : EC := .seq e9n13 e9n15
abbrev e9n17 := qr [iA 7 (.mov (.c (.sl 1 true [])))] e9n16
abbrev e9n18 := qr [iA 6 (.mov (.c (.sl 1 true [])))] e9n17
abbrev e9 : EF := ⟨30, 3, [(.inl 6)], e9n18⟩
theorem e9_ok : compFn Tryd.prog {} Tryd.f9 = some e9 := by kernel_rfl
theorem e9_nm : (Tryd.f9.name == "runtime.NumGoroutine") = false := by kernel_rfl
abbrev e10n3 := qr [iA 4 (.mov (.c (.sl 1 true [])))] .ret
abbrev e10n4 := cd 17 e10n3 .skip
abbrev e10n5 := qr [mA 15 0, zA 16 15, bC 17 .gtr 16 4000] e10n4
abbrev e10n10 := cd 32 .skip (.exit 0)
abbrev e10r13 := [bA 39 .lss 38 37]
abbrev e10n14 := cd 39 .skip (.exit 2)
abbrev e10r15 := [aA 40 1 36 38, lA 41 1 40, mA 10 41]
abbrev e10n18 := cd 45 (.reg [mN 46 6, mN 47 7, mN 48 6, mN 49 7, aN 50 16 48 49, iR 51 (oG 16 50), mN 52 1, mN 53 10, aN 54 1 52 53, lR 55 1 54, iR 56 (cl 20 [.t 55]), iR 57 (cl 19 [(.t 51), (.t 56)]), aN 58 16 46 47, sW 16 58 57]) .skip
abbrev e10n19 := qr [mA 42 10, mA 43 1, zA 44 43, bA 45 .lss 42 44] e10n18
abbrev e10n22 := cd 65 .skip (.exit 4)
abbrev e10n26 := cd 75 (.reg [mN 76 6, mN 77 7, mN 78 6, mN 79 7, aN 80 16 78 79, iR 81 (oG 16 80), mN 82 6, mN 83 5, nN 84 83, fN 85 4 84, lR 86 1 85, mN 87 12, aN 88 1 86 87, lR 89 1 88, aN 90 16 82 89, iR 91 (oG 16 90), iR 92 (cl 19 [(.t 81), (.t 91)]), aN 93 16 76 77, sW 16 93 92]) .skip
abbrev e10n27 := qr [mA 68 12, bC 69 .geq 68 0, mA 70 69, gT 71 70 (oM 12), gT 72 70 (oM 0), gT 73 70 (.len (.t 72)), gT 74 70 (.bin .lss (.t 71) (.t 73)), pA 75 70 74] e10n26
abbrev e10n28 := qr [aA 66 1 62 64, lA 67 1 66, mA 12 67] e10n27
abbrev e10n29 : EC := .block 5 e10n28
abbrev e10n31 : EC := .seq e10n29 (.reg [bC 94 .add 64 1, mA 64 94])
abbrev e10n32 : EC := .seq e10n22 e10n31
abbrev e10n33 := qr [bA 65 .lss 64 63] e10n32
abbrev e10n34 : EC := .loop e10n33
abbrev e10n35 : EC := .block 4 e10n34
abbrev e10n36 := qr [mA 59 0, mA 60 10, aA 61 1 59 60, lA 62 1 61, zA 63 62, iA 64 (.mov (cI 0))] e10n35
abbrev e10n37 : EC := .seq e10n19 e10n36
abbrev e10n38 := qr e10r15 e10n37
abbrev e10n39 : EC := .block 3 e10n38
abbrev e10r40 := [bC 95 .add 38 1, mA 38 95]
abbrev e10n41 : EC := .seq e10n39 (.reg e10r40)
abbrev e10n42 : EC := .seq e10n14 e10n41
abbrev e10n43 := qr e10r13 e10n42
abbrev e10n44 : EC := .loop e10n43
abbrev e10n45 : EC := .block 2 e10n44
abbrev e10n46 := qr [mA 36 8, zA 37 36, iA 38 (.mov (cI 0))] e10n45
abbrev e10n47 := qr [mA 33 31, aA 34 1 29 31, lA 35 1 34, mA 7 33, mA 8 35] e10n46
abbrev e10n48 : EC := .block 1 e10n47
abbrev e10n50 : EC := .seq e10n48 (.reg [bC 96 .add 31 1, mA 31 96])
abbrev e10n51 : EC := .seq e10n10 e10n50
abbrev e10n52 := qr [bA 32 .lss 31 30] e10n51
abbrev e10n53 : EC := .loop e10n52
abbrev e10n54 : EC := .block 0 e10n53
abbrev e10n55 := qr [mA 26 5, nA 27 26, fA 28 5 27, lA 29 1 28, zA 30 29, iA 31 (.mov (cI 0))] e10n54
abbrev e10n59 := cd 103 .skip (.exit 6)
abbrev e10n62 := qr [mA 104 102, mA 14 104] (.reg [mA 105 13, mA 106 14, mA 107 6, mA 108 5, nA 109 108, fA 110 4 109, lA 111 1 110, mA 112 14, aA 113 1 111 112, lA 114 1 113, aA 115 16 107 114, lG 116 16 115, iA 117 (cl 21 [.t 116]), aA 118 1 105 106, sA 1 118 117])
abbrev e10n63 : EC := .block 7 e10n62
abbrev e10n65 : EC := .seq e10n63 (.reg [bC 119 .add 102 1, mA 102 119])
abbrev e10n66 : EC := .seq e10n59 e10n65
abbrev e10n67 := qr [bA 103 .lss 102 101] e10n66
abbrev e10n68 : EC := .loop e10n67
abbrev e10n69 : EC := .block 6 e10n68
abbrev e10n70 := qr [mA 100 0, zA 101 100, iA 102 (.mov (cI 0))] e10n69
abbrev e10n72 := qr [mA 120 13, mA 4 120] .ret
abbrev e10n73 : EC := .seq e10n70 e10n72
abbrev e10n74 := qr [mA 97 0, zA 98 97, iA 99 (.mksl true 1 24 (.sl 1 true []) (.t 98) (.t 98)), mA 13 99] e10n73
abbrev e10n75 : EC := .seq e10n55 e10n74
abbrev e10n76 := qr [mA 20 5, nA 21 20, fA 22 5 21, lA 23 1 22, zA 24 23, iA 25 (.mksl true 16 128 (.agg [(.int .u64 0), (.int .u64 0), (.int .u64 0), (.int .u64 0), (.int .u64 0), (.int .u64 0), (.int .u64 0), (.int .u64 0), (.int .u64 0), (.int .u64 0), (.int .u64 0), (.int .u64 0), (.int .u64 0), (.int .u64 0), (.int .u64 0), (.int .u64 0)]) (.t 24) (.t 24)), mA 6 25] e10n75
abbrev e10n77 := qr [mA 18 0, iA 19 (cl 18 [.t 18]), mA 5 19] e10n76
abbrev e10n78 : EC := .seq e10n5 e10n77
abbrev e10n79 := qr [iA 4 (.mov (.c (.sl 1 true [])))] e10n78
abbrev e10 : EF := ⟨121, 2, [(.inl 4)], e10n79⟩
theorem e10_ok : compFn Tryd.prog { mu := fun t => [25, 99].contains t, cl := fun r i => ([(3, 1, Cls.w)].find? fun x => x.1 == r && x.2.1 == i).map (·.2.2) } Tryd.f10 = some e10 := by kernel_rfl
theorem e10_nm : (Tryd.f10.name == "runtime.NumGoroutine") = false := by kernel_rfl
abbrev e11n3 := qr [iA 4 (.mov (.c (.sl 1 true [])))] .ret
abbrev e11n4 := cd 12 e11n3 .skip
abbrev e11n5 := qr [mA 10 0, zA 11 10, bC 12 .gtr 11 4000] e11n4
abbrev e11n9 := cd 16 .skip (.exit 0)
abbrev e11n10 := qr [mA 13 6, mA 14 0, zA 15 14, bA 16 .lss 13 15] e11n9
abbrev e11n15 := cd 25 .skip (.exit 2)
abbrev e11n16 := qr [mA 22 9, mA 23 8, zA 24 23, bA 25 .lss 22 24] e11n15
abbrev e11n19 := cd 34 (.reg [mA 35 7, mA 36 1, mA 37 8, mA 38 9, aA 39 1 37 38, lA 40 1 39, aA 41 1 36 40, lA 42 1 41, iA 43 (.append false 1 8 (.t 35) (.t 42)), mA 7 43]) .skip
abbrev e11n20 := qr [mA 28 8, mA 29 9, aA 30 1 28 29, lA 31 1 30, mA 32 1, zA 33 32, bA 34 .lss 31 33] e11n19
abbrev e11n21 : EC := .block 3 e11n20
abbrev e11n23 : EC := .seq e11n21 (.reg [mA 26 9, bC 27 .add 26 1, mA 9 27])
abbrev e11n24 : EC := .seq e11n16 e11n23
abbrev e11n25 : EC := .loop e11n24
abbrev e11n26 : EC := .block 2 e11n25
abbrev e11n27 := qr [iA 9 (.mov (cI 0))] e11n26
abbrev e11n29 : EC := .seq e11n27 (.reg [mA 44 5, mA 45 7, iA 46 (cl 23 [.t 45]), iA 47 (.lit false 1 false (.sl 1 true []) 1 [(0, (.t 46))]), iA 48 (.append false 1 24 (.t 44) (.t 47)), mA 5 48])
abbrev e11n30 := qr [mA 19 0, mA 20 6, iA 21 (cl 22 [(.t 19), (.t 20)]), mA 8 21] e11n29
abbrev e11n31 := qr [iA 7 (.mov (.c (.sl 1 true [])))] e11n30
abbrev e11n32 : EC := .block 1 e11n31
abbrev e11n34 : EC := .seq e11n32 (.reg [mA 17 6, bC 18 .add 17 1, mA 6 18])
abbrev e11n35 : EC := .seq e11n10 e11n34
abbrev e11n36 : EC := .loop e11n35
abbrev e11n37 : EC := .block 0 e11n36
abbrev e11n38 := qr [iA 6 (.mov (cI 0))] e11n37
abbrev e11n40 := qr [mA 49 5, mA 4 49] .ret
abbrev e11n41 : EC := .seq e11n38 e11n40
abbrev e11n42 := qr [iA 5 (.mov (.c (.sl 1 true [])))] e11n41
abbrev e11n43 : EC := .seq e11n5 e11n42
abbrev e11n44 := qr [iA 4 (.mov (.c (.sl 1 true [])))] e11n43
abbrev e11 : EF := ⟨50, 2, [(.inl 4)], e11n44⟩
theorem e11_ok : compFn Tryd.prog {} Tryd.f11 = some e11 := by kernel_rfl
theorem e11_nm : (Tryd.f11.name == "runtime.NumGoroutine") = false := by kernel_rfl
abbrev e12n3 := qr [iA 4 (.mov (cB false))] .ret
abbrev e12n4 := cd 10 e12n3 .skip
abbrev e12n5 := qr [mA 6 0, zA 7 6, mA 8 1, zA 9 8, bA 10 .neq 7 9] e12n4
abbrev e12n8 := cd 14 .skip (.exit 0)
abbrev e12n9 := qr [mA 11 5, mA 12 0, zA 13 12, bA 14 .lss 11 13] e12n8
abbrev e12n12 := qr [iA 4 (.mov (cB false))] .ret
abbrev e12n13 := cd 26 e12n12 .skip
abbrev e12n14 := qr [mN 17 0, mN 18 5, aN 19 1 17 18, lR 20 1 19, mN 21 1, mN 22 5, aN 23 1 21 22, lR 24 1 23, iR 25 (cl 16 [(.t 20), (.t 24)]), iN 26 (.un .not (.t 25))] e12n13
abbrev e12n15 : EC := .block 1 e12n14
abbrev e12n17 : EC := .seq e12n15 (.reg [mA 15 5, bC 16 .add 15 1, mA 5 16])
abbrev e12n18 : EC := .seq e12n9 e12n17
abbrev e12n19 : EC := .loop e12n18
abbrev e12n20 : EC := .block 0 e12n19
abbrev e12n21 := qr [iA 5 (.mov (cI 0))] e12n20
abbrev e12n23 := qr [iA 4 (.mov (cB true))] .ret
abbrev e12n24 : EC := .seq e12n21 e12n23
abbrev e12n25 : EC := .seq e12n5 e12n24
abbrev e12n26 := qr [iA 4 (.mov (cB false))] e12n25
abbrev e12 : EF := ⟨27, 2, [(.inl 4)], e12n26⟩
theorem e12_ok : compFn Tryd.prog {} Tryd.f12 = some e12 := by kernel_rfl
theorem e12_nm : (Tryd.f12.name == "runtime.NumGoroutine") = false := by kernel_rfl
abbrev e13n3 := qr [iA 2 (.mov (.c (.sl 1 true [])))] .ret
abbrev e13n4 := cd 6 e13n3 .skip
abbrev e13n5 := qr [mA 4 0, zA 5 4, bC 6 .gtr 5 4000] e13n4
abbrev e13n9 := qr [mA 14 3, mA 2 14] .ret
abbrev e13n10 := qr [mA 12 3, iA 13 (cl 24 [(.t 12), (.c (.fn 25 []))])] e13n9
abbrev e13n11 := qr [mA 7 0, iA 8 (cl 18 [.t 7]), nA 9 8, fA 10 5 9, lA 11 1 10, mA 3 11] e13n10
abbrev e13n12 : EC := .seq e13n5 e13n11
abbrev e13n13 := qr [iA 2 (.mov (.c (.sl 1 true [])))] e13n12
abbrev e13 : EF := ⟨15, 1, [(.inl 2)], e13n13⟩
theorem e13_ok : compFn Tryd.prog { mu := fun t => [].contains t, cl := fun r i => ([(3, 1, Cls.w)].find? fun x => x.1 == r && x.2.1 == i).map (·.2.2) } Tryd.f13 = some e13 := by kernel_rfl
theorem e13_nm : (Tryd.f13.name == "runtime.NumGoroutine") = false := by kernel_rfl
abbrev e14n3 := qr [iA 2 (.mov (.c (.sl 1 true [])))] .ret
abbrev e14n4 := cd 11 e14n3 .skip
abbrev e14n5 := qr [mA 9 0, zA 10 9, bC 11 .gtr 10 4000] e14n4
abbrev e14n9 := cd 15 .skip (.exit 0)
abbrev e14n10 := qr [mA 12 4, mA 13 0, zA 14 13, bA 15 .lss 12 14] e14n9
abbrev e14n12 : EC := .block 1 (.reg [mA 18 3, mA 19 0, mA 20 4, iA 21 (cl 22 [(.t 19), (.t 20)]), iA 22 (.lit false 1 false (.sl 1 true []) 1 [(0, (.t 21))]), iA 23 (.append false 1 24 (.t 18) (.t 22)), mA 3 23])
abbrev e14n14 : EC := .seq e14n12 (.reg [mA 16 4, bC 17 .add 16 1, mA 4 17])
abbrev e14n15 : EC := .seq e14n10 e14n14
abbrev e14n16 : EC := .loop e14n15
abbrev e14n17 : EC := .block 0 e14n16
abbrev e14n18 := qr [iA 4 (.mov (cI 0))] e14n17
abbrev e14n22 := cd 27 .skip (.exit 2)
abbrev e14n23 := qr [mA 24 6, mA 25 0, zA 26 25, bA 27 .lss 24 26] e14n22
abbrev e14n27 := cd 33 .skip (.exit 4)
abbrev e14n28 := qr [mA 30 8, mA 31 0, zA 32 31, bA 33 .lss 30 32] e14n27
abbrev e14n31 := cd 49 (.reg [mA 50 7, mA 51 8, iA 52 (.lit false 1 false (.int .i64 0) 1 [(0, (.t 51))]), iA 53 (.append false 1 8 (.t 50) (.t 52)), mA 7 53]) .skip
abbrev e14n32 := qr [mA 36 3, mA 37 6, aA 38 1 36 37, lA 39 1 38, mA 40 8, iA 41 (cl 27 [(.t 39), (.t 40)]), mA 42 41, gT 43 42 (oM 3), gT 44 42 (oM 8), gT 45 42 (.iaddr 1 (.t 43) (.t 44)), gT 46 42 (oL 1 45), gT 47 42 (oM 6), gT 48 42 (cl 27 [(.t 46), (.t 47)]), pA 49 42 48] e14n31
abbrev e14n33 : EC := .block 5 e14n32
abbrev e14n35 : EC := .seq e14n33 (.reg [mA 34 8, bC 35 .add 34 1, mA 8 35])
abbrev e14n36 : EC := .seq e14n28 e14n35
abbrev e14n37 : EC := .loop e14n36
abbrev e14n38 : EC := .block 4 e14n37
abbrev e14n39 := qr [iA 8 (.mov (cI 0))] e14n38
abbrev e14n42 := cd 58 (.reg [mA 59 5, mA 60 7, iA 61 (.lit false 1 false (.sl 1 true []) 1 [(0, (.t 60))]), iA 62 (.append false 1 24 (.t 59) (.t 61)), mA 5 62]) .skip
abbrev e14n43 := qr [mA 54 7, iA 55 (.iaddr 1 (.t 54) (cI 0)), lA 56 1 55, mA 57 6, bA 58 .eql 56 57] e14n42
abbrev e14n44 : EC := .seq e14n39 e14n43
abbrev e14n45 := qr [iA 7 (.mov (.c (.sl 1 true [])))] e14n44
abbrev e14n46 : EC := .block 3 e14n45
abbrev e14n48 : EC := .seq e14n46 (.reg [mA 28 6, bC 29 .add 28 1, mA 6 29])
abbrev e14n49 : EC := .seq e14n23 e14n48
abbrev e14n50 : EC := .loop e14n49
abbrev e14n51 : EC := .block 2 e14n50
abbrev e14n52 := qr [iA 6 (.mov (cI 0))] e14n51
abbrev e14n54 := qr [mA 63 5, mA 2 63] .ret
abbrev e14n55 : EC := .seq e14n52 e14n54
abbrev e14n56 := qr [iA 5 (.mov (.c (.sl 1 true [])))] e14n55
abbrev e14n57 : EC := .seq e14n18 e14n56
abbrev e14n58 := qr [iA 3 (.mov (.c (.sl 1 true [])))] e14n57
abbrev e14n59 : EC := .seq e14n5 e14n58
abbrev e14n60 := qr [iA 2 (.mov (.c (.sl 1 true [])))] e14n59
abbrev e14 : EF := ⟨64, 1, [(.inl 2)], e14n60⟩
theorem e14_ok : compFn Tryd.prog {} Tryd.f14 = some e14 := by kernel_rfl
theorem e14_nm : (Tryd.f14.name == "runtime.NumGoroutine") = false := by kernel_rfl

abbrev e15n4 := cd 10 (.reg [mA 11 5, mA 12 1, bA 13 .add 11 12, mA 5 13]) .skip
abbrev e15n5 := qr [mA 9 5, bC 10 .lss 9 0] e15n4
abbrev e15n7 := qr [mA 14 5, mA 4 14] .ret
abbrev e15n8 : EC := .seq e15n5 e15n7
abbrev e15n9 := qr [mA 6 0, mA 7 1, bA 8 .rem 6 7, mA 5 8] e15n8
abbrev e15n10 := qr [iA 4 (.mov (cI 0))] e15n9
abbrev e15 : EF := ⟨15, 2, [(.inl 4)], e15n10⟩
theorem e15_ok : compFn Tryd.prog {} Tryd.f15 = some e15 := by kernel_rfl
theorem e15_nm : (Tryd.f15.name == "runtime.NumGoroutine") = false := by kernel_rfl
abbrev e16n3 := qr [iA 4 (.mov (cB false))] .ret
abbrev e16n4 := cd 10 e16n3 .skip
abbrev e16n5 := qr [mA 6 0, zA 7 6, mA 8 1, zA 9 8, bA 10 .neq 7 9] e16n4
abbrev e16n8 := cd 14 .skip (.exit 0)
abbrev e16n9 := qr [mA 11 5, mA 12 0, zA 13 12, bA 14 .lss 11 13] e16n8
abbrev e16n12 := qr [iA 4 (.mov (cB false))] .ret
abbrev e16n13 := cd 25 e16n12 .skip
abbrev e16n14 := qr [mN 17 0, mN 18 5, aN 19 1 17 18, lR 20 1 19, mN 21 1, mN 22 5, aN 23 1 21 22, lR 24 1 23, iN 25 (.bin .neq (.t 20) (.t 24))] e16n13
abbrev e16n15 : EC := .block 1 e16n14
abbrev e16n17 : EC := .seq e16n15 (.reg [mA 15 5, bC 16 .add 15 1, mA 5 16])
abbrev e16n18 : EC := .seq e16n9 e16n17
abbrev e16n19 : EC := .loop e16n18
abbrev e16n20 : EC := .block 0 e16n19
abbrev e16n21 := qr [iA 5 (.mov (cI 0))] e16n20
abbrev e16n23 := qr [iA 4 (.mov (cB true))] .ret
abbrev e16n24 : EC := .seq e16n21 e16n23
abbrev e16n25 : EC := .seq e16n5 e16n24
abbrev e16n26 := qr [iA 4 (.mov (cB false))] e16n25
abbrev e16 : EF := ⟨26, 2, [(.inl 4)], e16n26⟩
theorem e16_ok : compFn Tryd.prog {} Tryd.f16 = some e16 := by kernel_rfl
theorem e16_nm : (Tryd.f16.name == "runtime.NumGoroutine") = false := by kernel_rfl
abbrev e17n3 := qr [mA 9 0, mA 10 1, iA 11 (.slc 1 (.t 9) none (some (.t 10)) none), mA 4 11] .ret
abbrev e17n4 := cd 8 e17n3 .skip
abbrev e17n5 := qr [mA 5 0, zA 6 5, mA 7 1, bA 8 .gtr 6 7] e17n4
abbrev e17n7 := qr [mA 12 0, mA 4 12] .ret
abbrev e17n8 : EC := .seq e17n5 e17n7
abbrev e17n9 := qr [iA 4 (.mov (.c (.sl 1 true [])))] e17n8
abbrev e17 : EF := ⟨13, 2, [(.inl 4)], e17n9⟩
theorem e17_ok : compFn Tryd.prog {} Tryd.f17 = some e17 := by kernel_rfl
theorem e17_nm : (Tryd.f17.name == "runtime.NumGoroutine") = false := by kernel_rfl
abbrev e18n4 := cd 21 .skip (.exit 0)
abbrev e18n7 := qr [mA 22 20, mA 4 22] (.reg [mA 23 3, nA 24 23, fA 25 4 24, lA 26 1 25, mA 27 4, aA 28 1 26 27, ⟨none, none, .store 1 (.t 28) (cI (-1)), .any⟩])
abbrev e18n8 : EC := .block 1 e18n7
abbrev e18n10 : EC := .seq e18n8 (.reg [bC 29 .add 20 1, mA 20 29])
abbrev e18n11 : EC := .seq e18n4 e18n10
abbrev e18n12 := qr [bA 21 .lss 20 19] e18n11
abbrev e18n13 : EC := .loop e18n12
abbrev e18n14 : EC := .block 0 e18n13
abbrev e18n15 := qr [mA 18 0, zA 19 18, iA 20 (.mov (cI 0))] e18n14
abbrev e18n18 := cd 33 .skip (.exit 2)
abbrev e18n22 := cd 42 (.reg [mA 43 3, mA 44 5, iA 45 (cl 28 [(.t 43), (.t 44)])]) .skip
abbrev e18n23 := qr [mA 35 3, nA 36 35, fA 37 1 36, lA 38 1 37, mA 39 5, aA 40 1 38 39, lA 41 1 40, bC 42 .eql 41 0] e18n22
abbrev e18n24 := qr [mA 34 32, mA 5 34] e18n23
abbrev e18n25 : EC := .block 3 e18n24
abbrev e18n27 : EC := .seq e18n25 (.reg [bC 46 .add 32 1, mA 32 46])
abbrev e18n28 : EC := .seq e18n18 e18n27
abbrev e18n29 := qr [bA 33 .lss 32 31] e18n28
abbrev e18n30 : EC := .loop e18n29
abbrev e18n31 : EC := .block 2 e18n30
abbrev e18n32 := qr [mA 30 0, zA 31 30, iA 32 (.mov (cI 0))] e18n31
abbrev e18n34 := qr [mA 47 3, mA 2 47] .ret
abbrev e18n35 : EC := .seq e18n32 e18n34
abbrev e18n36 : EC := .seq e18n15 e18n35
abbrev e18n37 := qr [mN 6 0, mN 7 0, iN 8 (.len (.t 7)), ⟨(some 9), none, .mksl true 1 8 (.int .i64 0) (.t 8) (.t 8), .a⟩, mN 10 0, iN 11 (.len (.t 10)), ⟨(some 12), none, .mksl true 1 8 (.int .i64 0) (.t 11) (.t 11), .a⟩, mN 13 0, iN 14 (.len (.t 13)), ⟨(some 15), none, .mksl true 1 8 (.int .i64 0) (.t 14) (.t 14), .a⟩, iN 16 (.build [(.sl 1 true []), (.sl 1 true []), (.sl 1 true []), (.sl 1 true []), (.sl 1 true []), (.sl 1 true []), (.int .i64 0)] [(0, 1, (.t 6)), (1, 1, (.t 9)), (2, 1, (.t 12)), (4, 1, (.t 15))]), ⟨(some 17), none, .box 7 (.t 16), .a⟩, mN 3 17] e18n36
abbrev e18n38 := qr [iA 2 (.mov (.c .nilp))] e18n37
abbrev e18 : EF := ⟨48, 1, [(.inl 2)], e18n38⟩
theorem e18_ok : compFn Tryd.prog { mu := fun t => [9, 12, 15].contains t, cl := fun r i => ([(11, 2, Cls.w)].find? fun x => x.1 == r && x.2.1 == i).map (·.2.2) } Tryd.f18 = some e18 := by kernel_rfl
theorem e18_nm : (Tryd.f18.name == "runtime.NumGoroutine") = false := by kernel_rfl
abbrev e19n3 := cd 7 .skip (.exit 0)
abbrev e19n6 := qr [mA 8 6, mA 5 8] (.reg [mN 9 5, fN 10 0 2, iN 11 (.iaddrA 16 1 (.t 10) (.t 9)), lR 12 1 11, mN 13 5, fN 14 0 3, iN 15 (.iaddrA 16 1 (.t 14) (.t 13)), lR 16 1 15, iN 17 (.bin .or (.t 12) (.t 16)), fN 18 0 2, iN 19 (.iaddrA 16 1 (.t 18) (.t 9)), sW 1 19 17])
abbrev e19n7 : EC := .block 1 e19n6
abbrev e19n9 : EC := .seq e19n7 (.reg [bC 20 .add 6 1, mA 6 20])
abbrev e19n10 : EC := .seq e19n3 e19n9
abbrev e19n11 := qr [bC 7 .lss 6 16] e19n10
abbrev e19n12 : EC := .loop e19n11
abbrev e19n13 : EC := .block 0 e19n12
abbrev e19n14 := qr [iA 6 (.mov (cI 0))] e19n13
abbrev e19n16 := qr [lG 21 16 2, sA 16 4 21] .ret
abbrev e19n17 : EC := .seq e19n14 e19n16
abbrev e19n18 := qr [iA 2 (.box 16 (.t 0)), iA 3 (.box 16 (.t 1)), iA 4 (.alloc 16 (.agg [(.int .u64 0), (.int .u64 0), (.int .u64 0), (.int .u64 0), (.int .u64 0), (.int .u64 0), (.int .u64 0), (.int .u64 0), (.int .u64 0), (.int .u64 0), (.int .u64 0), (.int .u64 0), (.int .u64 0), (.int .u64 0), (.int .u64 0), (.int .u64 0)]))] e19n17
abbrev e19 : EF := ⟨22, 2, [(.inr (4, true, 16))], e19n18⟩
theorem e19_ok : compFn Tryd.prog {} Tryd.f19 = some e19 := by kernel_rfl
theorem e19_nm : (Tryd.f19.name == "runtime.NumGoroutine") = false := by kernel_rfl
abbrev e20n4 := cd 9 .skip (.exit 0)
abbrev e20n8 := cd 13 (.reg [mN 14 5, iN 15 (.bin .quo (.t 14) (cI 64)), fN 16 0 3, iN 17 (.iaddrA 16 1 (.t 16) (.t 15)), lR 18 1 17, mN 19 5, iN 20 (.bin .rem (.t 19) (cI 64)), iN 21 (.bin .shl (.c (.int .u64 1)) (.t 20)), iN 22 (.bin .or (.t 18) (.t 21)), fN 23 0 3, iN 24 (.iaddrA 16 1 (.t 23) (.t 15)), sW 1 24 22]) .skip
abbrev e20n9 := qr [mA 12 5, iA 13 (cl 29 [.t 12])] e20n8
abbrev e20n10 := qr [aA 10 1 6 8, lA 11 1 10, mA 5 11] e20n9
abbrev e20n11 : EC := .block 1 e20n10
abbrev e20n13 : EC := .seq e20n11 (.reg [bC 25 .add 8 1, mA 8 25])
abbrev e20n14 : EC := .seq e20n4 e20n13
abbrev e20n15 := qr [bA 9 .lss 8 7] e20n14
abbrev e20n16 : EC := .loop e20n15
abbrev e20n17 : EC := .block 0 e20n16
abbrev e20n18 := qr [mA 6 0, zA 7 6, iA 8 (.mov (cI 0))] e20n17
abbrev e20n20 := qr [lG 26 16 3, sA 16 2 26] .ret
abbrev e20n21 : EC := .seq e20n18 e20n20
abbrev e20n22 := qr [iA 3 (.alloc 16 (.agg [(.int .u64 0), (.int .u64 0), (.int .u64 0), (.int .u64 0), (.int .u64 0), (.int .u64 0), (.int .u64 0), (.int .u64 0), (.int .u64 0), (.int .u64 0), (.int .u64 0), (.int .u64 0), (.int .u64 0), (.int .u64 0), (.int .u64 0), (.int .u64 0)]))] e20n21
abbrev e20n23 := qr [iA 2 (.alloc 16 (.agg [(.int .u64 0), (.int .u64 0), (.int .u64 0), (.int .u64 0), (.int .u64 0), (.int .u64 0), (.int .u64 0), (.int .u64 0), (.int .u64 0), (.int .u64 0), (.int .u64 0), (.int .u64 0), (.int .u64 0), (.int .u64 0), (.int .u64 0), (.int .u64 0)]))] e20n22
abbrev e20 : EF := ⟨27, 1, [(.inr (2, true, 16))], e20n23⟩
theorem e20_ok : compFn Tryd.prog {} Tryd.f20 = some e20 := by kernel_rfl
theorem e20_nm : (Tryd.f20.name == "runtime.NumGoroutine") = false := by kernel_rfl
abbrev e21n4 := cd 9 .skip (.exit 0)
abbrev e21n7 := cd 13 .skip (.exit 2)
abbrev e21n8 := qr [mA 12 5, iA 13 (.bin .neq (.t 12) (.c (.int .u64 0)))] e21n7
abbrev e21n10 : EC := .block 3 (.reg [mA 18 3, mA 19 4, bC 20 .mul 19 64, mA 21 5, iA 22 (cl 30 [.t 21]), bA 23 .add 20 22, iA 24 (.lit false 1 false (.int .i64 0) 1 [(0, (.t 23))]), iA 25 (.append false 1 8 (.t 18) (.t 24)), mA 3 25])
abbrev e21n12 : EC := .seq e21n10 (.reg [mA 14 5, mA 15 5, iA 16 (.bin .sub (.t 15) (.c (.int .u64 1))), bA 17 .and 14 16, mA 5 17])
abbrev e21n13 : EC := .seq e21n8 e21n12
abbrev e21n14 : EC := .loop e21n13
abbrev e21n15 : EC := .block 2 e21n14
abbrev e21n16 := qr [mA 10 8, iA 11 (.idxA false 16 1 (.t 7) (.t 8)), mA 4 10, mA 5 11] e21n15
abbrev e21n17 : EC := .block 1 e21n16
abbrev e21n19 : EC := .seq e21n17 (.reg [bC 26 .add 8 1, mA 8 26])
abbrev e21n20 : EC := .seq e21n4 e21n19
abbrev e21n21 := qr [bC 9 .lss 8 16] e21n20
abbrev e21n22 : EC := .loop e21n21
abbrev e21n23 : EC := .block 0 e21n22
abbrev e21n24 := qr [fA 6 0 1, lG 7 16 6, iA 8 (.mov (cI 0))] e21n23
abbrev e21n26 := qr [mA 27 3, mA 2 27] .ret
abbrev e21n27 : EC := .seq e21n24 e21n26
abbrev e21n28 := qr [iA 3 (.mov (.c (.sl 1 true [])))] e21n27
abbrev e21n29 := qr [iA 1 (.box 16 (.t 0)), iA 2 (.mov (.c (.sl 1 true [])))] e21n28
abbrev e21 : EF := ⟨28, 1, [(.inl 2)], e21n29⟩
theorem e21_ok : compFn Tryd.prog {} Tryd.f21 = some e21 := by kernel_rfl
theorem e21_nm : (Tryd.f21.name == "runtime.NumGoroutine") = false := by kernel_rfl
abbrev e22n4 := cd 16 .skip (.exit 0)
abbrev e22n5 := qr [mA 14 6, zA 15 14, bC 16 .gtr 15 0] e22n4
abbrev e22n10 := cd 28 .skip (.exit 2)
abbrev e22n11 := qr [mA 22 8, mA 23 0, mA 24 7, aA 25 1 23 24, lA 26 1 25, zA 27 26, bA 28 .lss 22 27] e22n10
abbrev e22n16 := qr [mA 52 5, mA 53 9, iA 54 (cl 31 [(.t 52), (.t 53)]), mA 5 54] (.reg [mA 55 6, mA 56 9, iA 57 (.lit false 1 false (.int .i64 0) 1 [(0, (.t 56))]), iA 58 (.append false 1 8 (.t 55) (.t 57)), mA 6 58])
abbrev e22n17 := cd 51 e22n16 .skip
abbrev e22n18 := qr [mA 38 9, bC 39 .geq 38 0, mA 40 39, gT 41 40 (oM 9), gT 42 40 (oM 0), gT 43 40 (.len (.t 42)), gT 44 40 (.bin .lss (.t 41) (.t 43)), pA 45 40 44, mA 46 45, gT 47 46 (oM 5), gT 48 46 (oM 9), gT 49 46 (cl 27 [(.t 47), (.t 48)]), gT 50 46 (.un .not (.t 49)), pA 51 46 50] e22n17
abbrev e22n19 := qr [mA 31 0, mA 32 7, aA 33 1 31 32, lA 34 1 33, mA 35 8, aA 36 1 34 35, lA 37 1 36, mA 9 37] e22n18
abbrev e22n20 : EC := .block 3 e22n19
abbrev e22n22 : EC := .seq e22n20 (.reg [mA 29 8, bC 30 .add 29 1, mA 8 30])
abbrev e22n23 : EC := .seq e22n11 e22n22
abbrev e22n24 : EC := .loop e22n23
abbrev e22n25 : EC := .block 2 e22n24
abbrev e22n26 := qr [iA 8 (.mov (cI 0))] e22n25
abbrev e22n27 := qr [mA 20 6, iA 21 (.slc 1 (.t 20) (some (cI 1)) none none), mA 6 21] e22n26
abbrev e22n28 := qr [mA 17 6, iA 18 (.iaddr 1 (.t 17) (cI 0)), lA 19 1 18, mA 7 19] e22n27
abbrev e22n29 : EC := .block 1 e22n28
abbrev e22n30 : EC := .seq e22n5 e22n29
abbrev e22n31 : EC := .loop e22n30
abbrev e22n32 : EC := .block 0 e22n31
abbrev e22n34 := qr [mA 59 5, mA 4 59] .ret
abbrev e22n35 : EC := .seq e22n32 e22n34
abbrev e22n36 := qr [mA 12 1, iA 13 (.lit false 1 false (.int .i64 0) 1 [(0, (.t 12))]), mA 6 13] e22n35
abbrev e22n37 := qr [mA 10 1, iA 11 (.lit false 1 false (.int .i64 0) 1 [(0, (.t 10))]), mA 5 11] e22n36
abbrev e22n38 := qr [iA 4 (.mov (.c (.sl 1 true [])))] e22n37
abbrev e22 : EF := ⟨60, 2, [(.inl 4)], e22n38⟩
theorem e22_ok : compFn Tryd.prog {} Tryd.f22 = some e22 := by kernel_rfl
theorem e22_nm : (Tryd.f22.name == "runtime.NumGoroutine") = false := by kernel_rfl
abbrev e23n4 := cd 8 .skip (.exit 0)
abbrev e23n5 := qr [mA 5 4, mA 6 0, zA 7 6, bA 8 .lss 5 7] e23n4
abbrev e23n8 := cd 22 (.reg [mA 23 3, mA 24 0, mA 25 4, aA 26 1 24 25, lA 27 1 26, iA 28 (cl 31 [(.t 23), (.t 27)]), mA 3 28]) .skip
abbrev e23n9 := qr [mA 11 0, mA 12 4, aA 13 1 11 12, lA 14 1 13, bC 15 .geq 14 0, mA 16 15, gT 17 16 (oM 0), gT 18 16 (oM 4), gT 19 16 (.iaddr 1 (.t 17) (.t 18)), gT 20 16 (oL 1 19), gT 21 16 (.bin .lss (.t 20) (cI 1024)), pA 22 16 21] e23n8
abbrev e23n10 : EC := .block 1 e23n9
abbrev e23n12 : EC := .seq e23n10 (.reg [mA 9 4, bC 10 .add 9 1, mA 4 10])
abbrev e23n13 : EC := .seq e23n5 e23n12
abbrev e23n14 : EC := .loop e23n13
abbrev e23n15 : EC := .block 0 e23n14
abbrev e23n16 := qr [iA 4 (.mov (cI 0))] e23n15
abbrev e23n18 := qr [mA 29 3, mA 2 29] .ret
abbrev e23n19 : EC := .seq e23n16 e23n18
abbrev e23n20 := qr [iA 3 (.mov (.c (.sl 1 true [])))] e23n19
abbrev e23n21 := qr [iA 2 (.mov (.c (.sl 1 true [])))] e23n20
abbrev e23 : EF := ⟨30, 1, [(.inl 2)], e23n21⟩
theorem e23_ok : compFn Tryd.prog {} Tryd.f23 = some e23 := by kernel_rfl
theorem e23_nm : (Tryd.f23.name == "runtime.NumGoroutine") = false := by kernel_rfl
abbrev e27n3 := cd 9 .skip (.exit 0)
abbrev e27n4 := qr [mA 6 5, mA 7 0, zA 8 7, bA 9 .lss 6 8] e27n3
abbrev e27n7 := qr [iA 4 (.mov (cB true))] .ret
abbrev e27n8 := cd 17 e27n7 .skip
abbrev e27n9 := qr [mA 12 0, mA 13 5, aA 14 1 12 13, lA 15 1 14, mA 16 1, bA 17 .eql 15 16] e27n8
abbrev e27n10 : EC := .block 1 e27n9
abbrev e27n12 : EC := .seq e27n10 (.reg [mA 10 5, bC 11 .add 10 1, mA 5 11])
abbrev e27n13 : EC := .seq e27n4 e27n12
abbrev e27n14 : EC := .loop e27n13
abbrev e27n15 : EC := .block 0 e27n14
abbrev e27n16 := qr [iA 5 (.mov (cI 0))] e27n15
abbrev e27n18 := qr [iA 4 (.mov (cB false))] .ret
abbrev e27n19 : EC := .seq e27n16 e27n18
abbrev e27n20 := qr [iA 4 (.mov (cB false))] e27n19
abbrev e27 : EF := ⟨18, 2, [(.inl 4)], e27n20⟩
theorem e27_ok : compFn Tryd.prog {} Tryd.f27 = some e27 := by kernel_rfl
theorem e27_nm : (Tryd.f27.name == "runtime.NumGoroutine") = false := by kernel_rfl
abbrev e28n5 := cd 52 .skip (.exit 0)
abbrev e28n11 := qr [mA 76 0, mA 77 5, iA 78 (cl 28 [(.t 76), (.t 77)])] (.reg [mN 79 0, nN 80 79, fN 81 2 80, lR 82 1 81, mN 83 1, mN 84 0, nN 85 84, fN 86 2 85, lR 87 1 86, mN 88 1, aN 89 1 87 88, lR 90 1 89, mN 91 0, nN 92 91, fN 93 2 92, lR 94 1 93, mN 95 5, aN 96 1 94 95, lR 97 1 96, iN 98 (.minmax false [(.t 90), (.t 97)]), aN 99 1 82 83, sW 1 99 98])
abbrev e28n14 := cd 100 (.reg [mN 109 0, nN 110 109, fN 111 2 110, lR 112 1 111, mN 113 1, mN 114 0, nN 115 114, fN 116 2 115, lR 117 1 116, mN 118 1, aN 119 1 117 118, lR 120 1 119, mN 121 0, nN 122 121, fN 123 1 122, lR 124 1 123, mN 125 5, aN 126 1 124 125, lR 127 1 126, iN 128 (.minmax false [(.t 120), (.t 127)]), aN 129 1 112 113, sW 1 129 128]) .skip
abbrev e28n15 := qr [mA 101 0, nA 102 101, fA 103 4 102, lA 104 1 103, mA 105 5, aA 106 1 104 105, lA 107 1 106, bC 108 .lss 107 0, mA 100 108] e28n14
abbrev e28n16 := cd 67 e28n11 e28n15
abbrev e28n17 := qr [mA 68 0, nA 69 68, fA 70 1 69, lA 71 1 70, mA 72 5, aA 73 1 71 72, lA 74 1 73, bC 75 .eql 74 0, mA 67 75] e28n16
abbrev e28n18 := cd 55 .skip e28n17
abbrev e28n19 := qr [mA 56 5, bC 57 .lss 56 0, mA 58 57, gF 59 58 (oM 5), gF 60 58 (oM 0), gF 61 58 (.nilck (.t 60)), gF 62 58 (oF 0 61), gF 63 58 (oL 1 62), gF 64 58 (.len (.t 63)), gF 65 58 (.bin .geq (.t 59) (.t 64)), pO 66 58 65, mA 55 66] e28n18
abbrev e28n20 : EC := .block 2 e28n19
abbrev e28n21 := qr [aA 53 1 49 51, lA 54 1 53, mA 5 54] e28n20
abbrev e28n22 : EC := .block 1 e28n21
abbrev e28n24 : EC := .seq e28n22 (.reg [bC 130 .add 51 1, mA 51 130])
abbrev e28n25 : EC := .seq e28n5 e28n24
abbrev e28n26 := qr [bA 52 .lss 51 50] e28n25
abbrev e28n27 : EC := .loop e28n26
abbrev e28n28 : EC := .block 0 e28n27
abbrev e28n29 := qr [mA 43 0, nA 44 43, fA 45 0 44, lA 46 1 45, mA 47 1, aA 48 1 46 47, lA 49 1 48, zA 50 49, iA 51 (.mov (cI 0))] e28n28
abbrev e28n32 := cd 145 (.reg [mA 146 0, mA 147 1, iA 148 (cl 35 [(.t 146), (.t 147)])]) .skip
abbrev e28n33 := qr [mN 131 0, nN 132 131, fN 133 2 132, lR 134 1 133, mN 135 1, aN 136 1 134 135, lR 137 1 136, mN 138 0, nN 139 138, fN 140 1 139, lR 141 1 140, mN 142 1, aN 143 1 141 142, lR 144 1 143, iN 145 (.bin .eql (.t 137) (.t 144))] e28n32
abbrev e28n34 : EC := .seq e28n29 e28n33
abbrev e28n35 := qr [mA 33 0, mA 34 0, nA 35 34, fA 36 3 35, lA 37 1 36, mA 38 1, iA 39 (.lit false 1 false (.int .i64 0) 1 [(0, (.t 38))]), iA 40 (.append true 1 8 (.t 37) (.t 39)), nA 41 33, fA 42 3 41, sA 1 42 40] e28n34
abbrev e28n36 := qr [mN 13 0, nN 14 13, fN 15 1 14, lR 16 1 15, mN 17 1, mN 18 0, nN 19 18, fN 20 2 19, lR 21 1 20, mN 22 1, mN 23 0, nN 24 23, fN 25 6 24, lR 26 1 25, mN 27 0, nN 28 27, fN 29 6 28, lR 30 1 29, aN 31 1 16 17, sW 1 31 26, aN 32 1 21 22, sW 1 32 30] e28n35
abbrev e28n37 := qr [mA 6 0, nA 7 6, fA 8 6 7, lA 9 1 8, bC 10 .add 9 1, nA 11 6, fA 12 6 11, sA 1 12 10] e28n36
abbrev e28 : EF := ⟨149, 2, [], e28n37⟩
theorem e28_ok : compFn Tryd.prog { mu := fun t => [40].contains t, cl := fun r i => ([(8, 2, Cls.w), (14, 2, Cls.w)].find? fun x => x.1 == r && x.2.1 == i).map (·.2.2) } Tryd.f28 = some e28 := by kernel_rfl
theorem e28_nm : (Tryd.f28.name == "runtime.NumGoroutine") = false := by kernel_rfl
abbrev e29n2 := qr [mA 3 0, bC 4 .geq 3 0, mA 5 4, gT 6 5 (oM 0), gT 7 5 (.bin .lss (.t 6) (cI 1024)), pA 8 5 7, mA 2 8] .ret
abbrev e29n3 := qr [iA 2 (.mov (cB false))] e29n2
abbrev e29 : EF := ⟨9, 1, [(.inl 2)], e29n3⟩
theorem e29_ok : compFn Tryd.prog {} Tryd.f29 = some e29 := by kernel_rfl
theorem e29_nm : (Tryd.f29.name == "runtime.NumGoroutine") = false := by kernel_rfl
abbrev e30n3 := qr [iA 2 (.mov (cI 64))] .ret
abbrev e30n4 := cd 4 e30n3 .skip
abbrev e30n5 := qr [mA 3 0, iA 4 (.bin .eql (.t 3) (.c (.int .u64 0)))] e30n4
abbrev e30n7 := qr [mA 5 0, mA 6 0, iA 7 (.un .neg (.t 6)), bA 8 .and 5 7, iA 9 (.bin .mul (.t 8) (.c (.int .u64 285870213051353865))), iA 10 (.bin .shr (.t 9) (.c (.int .u64 58))), iA 11 (.iaddrA 64 1 (.c (Glob.G Tryd.prog 0)) (.t 10)), lA 12 1 11, iA 13 (.conv .i64 (.t 12)), mA 2 13] .ret
abbrev e30n8 : EC := .seq e30n5 e30n7
abbrev e30n9 := qr [iA 2 (.mov (cI 0))] e30n8
abbrev e30 : EF := ⟨14, 1, [(.inl 2)], e30n9⟩
theorem e30_ok : compFn Tryd.prog {} Tryd.f30 = some e30 := by kernel_rfl
theorem e30_nm : (Tryd.f30.name == "runtime.NumGoroutine") = false := by kernel_rfl
abbrev e31n3 := cd 19 .skip (.exit 0)
abbrev e31n4 := qr [mA 9 5, bC 10 .gtr 9 0, mA 11 10, gT 12 11 (oM 0), gT 13 11 (oM 5), gT 14 11 (.bin .sub (.t 13) (cI 1)), gT 15 11 (.iaddr 1 (.t 12) (.t 14)), gT 16 11 (oL 1 15), gT 17 11 (oM 1), gT 18 11 (.bin .gtr (.t 16) (.t 17)), pA 19 11 18] e31n3
abbrev e31n6 : EC := .block 1 (.reg [mA 20 5, bC 21 .sub 20 1, mA 5 21])
abbrev e31n7 : EC := .seq e31n4 e31n6
abbrev e31n8 : EC := .loop e31n7
abbrev e31n9 : EC := .block 0 e31n8
abbrev e31n12 := qr [mA 33 0, mA 4 33] .ret
abbrev e31n13 := cd 32 e31n12 .skip
abbrev e31n14 := qr [mA 22 5, bC 23 .gtr 22 0, mA 24 23, gT 25 24 (oM 0), gT 26 24 (oM 5), gT 27 24 (.bin .sub (.t 26) (cI 1)), gT 28 24 (.iaddr 1 (.t 25) (.t 27)), gT 29 24 (oL 1 28), gT 30 24 (oM 1), gT 31 24 (.bin .eql (.t 29) (.t 30)), pA 32 24 31] e31n13
abbrev e31n17 := qr [mN 39 6, mN 40 1, iN 41 (.lit false 1 false (.int .i64 0) 1 [(0, (.t 40))]), ⟨(some 42), none, .append false 1 8 (.t 39) (.t 41), .t⟩, mN 43 0, mN 44 5, iN 45 (.slc 1 (.t 43) (some (.t 44)) none none), ⟨(some 46), none, .append false 1 8 (.t 42) (.t 45), .t⟩, mN 4 46] .ret
abbrev e31n18 := qr [iA 34 (.lit false 1 false (.int .i64 0) 0 []), mA 35 0, mA 36 5, iA 37 (.slc 1 (.t 35) none (some (.t 36)) none), iA 38 (.append false 1 8 (.t 34) (.t 37)), mA 6 38] e31n17
abbrev e31n19 : EC := .seq e31n14 e31n18
abbrev e31n20 : EC := .seq e31n9 e31n19
abbrev e31n21 := qr [mA 7 0, zA 8 7, mA 5 8] e31n20
abbrev e31n22 := qr [iA 4 (.mov (.c (.sl 1 true [])))] e31n21
abbrev e31 : EF := ⟨47, 2, [(.inl 4)], e31n22⟩
theorem e31_ok : compFn Tryd.prog {} Tryd.f31 = some e31 := by kernel_rfl
theorem e31_nm : (Tryd.f31.name == "runtime.NumGoroutine") = false := by kernel_rfl
abbrev e35n5 := cd 33 .skip (.exit 0)
abbrev e35n8 := qr [aA 34 1 30 32, lA 35 1 34, mA 7 35] (.reg [mN 36 0, nN 37 36, fN 38 4 37, lR 39 1 38, mN 40 7, mN 41 0, nN 42 41, fN 43 5 42, lR 44 1 43, iN 45 (.len (.t 44)), aN 46 1 39 40, sW 1 46 45])
abbrev e35n9 : EC := .block 1 e35n8
abbrev e35n11 : EC := .seq e35n9 (.reg [bC 47 .add 32 1, mA 32 47])
abbrev e35n12 : EC := .seq e35n5 e35n11
abbrev e35n13 := qr [bA 33 .lss 32 31] e35n12
abbrev e35n14 : EC := .loop e35n13
abbrev e35n15 : EC := .block 0 e35n14
abbrev e35n16 := qr [mA 30 5, zA 31 30, iA 32 (.mov (cI 0))] e35n15
abbrev e35n19 := qr [mA 48 5, iA 49 (cl 48 [.t 48])] (.reg [mA 50 0, mA 51 0, nA 52 51, fA 53 5 52, lA 54 1 53, mA 55 5, iA 56 (.lit false 1 false (.sl 1 true []) 1 [(0, (.t 55))]), iA 57 (.append true 1 24 (.t 54) (.t 56)), nA 58 50, fA 59 5 58, sA 1 59 57])
abbrev e35n20 : EC := .seq e35n16 e35n19
abbrev e35n21 := qr [mA 21 0, mA 22 0, nA 23 22, fA 24 3 23, lA 25 1 24, mA 26 4, iA 27 (.slc 1 (.t 25) none (some (.t 26)) none), nA 28 21, fA 29 3 28, sA 1 29 27] e35n20
abbrev e35n22 := qr [mA 14 0, nA 15 14, fA 16 3 15, lA 17 1 16, mA 18 4, iA 19 (.slc 1 (.t 17) (some (.t 18)) none none), iA 20 (cl 47 [.t 19]), mA 5 20] e35n21
abbrev e35n23 := qr [mA 8 0, nA 9 8, fA 10 3 9, lA 11 1 10, mA 12 1, iA 13 (cl 46 [(.t 11), (.t 12)]), mA 4 13] e35n22
abbrev e35 : EF := ⟨60, 2, [], e35n23⟩
theorem e35_ok : compFn Tryd.prog { mu := fun t => [57].contains t } Tryd.f35 = some e35 := by kernel_rfl
theorem e35_nm : (Tryd.f35.name == "runtime.NumGoroutine") = false := by kernel_rfl
abbrev e46n3 := cd 9 .skip (.exit 0)
abbrev e46n7 := qr [mA 17 5, mA 4 17] .ret
abbrev e46n8 := cd 16 e46n7 .skip
abbrev e46n9 := qr [mA 11 1, mA 12 0, mA 13 5, aA 14 1 12 13, lA 15 1 14, bA 16 .eql 11 15] e46n8
abbrev e46n10 := qr [mA 10 8, mA 5 10] e46n9
abbrev e46n11 : EC := .block 1 e46n10
abbrev e46n13 : EC := .seq e46n11 (.reg [bC 18 .add 8 1, mA 8 18])
abbrev e46n14 : EC := .seq e46n3 e46n13
abbrev e46n15 := qr [bA 9 .lss 8 7] e46n14
abbrev e46n16 : EC := .loop e46n15
abbrev e46n17 : EC := .block 0 e46n16
abbrev e46n18 := qr [mA 6 0, zA 7 6, iA 8 (.mov (cI 0))] e46n17
abbrev e46n20 := qr [iA 4 (.mov (cI (-1)))] .ret
abbrev e46n21 : EC := .seq e46n18 e46n20
abbrev e46n22 := qr [iA 4 (.mov (cI 0))] e46n21
abbrev e46 : EF := ⟨19, 2, [(.inl 4)], e46n22⟩
theorem e46_ok : compFn Tryd.prog {} Tryd.f46 = some e46 := by kernel_rfl
theorem e46_nm : (Tryd.f46.name == "runtime.NumGoroutine") = false := by kernel_rfl
end Go.Proofs
