/- Part of a proof that a law of the given program answers true. -/
import Derived.Test.YtkcegflhobejmaaGreatDoorXEC
import Derived.Test.YtkcegflhobejmaaGreatDoorProg
import Derived.KernelRfl
import Derived.Lib.TrailingZeros
namespace Go.Proofs
open Go.E
theorem nm_ {p:Prop} (h:p:=by kernel_rfl):p:=h
instance:Glob Tryz.prog where
 G:=fun g=>if g=0 then .iptr 64 (.agg (Lib.deBruijn64tab.map fun(n:Nat)=>V.int .u8 (n:Int))) 0 else .iptr 0 (.agg []) 0

set_option linter.unusedSimpArgs false
set_option linter.unusedVariables false
set_option maxRecDepth 100000
abbrev zz:List V:=List.replicate 625 (.int .i64 0)
abbrev iA (d:Nat) (o:EOp):Ins:=⟨some d,none,o,.any⟩
abbrev iN (d:Nat) (o:EOp):Ins:=⟨some d,none,o,.n⟩
abbrev iR (d:Nat) (o:EOp):Ins:=⟨some d,none,o,.r⟩
abbrev cI (n:Int):Opd:= .c (.int .i64 n)
abbrev cB (b:Bool):Opd:= .c (.bool b)
abbrev gT (d g:Nat) (o:EOp):Ins:=⟨some d,some (g,true),o,.any⟩
abbrev gF (d g:Nat) (o:EOp):Ins:=⟨some d,some (g,false),o,.any⟩
abbrev oM (s:Nat):EOp:= .mov (.t s)
abbrev oL (n s:Nat):EOp:= .load false n (.t s)
abbrev oG (n s:Nat):EOp:= .load true n (.t s)
abbrev oF (n s:Nat):EOp:= .faddr n (.t s)
abbrev mA (d s:Nat):Ins:=iA d (.mov (.t s))
abbrev mN (d s:Nat):Ins:=iN d (.mov (.t s))
abbrev lA (d n s:Nat):Ins:=iA d (.load false n (.t s))
abbrev lR (d n s:Nat):Ins:=iR d (.load false n (.t s))
abbrev lG (d n s:Nat):Ins:=iA d (.load true n (.t s))
abbrev fA (d n s:Nat):Ins:=iA d (.faddr n (.t s))
abbrev fN (d n s:Nat):Ins:=iN d (.faddr n (.t s))
abbrev nA (d s:Nat):Ins:=iA d (.nilck (.t s))
abbrev nN (d s:Nat):Ins:=iN d (.nilck (.t s))
abbrev zA (d s:Nat):Ins:=iA d (.len (.t s))
abbrev sA (n p x:Nat):Ins:=⟨none,none,.store n (.t p) (.t x),.any⟩
abbrev sW (n p x:Nat):Ins:=⟨none,none,.store n (.t p) (.t x),.w⟩
abbrev bA (d:Nat) (o:BinOp) (x y:Nat):Ins:=iA d (.bin o (.t x) (.t y))
abbrev bC (d:Nat) (o:BinOp) (x:Nat) (y:Int):Ins:=iA d (.bin o (.t x) (.c (.int .i64 y)))
abbrev aA (d z x y:Nat):Ins:=iA d (.iaddr z (.t x) (.t y))
abbrev aN (d z x y:Nat):Ins:=iN d (.iaddr z (.t x) (.t y))
abbrev pA (d x y:Nat):Ins:=iA d (.pick (.t x) (.t y) (.c (.bool false)))
abbrev pO (d x y:Nat):Ins:=iA d (.pick (.t x) (.c (.bool true)) (.t y))
abbrev cl (f:Nat) (l:List Opd):EOp:= .call (.c (.fn f [])) l
abbrev qr (l:List Ins) (b:EC):EC:= .seq (.reg l) b
abbrev cd (c:Nat) (a b:EC):EC:= .cond (.t c) a b
abbrev qY2:=cd 11 (qr [iA 4 (.mov (cB false))] .ret) .skip
abbrev qZb:=qr [iA 10 (cl 10 []),iA 11 (.un .not (.t 10))] qY2
abbrev qUD:=qr [mA 17 6,mA 18 5,zA 19 18,bA 20 .lss 17 19] (cd 20 .skip (.exit 0))
abbrev qXR:=cd 69 (qr [iA 4 (.mov (cB false))] .ret) .skip
abbrev qXq:=qr [mN 32 9,mN 33 32,⟨(some 34),(some (33,true)),.mov (.t 8),.n⟩,⟨(some 35),(some (33,true)),.call (.c (.fn 15 [])) [.t 34],.r⟩,⟨(some 36),(some (33,true)),.mov (.t 8),.n⟩,⟨(some 37),(some (33,true)),.call (.c (.fn 16 [])) [.t 36],.r⟩,⟨(some 38),(some (33,true)),.call (.c (.fn 14 [])) [(.t 35),(.t 37)],.r⟩,⟨(some 39),(some (33,true)),.un .not (.t 38),.n⟩,⟨(some 40),(some (33,true)),.mov (.t 39),.n⟩,⟨(some 41),(some (40,false)),.load true 5 (.t 7),.r⟩,⟨(some 42),(some (40,false)),.mov (.t 8),.n⟩,⟨(some 43),(some (40,false)),.call (.c (.fn 18 [])) [(.t 41),(.t 42)],.r⟩,⟨(some 44),(some (40,false)),.mov (.t 8),.n⟩,⟨(some 45),(some (40,false)),.call (.c (.fn 19 [])) [.t 44],.r⟩,⟨(some 46),(some (40,false)),.call (.c (.fn 17 [])) [(.t 43),(.t 45)],.r⟩,⟨(some 47),(some (40,false)),.un .not (.t 46),.n⟩,⟨(some 48),(some (33,true)),.pick (.t 40) (cB true) (.t 47),.n⟩,⟨(some 49),(some (33,true)),.mov (.t 48),.n⟩,⟨(some 50),(some (49,false)),.load true 5 (.t 7),.r⟩,⟨(some 51),(some (49,false)),.mov (.t 8),.n⟩,⟨(some 52),(some (49,false)),.call (.c (.fn 20 [])) [(.t 50),(.t 51)],.r⟩,⟨(some 53),(some (49,false)),.load true 5 (.t 7),.r⟩,⟨(some 54),(some (49,false)),.mov (.t 8),.n⟩,⟨(some 55),(some (49,false)),.call (.c (.fn 21 [])) [(.t 53),(.t 54)],.r⟩,⟨(some 56),(some (49,false)),.call (.c (.fn 17 [])) [(.t 52),(.t 55)],.r⟩,⟨(some 57),(some (49,false)),.un .not (.t 56),.n⟩,⟨(some 58),(some (33,true)),.pick (.t 49) (cB true) (.t 57),.n⟩,⟨(some 59),(some (33,true)),.mov (.t 58),.n⟩,⟨(some 60),(some (59,false)),.load true 5 (.t 7),.r⟩,⟨(some 61),(some (59,false)),.mov (.t 8),.n⟩,⟨(some 62),(some (59,false)),.call (.c (.fn 22 [])) [(.t 60),(.t 61)],.r⟩,⟨(some 63),(some (59,false)),.load true 5 (.t 7),.r⟩,⟨(some 64),(some (59,false)),.mov (.t 8),.n⟩,⟨(some 65),(some (59,false)),.call (.c (.fn 23 [])) [(.t 63),(.t 64)],.r⟩,⟨(some 66),(some (59,false)),.call (.c (.fn 17 [])) [(.t 62),(.t 65)],.r⟩,⟨(some 67),(some (59,false)),.un .not (.t 66),.n⟩,⟨(some 68),(some (33,true)),.pick (.t 59) (cB true) (.t 67),.n⟩,iN 69 (.pick (.t 33) (.t 68) (cB false))] qXR
abbrev qTA:=qr [mA 24 5,mA 25 6,aA 26 4 24 25,lG 27 4 26,iA 28 (cl 13 [.t 27]),mA 23 28,iA 29 (.ext (.t 23) 0),iA 30 (.ext (.t 23) 1),iA 31 (.ext (.t 23) 2),iA 7 (.alloc 5 (.agg [(.sl 6 true []),(.sl 2 true []),(.sl 6 true []),(.str []),(.str [])])),sA 5 7 29,mA 8 30,mA 9 31] qXq
abbrev qUk:EC:= .seq (.block 1 qTA) (.reg [mA 21 6,bC 22 .add 21 1,mA 6 22])
abbrev qVQ:=qr [iA 6 (.mov (cI 0))] (.block 0 (.loop (.seq qUD qUk)))
abbrev qXL:EC:= .seq qVQ (qr [iA 4 (.mov (cB true))] .ret)
abbrev qWH:=qr [iR 12 (oG 4 2),iR 13 (cl 11 [.t 12]),iR 14 (oG 5 3),iR 15 (cl 12 [.t 14]),iN 16 (.lit false 4 true (.agg [(.str []),(.sl 4 true []),(.sl 3 true []),(.str [])]) 2 [(0,(.t 13)),(1,(.t 15))]),mN 5 16] qXL
abbrev qPF:=qr [iA 2 (.box 4 (.t 0)),iA 3 (.box 5 (.t 1)),iA 4 (.mov (cB false))] (.seq qZb qWH)
abbrev e3:EF:=⟨70,2,[(.inl 4)],qPF⟩
theorem qVh:qh Tryz.prog {} Tryz.f3=some e3:=by kernel_rfl
abbrev e10:EF:=⟨122,0,[(.inl 0)],(qr [iA 0 (.mov (cB false))] (qr [iA 9 (.build [(.str []),(.bool false),(.int .i64 0),(.int .i64 0)] [(0,1,(.c (.str [101])))]),iA 10 (.build [(.str []),(.bool false),(.int .i64 0),(.int .i64 0),(.str []),(.int .i64 0)] [(0,4,(.t 9))]),iA 11 (.build [(.str []),(.bool false),(.int .i64 0),(.int .i64 0)] [(0,1,(.c (.str [120]))),(1,1,(cB true))]),iA 12 (.build [(.str []),(.bool false),(.int .i64 0),(.int .i64 0),(.str []),(.int .i64 0)] [(0,4,(.t 11))]),iA 13 (.build [(.str []),(.bool false),(.int .i64 0),(.int .i64 0)] [(0,1,(.c (.str [43]))),(1,1,(cB true))]),iA 14 (.build [(.str []),(.bool false),(.int .i64 0),(.int .i64 0),(.str []),(.int .i64 0)] [(0,4,(.t 13))]),iA 1 (.alloc 6 (.agg [(.str []),(.bool false),(.int .i64 0),(.int .i64 0),(.str []),(.int .i64 0)])),iA 2 (.alloc 6 (.agg [(.str []),(.bool false),(.int .i64 0),(.int .i64 0),(.str []),(.int .i64 0)])),iA 3 (.alloc 6 (.agg [(.str []),(.bool false),(.int .i64 0),(.int .i64 0),(.str []),(.int .i64 0)])),sA 6 1 10,sA 6 2 12,sA 6 3 14] (qr [lG 16 6 1,lG 17 6 3,lG 18 6 2,iA 19 (.lit false 6 true (.agg [(.str []),(.bool false),(.int .i64 0),(.int .i64 0),(.str []),(.int .i64 0)]) 3 [(0,(.t 16)),(1,(.t 17)),(2,(.t 18))]),iA 20 (.build [(.sl 6 true []),(.str []),(.bool false),(.int .i64 0),(.int .i64 0),(.int .i64 0)] [(0,1,(.t 19))]),lG 21 6 2,iA 22 (.lit false 6 true (.agg [(.str []),(.bool false),(.int .i64 0),(.int .i64 0),(.str []),(.int .i64 0)]) 1 [(0,(.t 21))]),iA 23 (.build [(.sl 6 true []),(.str []),(.bool false),(.int .i64 0),(.int .i64 0),(.int .i64 0)] [(0,1,(.t 22))]),iA 24 (.lit false 6 true (.agg [(.sl 6 true []),(.str []),(.bool false),(.int .i64 0),(.int .i64 0),(.int .i64 0)]) 2 [(0,(.t 20)),(1,(.t 23))]),iA 25 (.build [(.str []),(.sl 6 true []),(.int .i64 0)] [(0,1,(.c (.str [101]))),(1,1,(.t 24))]),iA 26 (.lit false 3 true (.agg [(.str []),(.sl 6 true []),(.int .i64 0)]) 1 [(0,(.t 25))]),iA 27 (.build [(.str []),(.sl 4 true []),(.sl 3 true []),(.str [])] [(2,1,(.t 26))]),iA 28 (cl 13 [.t 27]),mA 15 28,iA 29 (.ext (.t 15) 0),iA 30 (.ext (.t 15) 1),iA 31 (.ext (.t 15) 2),iA 4 (.alloc 5 (.agg [(.sl 6 true []),(.sl 2 true []),(.sl 6 true []),(.str []),(.str [])])),sA 5 4 29,mA 5 30,mA 6 31] (qr [mA 32 5,iA 33 (cl 15 [.t 32]),mA 7 33] (qr [lG 34 5 4,mA 35 5,iA 36 (cl 31 [(.t 34),(.t 35)]),mA 8 36] (qr [mN 37 6,mN 38 37,⟨(some 39),(some (38,true)),.mov (.t 7),.n⟩,⟨(some 40),(some (38,true)),.len (.t 39),.n⟩,⟨(some 41),(some (38,true)),.bin .eql (.t 40) (cI 1),.n⟩,iN 42 (.pick (.t 38) (.t 41) (cB false)),mN 43 42,⟨(some 44),(some (43,true)),.mov (.t 7),.n⟩,⟨(some 45),(some (43,true)),.iaddr 2 (.t 44) (cI 0),.n⟩,⟨(some 46),(some (43,true)),.faddr 0 (.t 45),.n⟩,⟨(some 47),(some (43,true)),.load false 1 (.t 46),.r⟩,⟨(some 48),(some (43,true)),.bin .eql (.t 47) (cI 0),.n⟩,iN 49 (.pick (.t 43) (.t 48) (cB false)),mN 50 49,⟨(some 51),(some (50,true)),.mov (.t 7),.n⟩,⟨(some 52),(some (50,true)),.iaddr 2 (.t 51) (cI 0),.n⟩,⟨(some 53),(some (50,true)),.faddr 1 (.t 52),.n⟩,⟨(some 54),(some (50,true)),.load false 1 (.t 53),.r⟩,⟨(some 55),(some (50,true)),.bin .eql (.t 54) (cI 1001),.n⟩,iN 56 (.pick (.t 50) (.t 55) (cB false)),mN 57 56,⟨(some 58),(some (57,true)),.load true 5 (.t 4),.r⟩,⟨(some 59),(some (57,true)),.mov (.t 5),.n⟩,⟨(some 60),(some (57,true)),.call (.c (.fn 18 [])) [(.t 58),(.t 59)],.r⟩,⟨(some 61),(some (57,true)),.lit false 1 false (.int .i64 0) 2 [(0,(cI 0)),(1,(cI 3))],.n⟩,⟨(some 62),(some (57,true)),.lit false 1 false (.sl 1 true []) 1 [(0,(.t 61))],.n⟩,⟨(some 63),(some (57,true)),.call (.c (.fn 17 [])) [(.t 60),(.t 62)],.r⟩,iN 64 (.pick (.t 57) (.t 63) (cB false)),mN 65 64,⟨(some 66),(some (65,true)),.load true 5 (.t 4),.r⟩,⟨(some 67),(some (65,true)),.mov (.t 5),.n⟩,⟨(some 68),(some (65,true)),.call (.c (.fn 28 [])) [(.t 66),(.t 67)],.r⟩,⟨(some 69),(some (65,true)),.lit false 1 false (.int .i64 0) 2 [(0,(cI 0)),(1,(cI 3))],.n⟩,⟨(some 70),(some (65,true)),.lit false 1 false (.sl 1 true []) 1 [(0,(.t 69))],.n⟩,⟨(some 71),(some (65,true)),.call (.c (.fn 17 [])) [(.t 68),(.t 70)],.r⟩,iN 72 (.pick (.t 65) (.t 71) (cB false)),mN 73 72,⟨(some 74),(some (73,true)),.mov (.t 8),.n⟩,⟨(some 75),(some (73,true)),.len (.t 74),.n⟩,⟨(some 76),(some (73,true)),.bin .eql (.t 75) (cI 2),.n⟩,iN 77 (.pick (.t 73) (.t 76) (cB false)),mN 78 77,⟨(some 79),(some (78,true)),.mov (.t 8),.n⟩,⟨(some 80),(some (78,true)),.iaddr 3 (.t 79) (cI 0),.n⟩,⟨(some 81),(some (78,true)),.faddr 2 (.t 80),.n⟩,⟨(some 82),(some (78,true)),.load false 1 (.t 81),.r⟩,⟨(some 83),(some (78,true)),.lit false 1 false (.int .i64 0) 2 [(0,(cI 0)),(1,(cI 3))],.n⟩,⟨(some 84),(some (78,true)),.call (.c (.fn 25 [])) [(.t 82),(.t 83)],.r⟩,iN 85 (.pick (.t 78) (.t 84) (cB false)),mN 86 85,⟨(some 87),(some (86,true)),.load true 5 (.t 4),.r⟩,⟨(some 88),(some (86,true)),.mov (.t 5),.n⟩,⟨(some 89),(some (86,true)),.mov (.t 8),.n⟩,⟨(some 90),(some (86,true)),.iaddr 3 (.t 89) (cI 0),.n⟩,⟨(some 91),(some (86,true)),.faddr 0 (.t 90),.n⟩,⟨(some 92),(some (86,true)),.load false 1 (.t 91),.r⟩,⟨(some 93),(some (86,true)),.mov (.t 8),.n⟩,⟨(some 94),(some (86,true)),.iaddr 3 (.t 93) (cI 0),.n⟩,⟨(some 95),(some (86,true)),.faddr 1 (.t 94),.n⟩,⟨(some 96),(some (86,true)),.load false 1 (.t 95),.r⟩,⟨(some 97),(some (86,true)),.call (.c (.fn 26 [])) [(.t 87),(.t 88),(.t 92),(.t 96)],.r⟩,⟨(some 98),(some (86,true)),.lit false 1 false (.int .i64 0) 1 [(0,(cI 0))],.n⟩,⟨(some 99),(some (86,true)),.call (.c (.fn 25 [])) [(.t 97),(.t 98)],.r⟩,iN 100 (.pick (.t 86) (.t 99) (cB false)),mN 101 100,⟨(some 102),(some (101,true)),.load true 5 (.t 4),.r⟩,⟨(some 103),(some (101,true)),.mov (.t 5),.n⟩,⟨(some 104),(some (101,true)),.call (.c (.fn 26 [])) [(.t 102),(.t 103),(cI 0),(cI 77)],.r⟩,⟨(some 105),(some (101,true)),.len (.t 104),.n⟩,⟨(some 106),(some (101,true)),.bin .eql (.t 105) (cI 0),.n⟩,iN 107 (.pick (.t 101) (.t 106) (cB false)),mN 108 107,⟨(some 109),(some (108,true)),.load true 5 (.t 4),.r⟩,⟨(some 110),(some (108,true)),.mov (.t 5),.n⟩,⟨(some 111),(some (108,true)),.call (.c (.fn 20 [])) [(.t 109),(.t 110)],.r⟩,⟨(some 112),(some (108,true)),.len (.t 111),.n⟩,⟨(some 113),(some (108,true)),.bin .eql (.t 112) (cI 1),.n⟩,iN 114 (.pick (.t 108) (.t 113) (cB false)),mN 115 114,⟨(some 116),(some (115,true)),.load true 5 (.t 4),.r⟩,⟨(some 117),(some (115,true)),.mov (.t 5),.n⟩,⟨(some 118),(some (115,true)),.call (.c (.fn 22 [])) [(.t 116),(.t 117)],.r⟩,⟨(some 119),(some (115,true)),.len (.t 118),.n⟩,⟨(some 120),(some (115,true)),.bin .eql (.t 119) (cI 1),.n⟩,iN 121 (.pick (.t 115) (.t 120) (cB false)),mN 0 121] .ret))))))⟩
theorem qJx:qh Tryz.prog {} Tryz.f10=some e10:=by kernel_rfl
abbrev qBV:=[iA 1 (.box 4 (.t 0)),iA 2 (.alloc 4 (.agg [(.str []),(.sl 4 true []),(.sl 3 true []),(.str [])]))]
abbrev qES:=[fN 13 0 1,lR 14 1 13,iR 15 (cl 44 [(.t 14),(cI 40)]),fN 16 3 1,lR 17 1 16,iR 18 (cl 44 [(.t 17),(cI 40)]),iN 19 (.build [(.str []),(.sl 4 true []),(.sl 3 true []),(.str [])] [(0,1,(.t 15)),(3,1,(.t 18))]),⟨(some 3),none,.alloc 4 (.agg [(.str []),(.sl 4 true []),(.sl 3 true []),(.str [])]),.a⟩,sW 4 3 19]
abbrev qI7:=qr [mA 20 4,fA 21 1 1,lA 22 1 21,zA 23 22,bA 24 .lss 20 23,mA 25 24,gT 26 25 (oM 4),gT 27 25 (.bin .lss (.t 26) (cI 8)),pA 28 25 27] (cd 28 .skip (.exit 0))
abbrev qLV:=[fN 31 1 1,lR 32 1 31,mN 33 4,aN 34 4 32 33,fN 35 0 34,lR 36 1 35,fN 37 1 1,lR 38 1 37,mN 39 4,aN 40 4 38 39,fN 41 1 40,lR 42 1 41,iR 43 (cl 44 [(.t 42),(cI 25)]),fN 44 1 1,lR 45 1 44,mN 46 4,aN 47 4 45 46,fN 48 3 47,lR 49 1 48,iN 50 (.build [(.int .i64 0),(.str []),(.sl 4 true []),(.int .i64 0)] [(0,1,(.t 36)),(1,1,(.t 43)),(3,1,(.t 49))]),⟨(some 5),none,.alloc 4 (.agg [(.int .i64 0),(.str []),(.sl 4 true []),(.int .i64 0)]),.a⟩,sW 4 5 50]
abbrev qHb:=qr [mA 51 6,fA 52 1 1,lA 53 1 52,mA 54 4,aA 55 4 53 54,fA 56 2 55,lA 57 1 56,zA 58 57,bA 59 .lss 51 58,mA 60 59,gT 61 60 (oM 6),gT 62 60 (.bin .lss (.t 61) (cI 6)),pA 63 60 62] (cd 63 .skip (.exit 2))
abbrev qMY:EC:= .block 3 (.reg [fN 66 2 5,lR 67 1 66,fN 68 1 1,lR 69 1 68,mN 70 4,aN 71 4 69 70,fN 72 2 71,lR 73 1 72,mN 74 6,aN 75 4 73 74,iR 76 (oG 4 75),iR 77 (cl 45 [.t 76]),iN 78 (.lit false 4 true (.agg [(.str []),(.bool false),(.int .i64 0),(.int .i64 0)]) 1 [(0,(.t 77))]),⟨(some 79),none,.append false 4 40 (.t 67) (.t 78),.t⟩,fN 80 2 5,sW 1 80 79])
abbrev qH8:EC:= .seq qMY (.reg [mA 64 6,bC 65 .add 64 1,mA 6 65])
abbrev qcy:=qr [iA 6 (.mov (cI 0))] (.block 2 (.loop (.seq qHb qH8)))
abbrev qjD:=[fA 81 1 3,lA 82 1 81,lG 83 4 5,iA 84 (.lit false 4 true (.agg [(.int .i64 0),(.str []),(.sl 4 true []),(.int .i64 0)]) 1 [(0,(.t 83))]),iA 85 (.append false 4 56 (.t 82) (.t 84)),fA 86 1 3,sA 1 86 85]
abbrev qAu:EC:= .block 1 (qr qLV (.seq qcy (.reg qjD)))
abbrev qjP:=[mA 29 4,bC 30 .add 29 1,mA 4 30]
abbrev qPp:EC:= .loop (.seq qI7 (.seq qAu (.reg qjP)))
abbrev qcp:=qr [iA 4 (.mov (cI 0))] (.block 0 qPp)
abbrev qjL:=qr [mA 87 7,fA 88 2 1,lA 89 1 88,zA 90 89,bA 91 .lss 87 90,mA 92 91,gT 93 92 (oM 7),gT 94 92 (.bin .lss (.t 93) (cI 6)),pA 95 92 94] (cd 95 .skip (.exit 4))
abbrev qk7:=[fN 98 2 1,lR 99 1 98,mN 100 7,aN 101 3 99 100,fN 102 0 101,lR 103 1 102,iR 104 (cl 44 [(.t 103),(cI 25)]),fN 105 2 1,lR 106 1 105,mN 107 7,aN 108 3 106 107,fN 109 2 108,lR 110 1 109,iN 111 (.build [(.str []),(.sl 6 true []),(.int .i64 0)] [(0,1,(.t 104)),(2,1,(.t 110))]),⟨(some 8),none,.alloc 3 (.agg [(.str []),(.sl 6 true []),(.int .i64 0)]),.a⟩,sW 3 8 111]
abbrev qjc:=qr [mA 112 9,fA 113 2 1,lA 114 1 113,mA 115 7,aA 116 3 114 115,fA 117 1 116,lA 118 1 117,zA 119 118,bA 120 .lss 112 119,mA 121 120,gT 122 121 (oM 9),gT 123 121 (.bin .lss (.t 122) (cI 5)),pA 124 121 123] (cd 124 .skip (.exit 6))
abbrev qjp:=[fN 127 2 1,lR 128 1 127,mN 129 7,aN 130 3 128 129,fN 131 1 130,lR 132 1 131,mN 133 9,aN 134 6 132 133,fN 135 1 134,iR 136 (oG 4 135),iR 137 (cl 45 [.t 136]),fN 138 2 1,lR 139 1 138,mN 140 7,aN 141 3 139 140,fN 142 1 141,lR 143 1 142,mN 144 9,aN 145 6 143 144,fN 146 5 145,lR 147 1 146,iN 148 (.build [(.sl 6 true []),(.str []),(.bool false),(.int .i64 0),(.int .i64 0),(.int .i64 0)] [(1,4,(.t 137)),(5,1,(.t 147))]),⟨(some 10),none,.alloc 6 (.agg [(.sl 6 true []),(.str []),(.bool false),(.int .i64 0),(.int .i64 0),(.int .i64 0)]),.a⟩,sW 6 10 148]
abbrev qS4:=qr [mA 149 11,fA 150 2 1,lA 151 1 150,mA 152 7,aA 153 3 151 152,fA 154 1 153,lA 155 1 154,mA 156 9,aA 157 6 155 156,fA 158 0 157,lA 159 1 158,zA 160 159,bA 161 .lss 149 160,mA 162 161,gT 163 162 (oM 11),gT 164 162 (.bin .lss (.t 163) (cI 6)),pA 165 162 164] (cd 165 .skip (.exit 8))
abbrev qRA:=qr [fA 168 2 1,lA 169 1 168,mA 170 7,aA 171 3 169 170,fA 172 1 171,lA 173 1 172,mA 174 9,aA 175 6 173 174,fA 176 0 175,lA 177 1 176,mA 178 11,aA 179 6 177 178,lG 180 6 179,iA 12 (.alloc 6 (.agg [(.str []),(.bool false),(.int .i64 0),(.int .i64 0),(.str []),(.int .i64 0)])),sA 6 12 180] (.reg [fN 181 0 10,lR 182 1 181,fN 183 0 12,iR 184 (oG 4 183),iR 185 (cl 45 [.t 184]),fN 186 4 12,lR 187 1 186,iR 188 (cl 44 [(.t 187),(cI 60)]),fN 189 5 12,lR 190 1 189,iN 191 (.build [(.str []),(.bool false),(.int .i64 0),(.int .i64 0),(.str []),(.int .i64 0)] [(0,4,(.t 185)),(4,1,(.t 188)),(5,1,(.t 190))]),iN 192 (.lit false 6 true (.agg [(.str []),(.bool false),(.int .i64 0),(.int .i64 0),(.str []),(.int .i64 0)]) 1 [(0,(.t 191))]),⟨(some 193),none,.append false 6 64 (.t 182) (.t 192),.t⟩,fN 194 0 10,sW 1 194 193])
abbrev qH1:EC:= .seq (.block 9 qRA) (.reg [mA 166 11,bC 167 .add 166 1,mA 11 167])
abbrev qbG:=qr [iA 11 (.mov (cI 0))] (.block 8 (.loop (.seq qS4 qH1)))
abbrev qjM:=[fA 195 1 8,lA 196 1 195,lG 197 6 10,iA 198 (.lit false 6 true (.agg [(.sl 6 true []),(.str []),(.bool false),(.int .i64 0),(.int .i64 0),(.int .i64 0)]) 1 [(0,(.t 197))]),iA 199 (.append false 6 72 (.t 196) (.t 198)),fA 200 1 8,sA 1 200 199]
abbrev qDU:EC:= .block 7 (qr qjp (.seq qbG (.reg qjM)))
abbrev qkk:=[mA 125 9,bC 126 .add 125 1,mA 9 126]
abbrev qzQ:EC:= .loop (.seq qjc (.seq qDU (.reg qkk)))
abbrev qcg:=qr [iA 9 (.mov (cI 0))] (.block 6 qzQ)
abbrev qjh:=[fA 201 2 3,lA 202 1 201,lG 203 3 8,iA 204 (.lit false 3 true (.agg [(.str []),(.sl 6 true []),(.int .i64 0)]) 1 [(0,(.t 203))]),iA 205 (.append false 3 48 (.t 202) (.t 204)),fA 206 2 3,sA 1 206 205]
abbrev qzN:EC:= .block 5 (qr qk7 (.seq qcg (.reg qjh)))
abbrev qlj:=[mA 96 7,bC 97 .add 96 1,mA 7 97]
abbrev qA0:EC:= .loop (.seq qjL (.seq qzN (.reg qlj)))
abbrev qb1:=qr [iA 7 (.mov (cI 0))] (.block 4 qA0)
abbrev qjd:=[lG 207 4 3,sA 4 2 207]
abbrev qCt:=qr qES (.seq qcp (.seq qb1 (qr qjd .ret)))
abbrev qll:=qr qBV qCt
abbrev e11:EF:=⟨208,1,[(.inr (2,true,4))],qll⟩
theorem qPP:qh Tryz.prog {} Tryz.f11=some e11:=by kernel_rfl
abbrev qKa:=[iA 1 (.box 5 (.t 0)),iA 2 (.alloc 4 (.agg [(.str []),(.sl 4 true []),(.sl 3 true []),(.str [])]))]
abbrev qMu:=[fA 14 0 1,lA 15 1 14,iA 16 (cl 24 [(.t 15),(cI 4)]),iA 17 (.bin .add (cI 1) (.t 16)),mA 3 17]
abbrev qGl:=[fA 18 2 1,lA 19 1 18,iA 20 (cl 46 [.t 19]),iA 21 (.build [(.str []),(.sl 4 true []),(.sl 3 true []),(.str [])] [(1,1,(.t 20))]),iA 4 (.alloc 4 (.agg [(.str []),(.sl 4 true []),(.sl 3 true []),(.str [])])),sA 4 4 21]
abbrev qM8:=[mA 22 3,iA 23 (.mksl true 1 1 (.bool false) (.t 22) (.t 22)),mA 5 23]
abbrev qWE:=qr [mA 24 6,mA 25 3,bA 26 .lss 24 25] (cd 26 .skip (.exit 0))
abbrev qVM:EC:= .block 1 (.reg [fN 29 2 4,lR 30 1 29,mN 31 6,iR 32 (cl 47 [.t 31]),iN 33 (.build [(.str []),(.sl 6 true []),(.int .i64 0)] [(0,1,(.t 32))]),iN 34 (.lit false 3 true (.agg [(.str []),(.sl 6 true []),(.int .i64 0)]) 1 [(0,(.t 33))]),⟨(some 35),none,.append true 3 48 (.t 30) (.t 34),.w⟩,fN 36 2 4,sW 1 36 35])
abbrev qNY:EC:= .seq qVM (.reg [mA 27 6,bC 28 .add 27 1,mA 6 28])
abbrev qki:=qr [iA 6 (.mov (cI 0))] (.block 0 (.loop (.seq qWE qNY)))
abbrev qjE:=qr [mA 37 7,fA 38 1 1,lA 39 1 38,zA 40 39,bA 41 .lss 37 40,mA 42 41,gT 43 42 (oM 7),gT 44 42 (.bin .lss (.t 43) (cI 9)),pA 45 42 44] (cd 45 .skip (.exit 2))
abbrev qjJ:=qr [fA 48 1 1,lA 49 1 48,mA 50 7,aA 51 1 49 50,lA 52 1 51,zA 53 52,bC 54 .eql 53 0] (cd 54 (.exit 3) .skip)
abbrev qkf:=[fA 55 1 1,lA 56 1 55,mA 57 7,aA 58 1 56 57,lA 59 1 58,iA 60 (.iaddr 1 (.t 59) (cI 0)),lA 61 1 60,mA 62 3,iA 63 (cl 24 [(.t 61),(.t 62)]),mA 8 63]
abbrev qk3:=[iA 9 (.alloc 6 (.agg [(.sl 6 true []),(.str []),(.bool false),(.int .i64 0),(.int .i64 0),(.int .i64 0)]))]
abbrev qkZ:=[iA 10 (.mov (cB true))]
abbrev qNh:=qr [mA 64 11,fA 65 1 1,lA 66 1 65,mA 67 7,aA 68 1 66 67,lA 69 1 68,zA 70 69,bA 71 .lss 64 70,mA 72 71,gT 73 72 (oM 11),gT 74 72 (.bin .lss (.t 73) (cI 5)),pA 75 72 74] (cd 75 .skip (.exit 4))
abbrev qQ9:=cd 122 (.reg [fA 123 0 9,lA 124 1 123,iA 125 (.build [(.str []),(.bool false),(.int .i64 0),(.int .i64 0),(.str []),(.int .i64 0)] [(4,1,(.c (.str [123,36,36,32,61,32,36,49,125])))]),iA 126 (.lit false 6 true (.agg [(.str []),(.bool false),(.int .i64 0),(.int .i64 0),(.str []),(.int .i64 0)]) 1 [(0,(.t 125))]),iA 127 (.append false 6 64 (.t 124) (.t 126)),fA 128 0 9,sA 1 128 127]) .skip
abbrev qHi:=qr [mA 105 7,fA 106 3 1,lA 107 1 106,zA 108 107,bA 109 .lss 105 108,mA 110 109,gT 111 110 (oM 11),gT 112 110 (.bin .eql (.t 111) (cI 1)),pA 113 110 112,mA 114 113,gT 115 114 (oF 3 1),gT 116 114 (oL 1 115),gT 117 114 (oM 7),gT 118 114 (.iaddr 1 (.t 116) (.t 117)),gT 119 114 (oL 1 118),gT 120 114 (.bin .rem (.t 119) (cI 3)),gT 121 114 (.bin .eql (.t 120) (cI 1)),pA 122 114 121] qQ9
abbrev qJv:=qr [fA 98 0 9,lA 99 1 98,lG 100 4 12,iA 101 (.build [(.str []),(.bool false),(.int .i64 0),(.int .i64 0),(.str []),(.int .i64 0)] [(0,4,(.t 100))]),iA 102 (.lit false 6 true (.agg [(.str []),(.bool false),(.int .i64 0),(.int .i64 0),(.str []),(.int .i64 0)]) 1 [(0,(.t 101))]),iA 103 (.append false 6 64 (.t 99) (.t 102)),fA 104 0 9,sA 1 104 103] qHi
abbrev qMr:=qr [mA 88 10,mA 89 88,gT 90 89 (oF 1 12),gT 91 89 (oL 1 90),gT 92 89 (oM 91),gF 93 92 (oF 0 12),gF 94 92 (oL 1 93),gF 95 92 (.bin .eql (.t 94) (.c (.str [101,114,114,111,114]))),gT 96 89 (.pick (.t 92) (cB true) (.t 95)),pA 97 89 96,mA 10 97] qJv
abbrev qCz:=qr [fA 78 1 1,lA 79 1 78,mA 80 7,aA 81 1 79 80,lA 82 1 81,mA 83 11,aA 84 1 82 83,lA 85 1 84,mA 86 3,iA 87 (cl 48 [(.t 85),(.t 86)]),iA 12 (.alloc 4 (.agg [(.str []),(.bool false),(.int .i64 0),(.int .i64 0)])),sA 4 12 87] qMr
abbrev qSh:EC:= .seq (.block 5 qCz) (.reg [mA 76 11,bC 77 .add 76 1,mA 11 77])
abbrev qcF:=qr [iA 11 (.mov (cI 1))] (.block 4 (.loop (.seq qNh qSh)))
abbrev qSt:=cd 142 (.reg [fA 143 0 9,lA 144 1 143,iA 145 (.build [(.str []),(.bool false),(.int .i64 0),(.int .i64 0),(.str []),(.int .i64 0)] [(4,1,(.c (.str [123,102,40,36,36,41,125])))]),iA 146 (.lit false 6 true (.agg [(.str []),(.bool false),(.int .i64 0),(.int .i64 0),(.str []),(.int .i64 0)]) 1 [(0,(.t 145))]),iA 147 (.append false 6 64 (.t 144) (.t 146)),fA 148 0 9,sA 1 148 147]) .skip
abbrev qca:=qr [mA 129 7,fA 130 3 1,lA 131 1 130,zA 132 131,bA 133 .lss 129 132,mA 134 133,gT 135 134 (oF 3 1),gT 136 134 (oL 1 135),gT 137 134 (oM 7),gT 138 134 (.iaddr 1 (.t 136) (.t 137)),gT 139 134 (oL 1 138),gT 140 134 (.bin .rem (.t 139) (cI 2)),gT 141 134 (.bin .neq (.t 140) (cI 0)),pA 142 134 141] qSt
abbrev qb9:=qr [mA 149 5,mA 150 8,mA 151 5,mA 152 8,aA 153 1 151 152,lA 154 1 153,mA 155 154,gF 156 155 (oM 10),pO 157 155 156,aA 158 1 149 150,sA 1 158 157] (.reg [fN 159 2 4,lR 160 1 159,mN 161 8,fN 162 2 4,lR 163 1 162,mN 164 8,aN 165 3 163 164,fN 166 1 165,lR 167 1 166,iR 168 (oG 6 9),iN 169 (.lit false 6 true (.agg [(.sl 6 true []),(.str []),(.bool false),(.int .i64 0),(.int .i64 0),(.int .i64 0)]) 1 [(0,(.t 168))]),⟨(some 170),none,.append false 6 72 (.t 167) (.t 169),.t⟩,aN 171 3 160 161,fN 172 1 171,sW 1 172 170])
abbrev qRL:=qr qk3 (qr qkZ (.seq qcF (.seq qca qb9)))
abbrev qjr:=[mA 46 7,bC 47 .add 46 1,mA 7 47]
abbrev qyC:EC:= .seq (.block 3 (.seq qjJ (qr qkf qRL))) (.reg qjr)
abbrev qaa:=qr [iA 7 (.mov (cI 0))] (.block 2 (.loop (.seq qjE qyC)))
abbrev qHE:=qr [mA 173 13,mA 174 3,bA 175 .lss 173 174] (cd 175 .skip (.exit 6))
abbrev qK8:=cd 197 (.reg [fN 198 2 4,lR 199 1 198,mN 200 13,fN 201 2 4,lR 202 1 201,mN 203 13,aN 204 3 202 203,fN 205 1 204,lR 206 1 205,mN 207 13,iR 208 (cl 49 [.t 207]),iN 209 (.build [(.str []),(.bool false),(.int .i64 0),(.int .i64 0),(.str []),(.int .i64 0)] [(0,4,(.t 208))]),iN 210 (.lit false 6 true (.agg [(.str []),(.bool false),(.int .i64 0),(.int .i64 0),(.str []),(.int .i64 0)]) 1 [(0,(.t 209))]),iN 211 (.build [(.sl 6 true []),(.str []),(.bool false),(.int .i64 0),(.int .i64 0),(.int .i64 0)] [(0,1,(.t 210))]),iN 212 (.lit false 6 true (.agg [(.sl 6 true []),(.str []),(.bool false),(.int .i64 0),(.int .i64 0),(.int .i64 0)]) 1 [(0,(.t 211))]),⟨(some 213),none,.append false 6 72 (.t 206) (.t 212),.t⟩,aN 214 3 199 200,fN 215 1 214,sW 1 215 213]) .skip
abbrev qHg:=qr [fA 178 2 4,lA 179 1 178,mA 180 13,aA 181 3 179 180,fA 182 1 181,lA 183 1 182,zA 184 183,bC 185 .eql 184 0,mA 186 185,gF 187 186 (oM 5),gF 188 186 (oM 13),gF 189 186 (.iaddr 1 (.t 187) (.t 188)),gF 190 186 (oL 1 189),gF 191 186 (.un .not (.t 190)),gF 192 186 (oM 191),gT 193 192 (oF 4 1),gT 194 192 (oL 1 193),gT 195 192 (.un .not (.t 194)),gF 196 186 (.pick (.t 192) (.t 195) (cB false)),pO 197 186 196] qK8
abbrev qRQ:EC:= .seq (.block 7 qHg) (.reg [mA 176 13,bC 177 .add 176 1,mA 13 177])
abbrev qap:=qr [iA 13 (.mov (cI 0))] (.block 6 (.loop (.seq qHE qRQ)))
abbrev qbH:=[lG 216 4 4,sA 4 2 216]
abbrev qIv:EC:= .seq qki (.seq qaa (.seq qap (qr qbH .ret)))
abbrev qk5:=qr qKa (qr qMu (qr qGl (qr qM8 qIv)))
abbrev e12:EF:=⟨217,1,[(.inr (2,true,4))],qk5⟩
theorem qPQ:qh Tryz.prog {mu:=fun t=>[23,35].contains t,cl:=fun r i=>([(7,6,Cls.w)].find? fun x=>x.1 == r && x.2.1 == i).map (·.2.2)} Tryz.f12=some e12:=by kernel_rfl
abbrev qVc:=qr [lG 16 5 5,sA 5 2 16,iA 3 (.mov (.c (.sl 2 true []))),iA 4 (.mov (cB false))] .ret
abbrev qTg:=qr [mA 14 6,iA 15 (.un .not (.t 14))] (cd 15 qVc .skip)
abbrev qUM:=qr [lG 22 5 5,mA 23 7,mA 24 8,bC 25 .eql 24 0,sA 5 2 22,mA 3 23,mA 4 25] .ret
abbrev qMk:=qr [lG 18 5 5,iA 19 (cl 50 [.t 18]),mA 17 19,iA 20 (.ext (.t 17) 0),iA 21 (.ext (.t 17) 1),mA 7 20,mA 8 21] qUM
abbrev qD3:=qr [lG 10 4 1,iA 11 (cl 34 [.t 10]),mA 9 11,iA 12 (.ext (.t 9) 0),iA 13 (.ext (.t 9) 1),iA 5 (.alloc 5 (.agg [(.sl 6 true []),(.sl 2 true []),(.sl 6 true []),(.str []),(.str [])])),sA 5 5 12,mA 6 13] (.seq qTg qMk)
abbrev qjS:=qr [iA 1 (.box 4 (.t 0)),iA 2 (.alloc 5 (.agg [(.sl 6 true []),(.sl 2 true []),(.sl 6 true []),(.str []),(.str [])])),iA 3 (.mov (.c (.sl 2 true []))),iA 4 (.mov (cB false))] qD3
abbrev e13:EF:=⟨26,1,[(.inr (2,true,5)),(.inl 3),(.inl 4)],qjS⟩
theorem qiT:qh Tryz.prog {} Tryz.f13=some e13:=by kernel_rfl
abbrev qU9:=cd 10 (qr [iA 4 (.mov (cB false))] .ret) .skip
abbrev qUc:=qr [mA 6 0,zA 7 6,mA 8 1,zA 9 8,bA 10 .neq 7 9] qU9
abbrev qUu:=qr [mA 11 5,mA 12 0,zA 13 12,bA 14 .lss 11 13] (cd 14 .skip (.exit 0))
abbrev qSM:=cd 25 (qr [iA 4 (.mov (cB false))] .ret) .skip
abbrev qJm:=qr [mN 17 0,mN 18 5,aN 19 2 17 18,iR 20 (oG 2 19),mN 21 1,mN 22 5,aN 23 2 21 22,iR 24 (oG 2 23),iN 25 (.eqagg true [1,1] (.t 20) (.t 24))] qSM
abbrev qLY:EC:= .seq (.block 1 qJm) (.reg [mA 15 5,bC 16 .add 15 1,mA 5 16])
abbrev qEh:=qr [iA 5 (.mov (cI 0))] (.block 0 (.loop (.seq qUu qLY)))
abbrev qM1:EC:= .seq qEh (qr [iA 4 (.mov (cB true))] .ret)
abbrev qkS:=qr [iA 4 (.mov (cB false))] (.seq qUc qM1)
abbrev e14:EF:=⟨26,2,[(.inl 4)],qkS⟩
theorem qF2:qh Tryz.prog {} Tryz.f14=some e14:=by kernel_rfl
abbrev qLs:=cd 24 (.reg [mA 25 3,mA 26 4,fA 27 0 7,lA 28 1 27,iA 29 (.build [(.int .i64 0),(.int .i64 0)] [(0,1,(.t 26)),(1,1,(.t 28))]),iA 30 (.lit false 2 true (.agg [(.int .i64 0),(.int .i64 0)]) 1 [(0,(.t 29))]),iA 31 (.append false 2 16 (.t 25) (.t 30)),mA 3 31]) .skip
abbrev qAS:=qr [fA 22 0 7,lA 23 1 22,bC 24 .geq 23 1000] qLs
abbrev qPZ:=qr [aA 20 2 16 18,lG 21 2 20,iA 7 (.alloc 2 (.agg [(.int .i64 0),(.int .i64 0)])),sA 2 7 21] qAS
abbrev qMA:EC:= .seq (.block 3 qPZ) (.reg [bC 32 .add 18 1,mA 18 32])
abbrev qRh:=qr [bA 19 .lss 18 17] (.seq (cd 19 .skip (.exit 2)) qMA)
abbrev qE0:=qr [fA 15 1 5,lA 16 1 15,zA 17 16,iA 18 (.mov (cI 0))] (.block 2 (.loop qRh))
abbrev qNJ:=qr [mA 12 10,aA 13 2 8 10,lG 14 2 13,iA 5 (.alloc 2 (.agg [(.sl 2 true []),(.sl 2 true [])])),mA 4 12,sA 2 5 14] qE0
abbrev qIY:EC:= .seq (.block 1 qNJ) (.reg [bC 33 .add 10 1,mA 10 33])
abbrev qFL:=qr [bA 11 .lss 10 9] (.seq (cd 11 .skip (.exit 0)) qIY)
abbrev qOO:=qr [mA 8 0,zA 9 8,iA 10 (.mov (cI 0))] (.block 0 (.loop qFL))
abbrev qGk:EC:= .seq qOO (qr [mA 34 3,mA 2 34] .ret)
abbrev qy3:=qr [iA 3 (.mov (.c (.sl 2 true [])))] qGk
abbrev qlp:=qr [iA 2 (.mov (.c (.sl 2 true [])))] qy3
abbrev e15:EF:=⟨35,1,[(.inl 2)],qlp⟩
theorem qj3:qh Tryz.prog {} Tryz.f15=some e15:=by kernel_rfl
abbrev qTL:=qr [mA 6 4,mA 7 0,zA 8 7,bA 9 .lss 6 8] (cd 9 .skip (.exit 0))
abbrev qWX:=qr [mA 12 5,mA 13 0,mA 14 4,aA 15 2 13 14,fA 16 1 15,lA 17 1 16,zA 18 17,bA 19 .lss 12 18] (cd 19 .skip (.exit 2))
abbrev qHc:=cd 31 (.reg [mA 32 3,mA 33 4,mA 34 0,mA 35 4,aA 36 2 34 35,fA 37 1 36,lA 38 1 37,mA 39 5,aA 40 2 38 39,fA 41 0 40,lA 42 1 41,iA 43 (.build [(.int .i64 0),(.int .i64 0)] [(0,1,(.t 33)),(1,1,(.t 42))]),iA 44 (.lit false 2 true (.agg [(.int .i64 0),(.int .i64 0)]) 1 [(0,(.t 43))]),iA 45 (.append false 2 16 (.t 32) (.t 44)),mA 3 45]) .skip
abbrev qR3:=qr [mA 22 0,mA 23 4,aA 24 2 22 23,fA 25 1 24,lA 26 1 25,mA 27 5,aA 28 2 26 27,fA 29 0 28,lA 30 1 29,bC 31 .geq 30 1000] qHc
abbrev qPm:EC:= .seq (.block 3 qR3) (.reg [mA 20 5,bC 21 .add 20 1,mA 5 21])
abbrev qyI:=qr [iA 5 (.mov (cI 0))] (.block 2 (.loop (.seq qWX qPm)))
abbrev qCF:EC:= .seq (.block 1 qyI) (.reg [mA 10 4,bC 11 .add 10 1,mA 4 11])
abbrev qNr:=qr [iA 4 (.mov (cI 0))] (.block 0 (.loop (.seq qTL qCF)))
abbrev qKs:EC:= .seq qNr (qr [mA 46 3,mA 2 46] .ret)
abbrev qMM:=qr [iA 3 (.mov (.c (.sl 2 true [])))] qKs
abbrev qla:=qr [iA 2 (.mov (.c (.sl 2 true [])))] qMM
abbrev e16:EF:=⟨47,1,[(.inl 2)],qla⟩
theorem qDL:qh Tryz.prog {} Tryz.f16=some e16:=by kernel_rfl
abbrev qTi:=cd 10 (qr [iA 4 (.mov (cB false))] .ret) .skip
abbrev qTJ:=qr [mA 6 0,zA 7 6,mA 8 1,zA 9 8,bA 10 .neq 7 9] qTi
abbrev qU7:=qr [mA 11 5,mA 12 0,zA 13 12,bA 14 .lss 11 13] (cd 14 .skip (.exit 0))
abbrev qHm:=cd 26 (qr [iA 4 (.mov (cB false))] .ret) .skip
abbrev qFq:=qr [mN 17 0,mN 18 5,aN 19 1 17 18,lR 20 1 19,mN 21 1,mN 22 5,aN 23 1 21 22,lR 24 1 23,iR 25 (cl 25 [(.t 20),(.t 24)]),iN 26 (.un .not (.t 25))] qHm
abbrev qBD:EC:= .seq (.block 1 qFq) (.reg [mA 15 5,bC 16 .add 15 1,mA 5 16])
abbrev qyd:=qr [iA 5 (.mov (cI 0))] (.block 0 (.loop (.seq qU7 qBD)))
abbrev qJM:EC:= .seq qyd (qr [iA 4 (.mov (cB true))] .ret)
abbrev qjo:=qr [iA 4 (.mov (cB false))] (.seq qTJ qJM)
abbrev e17:EF:=⟨27,2,[(.inl 4)],qjo⟩
theorem qiK:qh Tryz.prog {} Tryz.f17=some e17:=by kernel_rfl
abbrev qXk:=qr [mA 9 5,mA 10 5,iA 11 (.mkmfn 53 (.t 10)),iA 12 (cl 52 [(.t 9),(.t 11)]),mA 4 12] .ret
abbrev qXO:=qr [lG 6 5 2,mA 7 1,iA 8 (cl 51 [(.t 6),(.t 7)]),mA 5 8] qXk
abbrev qOu:=qr [iA 2 (.box 5 (.t 0)),iA 4 (.mov (.c (.sl 1 true [])))] qXO
abbrev e18:EF:=⟨13,2,[(.inl 4)],qOu⟩
theorem qkb:qh Tryz.prog {} Tryz.f18=some e18:=by kernel_rfl
abbrev qWJ:=qr [mA 11 5,mA 12 3,zA 13 12,bA 14 .lss 11 13] (cd 14 .skip (.exit 0))
abbrev qNX:=cd 34 (.reg [mA 35 6,iA 36 (.lit false 1 false (.int .i64 0) 1 [(0,(cI 0))]),iA 37 (.append false 1 8 (.t 35) (.t 36)),mA 6 37]) .skip
abbrev qR7:=qr [mA 29 0,mA 30 7,aA 31 2 29 30,fA 32 0 31,lA 33 1 32,iA 34 (cl 55 [.t 33])] qNX
abbrev qB9:=qr [mA 38 8,mA 39 0,mA 40 7,aA 41 2 39 40,fA 42 1 41,lA 43 1 42,zA 44 43,bA 45 .lss 38 44] (cd 45 .skip (.exit 2))
abbrev qFg:=cd 57 (.reg [mA 58 6,mA 59 0,mA 60 7,aA 61 2 59 60,fA 62 1 61,lA 63 1 62,mA 64 8,aA 65 2 63 64,fA 66 0 65,lA 67 1 66,iA 68 (cl 37 [(.t 58),(.t 67)]),mA 6 68]) .skip
abbrev qPx:=qr [mA 48 0,mA 49 7,aA 50 2 48 49,fA 51 1 50,lA 52 1 51,mA 53 8,aA 54 2 52 53,fA 55 0 54,lA 56 1 55,bC 57 .lss 56 1000] qFg
abbrev qHq:EC:= .seq (.block 3 qPx) (.reg [mA 46 8,bC 47 .add 46 1,mA 8 47])
abbrev qzd:=qr [iA 8 (.mov (cI 0))] (.block 2 (.loop (.seq qB9 qHq)))
abbrev qdR:EC:= .seq qzd (.reg [mA 69 4,mA 70 6,iA 71 (.lit false 1 false (.sl 1 true []) 1 [(0,(.t 70))]),iA 72 (.append false 1 24 (.t 69) (.t 71)),mA 4 72])
abbrev qkx:EC:= .seq qR7 qdR
abbrev qiR:=qr [mN 17 0,mN 18 3,mN 19 5,aN 20 2 18 19,fN 21 0 20,lR 22 1 21,mN 23 3,mN 24 5,aN 25 2 23 24,fN 26 1 25,lR 27 1 26,iR 28 (cl 54 [(.t 17),(.t 22),(.t 27)]),mN 7 28] qkx
abbrev qjk:=qr [iA 6 (.mov (.c (.sl 1 true [])))] qiR
abbrev qjY:EC:= .block 1 qjk
abbrev qkE:EC:= .seq qjY (.reg [mA 15 5,bC 16 .add 15 1,mA 5 16])
abbrev qja:EC:= .seq qWJ qkE
abbrev qHX:=qr [iA 5 (.mov (cI 0))] (.block 0 (.loop qja))
abbrev qLD:EC:= .seq qHX (qr [mA 73 4,mA 2 73] .ret)
abbrev qOv:=qr [iA 4 (.mov (.c (.sl 1 true [])))] qLD
abbrev qNe:=qr [mA 9 0,iA 10 (cl 16 [.t 9]),mA 3 10] qOv
abbrev qjy:=qr [iA 2 (.mov (.c (.sl 1 true [])))] qNe
abbrev e19:EF:=⟨74,1,[(.inl 2)],qjy⟩
theorem qRj:qh Tryz.prog {} Tryz.f19=some e19:=by kernel_rfl
abbrev qVj:=qr [mA 9 5,mA 10 5,iA 11 (.mkmfn 56 (.t 10)),iA 12 (cl 52 [(.t 9),(.t 11)]),mA 4 12] .ret
abbrev qVP:=qr [lG 6 5 2,mA 7 1,iA 8 (cl 51 [(.t 6),(.t 7)]),mA 5 8] qVj
abbrev qNb:=qr [iA 2 (.box 5 (.t 0)),iA 4 (.mov (.c (.sl 1 true [])))] qVP
abbrev e20:EF:=⟨13,2,[(.inl 4)],qNb⟩
theorem qlh:qh Tryz.prog {} Tryz.f20=some e20:=by kernel_rfl
abbrev qVa:=qr [mA 17 8,mA 18 5,zA 19 18,bA 20 .lss 17 19] (cd 20 .skip (.exit 0))
abbrev qPb:=qr [mA 35 11,mA 36 1,mA 37 10,aA 38 2 36 37,fA 39 1 38,lA 40 1 39,zA 41 40,bA 42 .lss 35 41] (cd 42 .skip (.exit 2))
abbrev qKy:=cd 62 (.reg [mA 63 9,mA 64 5,mA 65 10,mA 66 12,iA 67 (cl 58 [(.t 64),(.t 65),(.t 66)]),iA 68 (cl 37 [(.t 63),(.t 67)]),mA 9 68]) .skip
abbrev qMX:=qr [mA 54 12,bC 55 .geq 54 1000,mA 56 55,gT 57 56 (oM 6),gT 58 56 (oM 12),gT 59 56 (.bin .sub (.t 58) (cI 1000)),gT 60 56 (.iaddr 1 (.t 57) (.t 59)),gT 61 56 (oL 1 60),pA 62 56 61] qKy
abbrev qLw:=qr [mA 45 1,mA 46 10,aA 47 2 45 46,fA 48 1 47,lA 49 1 48,mA 50 11,aA 51 2 49 50,fA 52 0 51,lA 53 1 52,mA 12 53] qMX
abbrev qGw:EC:= .seq (.block 3 qLw) (.reg [mA 43 11,bC 44 .add 43 1,mA 11 44])
abbrev qCk:=qr [iA 11 (.mov (cI 0))] (.block 2 (.loop (.seq qPb qGw)))
abbrev qBo:EC:= .seq qCk (.reg [mA 69 7,mA 70 9,iA 71 (.lit false 1 false (.sl 1 true []) 1 [(0,(.t 70))]),iA 72 (.append false 1 24 (.t 69) (.t 71)),mA 7 72])
abbrev qGy:=qr [mN 23 1,mN 24 5,mN 25 8,aN 26 2 24 25,fN 27 0 26,lR 28 1 27,mN 29 5,mN 30 8,aN 31 2 29 30,fN 32 1 31,lR 33 1 32,iR 34 (cl 54 [(.t 23),(.t 28),(.t 33)]),mN 10 34] qBo
abbrev qSd:=qr [iA 9 (.mov (.c (.sl 1 true [])))] qGy
abbrev qMw:EC:= .seq (.block 1 qSd) (.reg [mA 21 8,bC 22 .add 21 1,mA 8 22])
abbrev qEF:=qr [iA 8 (.mov (cI 0))] (.block 0 (.loop (.seq qVa qMw)))
abbrev qPu:EC:= .seq qEF (qr [mA 73 7,mA 4 73] .ret)
abbrev qEu:=qr [iA 7 (.mov (.c (.sl 1 true [])))] qPu
abbrev qR1:=qr [lG 15 5 2,iA 16 (cl 57 [.t 15]),mA 6 16] qEu
abbrev qOT:=qr [mA 13 1,iA 14 (cl 16 [.t 13]),mA 5 14] qR1
abbrev qkX:=qr [iA 2 (.box 5 (.t 0)),iA 4 (.mov (.c (.sl 1 true [])))] qOT
abbrev e21:EF:=⟨74,2,[(.inl 4)],qkX⟩
theorem qMv:qh Tryz.prog {} Tryz.f21=some e21:=by kernel_rfl
abbrev qTR:=qr [lG 5 5 2,mA 6 1,iA 7 (cl 51 [(.t 5),(.t 6)]),iA 8 (cl 59 [.t 7]),mA 4 8] .ret
abbrev qM3:=qr [iA 2 (.box 5 (.t 0)),iA 4 (.mov (.c (.sl 1 true [])))] qTR
abbrev e22:EF:=⟨9,2,[(.inl 4)],qM3⟩
theorem qk4:qh Tryz.prog {} Tryz.f22=some e22:=by kernel_rfl
abbrev qTk:=qr [mA 21 8,mA 22 5,zA 23 22,bA 24 .lss 21 23] (cd 24 .skip (.exit 0))
abbrev qQQ:=qr [mA 27 9,fA 28 2 2,lA 29 1 28,zA 30 29,bA 31 .lss 27 30] (cd 31 .skip (.exit 2))
abbrev qGH:=qr [fN 40 2 2,lR 41 1 40,mN 42 9,aN 43 6 41 42,fN 44 0 43,lR 45 1 44,iN 46 (.bin .add (cI 1000) (.t 45)),mN 47 5,mN 48 8,aN 49 2 47 48,fN 50 1 49,lR 51 1 50,iN 52 (.bin .neq (.t 46) (.t 51))] (cd 52 (.exit 3) .skip)
abbrev qHH:=qr [mA 53 11,mA 54 10,zA 55 54,bA 56 .lss 53 55] (cd 56 .skip (.exit 4))
abbrev qE1:=qr [mA 59 10,mA 60 11,aA 61 1 59 60,lA 62 1 61,bC 63 .lss 62 1000,mA 64 63,gF 65 64 (oM 6),gF 66 64 (oM 10),gF 67 64 (oM 11),gF 68 64 (.bin .add (.t 67) (cI 1)),gF 69 64 (.slc 1 (.t 66) (some (.t 68)) none none),gF 70 64 (cl 60 [(.t 65),(.t 69)]),gF 71 64 (.un .not (.t 70)),pO 72 64 71] (cd 72 (.exit 5) .skip)
abbrev qSx:=cd 93 (.reg [mA 94 7,mA 95 13,mA 96 7,mA 97 13,aA 98 1 96 97,lA 99 1 98,mA 100 8,iA 101 (cl 37 [(.t 99),(.t 100)]),aA 102 1 94 95,sA 1 102 101]) .skip
abbrev qOM:=qr [mA 85 5,mA 86 12,mA 87 10,mA 88 11,aA 89 1 87 88,lA 90 1 89,iA 91 (cl 58 [(.t 85),(.t 86),(.t 90)]),mA 13 91] (qr [mA 92 13,bC 93 .geq 92 0] qSx)
abbrev qyY:=qr [mA 83 12,bC 84 .geq 83 0] (cd 84 qOM .skip)
abbrev qGP:=qr [mN 73 1,mN 74 5,mN 75 8,aN 76 2 74 75,fN 77 0 76,lR 78 1 77,mN 79 10,mN 80 11,iN 81 (.slc 1 (.t 79) none (some (.t 80)) none),iR 82 (cl 61 [(.t 73),(.t 78),(.t 81)]),mN 12 82] qyY
abbrev qJI:EC:= .seq (.block 5 (.seq qE1 qGP)) (.reg [mA 57 11,bC 58 .add 57 1,mA 11 58])
abbrev qQt:=qr [iA 11 (.mov (cI 0))] (.block 4 (.loop (.seq qHH qJI)))
abbrev qOK:=qr [fA 34 2 2,lA 35 1 34,mA 36 9,aA 37 6 35 36,fA 38 1 37,lA 39 1 38,mA 10 39] (.seq qGH qQt)
abbrev qAy:EC:= .seq (.block 3 qOK) (.reg [mA 32 9,bC 33 .add 32 1,mA 9 33])
abbrev qS7:=qr [iA 9 (.mov (cI 0))] (.block 2 (.loop (.seq qQQ qAy)))
abbrev qyr:EC:= .seq (.block 1 qS7) (.reg [mA 25 8,bC 26 .add 25 1,mA 8 26])
abbrev qIL:=qr [iA 8 (.mov (cI 0))] (.block 0 (.loop (.seq qTk qyr)))
abbrev qIA:EC:= .seq qIL (qr [mA 103 7,mA 4 103] .ret)
abbrev qSJ:=qr [mA 18 5,zA 19 18,iA 20 (.mksl true 1 24 (.sl 1 true []) (.t 19) (.t 19)),mA 7 20] qIA
abbrev qJb:=qr [lG 16 5 2,iA 17 (cl 57 [.t 16]),mA 6 17] qSJ
abbrev qCe:=qr [mA 14 1,iA 15 (cl 16 [.t 14]),mA 5 15] qJb
abbrev qkT:=qr [iA 2 (.box 5 (.t 0)),iA 4 (.mov (.c (.sl 1 true [])))] qCe
abbrev e23:EF:=⟨104,2,[(.inl 4)],qkT⟩
theorem qzU:qh Tryz.prog {mu:=fun t=>[20].contains t} Tryz.f23=some e23:=by kernel_rfl
abbrev qXs:=cd 10 (.reg [mA 11 5,mA 12 1,bA 13 .add 11 12,mA 5 13]) .skip
abbrev qVS:EC:= .seq (qr [mA 9 5,bC 10 .lss 9 0] qXs) (qr [mA 14 5,mA 4 14] .ret)
abbrev qWF:=qr [mA 6 0,mA 7 1,bA 8 .rem 6 7,mA 5 8] qVS
abbrev qjx:=qr [iA 4 (.mov (cI 0))] qWF
abbrev e24:EF:=⟨15,2,[(.inl 4)],qjx⟩
theorem qNk:qh Tryz.prog {} Tryz.f24=some e24:=by kernel_rfl
abbrev qWK:=cd 10 (qr [iA 4 (.mov (cB false))] .ret) .skip
abbrev qWt:=qr [mA 6 0,zA 7 6,mA 8 1,zA 9 8,bA 10 .neq 7 9] qWK
abbrev qVC:=qr [mA 11 5,mA 12 0,zA 13 12,bA 14 .lss 11 13] (cd 14 .skip (.exit 0))
abbrev qNq:=cd 25 (qr [iA 4 (.mov (cB false))] .ret) .skip
abbrev qDE:=qr [mN 17 0,mN 18 5,aN 19 1 17 18,lR 20 1 19,mN 21 1,mN 22 5,aN 23 1 21 22,lR 24 1 23,iN 25 (.bin .neq (.t 20) (.t 24))] qNq
abbrev qGR:EC:= .seq (.block 1 qDE) (.reg [mA 15 5,bC 16 .add 15 1,mA 5 16])
abbrev qLc:=qr [iA 5 (.mov (cI 0))] (.block 0 (.loop (.seq qVC qGR)))
abbrev qRN:EC:= .seq qLc (qr [iA 4 (.mov (cB true))] .ret)
abbrev qjN:=qr [iA 4 (.mov (cB false))] (.seq qWt qRN)
abbrev e25:EF:=⟨26,2,[(.inl 4)],qjN⟩
theorem qi2:qh Tryz.prog {} Tryz.f25=some e25:=by kernel_rfl
abbrev e26:EF:=⟨15,4,[(.inl 8)],(qr [iA 4 (.box 5 (.t 0)),iA 8 (.mov (.c (.sl 1 true [])))] (qr [lG 9 5 4,mA 10 1,iA 11 (cl 51 [(.t 9),(.t 10)]),mA 12 2,mA 13 3,iA 14 (cl 62 [(.t 11),(.t 12),(.t 13)]),mA 8 14] .ret))⟩
theorem qOW:qh Tryz.prog {mu:=fun t=>[].contains t,cl:=fun r i=>([(1,5,Cls.b)].find? fun x=>x.1 == r && x.2.1 == i).map (·.2.2)} Tryz.f26=some e26:=by kernel_rfl
abbrev e28:EF:=⟨9,2,[(.inl 4)],(qr [iA 2 (.box 5 (.t 0)),iA 4 (.mov (.c (.sl 1 true [])))] (qr [lG 5 5 2,mA 6 1,iA 7 (cl 51 [(.t 5),(.t 6)]),iA 8 (cl 63 [.t 7]),mA 4 8] .ret))⟩
theorem qBa:qh Tryz.prog {} Tryz.f28=some e28:=by kernel_rfl
abbrev e31:EF:=⟨63,2,[(.inl 4)],(qr [iA 2 (.box 5 (.t 0)),iA 4 (.mov (.c (.sl 3 true [])))] (qr [lG 15 5 2,mA 16 1,iA 17 (cl 51 [(.t 15),(.t 16)]),mA 5 17] (qr [mA 18 5,iA 19 (cl 63 [.t 18]),mA 6 19] (qr [iA 7 (.mov (.c (.sl 3 true [])))] (.seq (qr [mA 20 1,zA 21 20,iA 22 (.mov (cI 0))] (.block 0 (.loop (qr [bA 23 .lss 22 21] (.seq (cd 23 .skip (.exit 0)) (.seq (.block 1 (qr [mA 24 22,aA 25 2 20 22,lG 26 2 25,iA 9 (.alloc 2 (.agg [(.sl 2 true []),(.sl 2 true [])])),mA 8 24,sA 2 9 26] (qr [lG 27 5 2,lG 28 2 9,iA 29 (cl 65 [(.t 27),(.t 28)]),zA 30 29,iA 31 (.mov (cI 0))] (.block 2 (.loop (qr [bA 32 .lss 31 30] (.seq (cd 32 .skip (.exit 2)) (.seq (.block 3 (qr [aA 33 1 29 31,lA 34 1 33,mA 11 34] (qr [iA 12 (.alloc 16 (.agg [(.int .u64 0),(.int .u64 0),(.int .u64 0),(.int .u64 0),(.int .u64 0),(.int .u64 0),(.int .u64 0),(.int .u64 0),(.int .u64 0),(.int .u64 0),(.int .u64 0),(.int .u64 0),(.int .u64 0),(.int .u64 0),(.int .u64 0),(.int .u64 0)]))] (.seq (qr [mA 35 5,mA 36 8,mA 37 11,iA 38 (cl 62 [(.t 35),(.t 36),(.t 37)]),zA 39 38,iA 40 (.mov (cI 0))] (.block 4 (.loop (qr [bA 41 .lss 40 39] (.seq (cd 41 .skip (.exit 4)) (.seq (.block 5 (qr [aA 42 1 38 40,lA 43 1 42,mA 14 43] (.reg [iR 44 (oG 16 12),mN 45 6,mN 46 14,aN 47 1 45 46,lR 48 1 47,iR 49 (cl 67 [.t 48]),iR 50 (cl 66 [(.t 44),(.t 49)]),sW 16 12 50]))) (.reg [bC 51 .add 40 1,mA 40 51]))))))) (.reg [mA 52 7,mA 53 8,mA 54 11,lG 55 16 12,iA 56 (cl 68 [.t 55]),iA 57 (.build [(.int .i64 0),(.int .i64 0),(.sl 1 true [])] [(0,1,(.t 53)),(1,1,(.t 54)),(2,1,(.t 56))]),iA 58 (.lit false 3 true (.agg [(.int .i64 0),(.int .i64 0),(.sl 1 true [])]) 1 [(0,(.t 57))]),iA 59 (.append false 3 40 (.t 52) (.t 58)),mA 7 59]))))) (.reg [bC 60 .add 31 1,mA 31 60]))))))))) (.reg [bC 61 .add 22 1,mA 22 61]))))))) (qr [mA 62 7,mA 4 62] .ret))))))⟩
theorem qRU:qh Tryz.prog {mu:=fun t=>[].contains t,cl:=fun r i=>([(11,3,Cls.b)].find? fun x=>x.1 == r && x.2.1 == i).map (·.2.2)} Tryz.f31=some e31:=by kernel_rfl
abbrev qVm:=qr [lG 15 5 4,mA 16 5,bC 17 .eql 16 0,sA 5 2 15,mA 3 17] .ret
abbrev qUA:=qr [lG 9 4 1,iA 10 (cl 70 [.t 9]),mA 8 10,iA 11 (.ext (.t 8) 0),iA 12 (.ext (.t 8) 1),iA 13 (.ext (.t 8) 2),iA 14 (.ext (.t 8) 3),iA 4 (.alloc 5 (.agg [(.sl 6 true []),(.sl 2 true []),(.sl 6 true []),(.str []),(.str [])])),sA 5 4 11,mA 5 12,mA 6 13,mA 7 14] qVm
abbrev qGz:=qr [iA 1 (.box 4 (.t 0)),iA 2 (.alloc 5 (.agg [(.sl 6 true []),(.sl 2 true []),(.sl 6 true []),(.str []),(.str [])])),iA 3 (.mov (cB false))] qUA
abbrev e34:EF:=⟨18,1,[(.inr (2,true,5)),(.inl 3)],qGz⟩
theorem qkd:qh Tryz.prog {} Tryz.f34=some e34:=by kernel_rfl
abbrev e36:EF:=⟨121,2,[(.inl 4)],(qr [iA 4 (.mov (.c (.sl 1 true [])))] (.seq (qr [mA 15 0,zA 16 15,bC 17 .gtr 16 4000] (cd 17 (qr [iA 4 (.mov (.c (.sl 1 true [])))] .ret) .skip)) (qr [mA 18 0,iA 19 (cl 75 [.t 18]),mA 5 19] (qr [mA 20 5,nA 21 20,fA 22 5 21,lA 23 1 22,zA 24 23,iA 25 (.mksl true 16 128 (.agg [(.int .u64 0),(.int .u64 0),(.int .u64 0),(.int .u64 0),(.int .u64 0),(.int .u64 0),(.int .u64 0),(.int .u64 0),(.int .u64 0),(.int .u64 0),(.int .u64 0),(.int .u64 0),(.int .u64 0),(.int .u64 0),(.int .u64 0),(.int .u64 0)]) (.t 24) (.t 24)),mA 6 25] (.seq (qr [mA 26 5,nA 27 26,fA 28 5 27,lA 29 1 28,zA 30 29,iA 31 (.mov (cI 0))] (.block 0 (.loop (qr [bA 32 .lss 31 30] (.seq (cd 32 .skip (.exit 0)) (.seq (.block 1 (qr [mA 33 31,aA 34 1 29 31,lA 35 1 34,mA 7 33,mA 8 35] (qr [mA 36 8,zA 37 36,iA 38 (.mov (cI 0))] (.block 2 (.loop (qr [bA 39 .lss 38 37] (.seq (cd 39 .skip (.exit 2)) (.seq (.block 3 (qr [aA 40 1 36 38,lA 41 1 40,mA 10 41] (.seq (qr [mA 42 10,mA 43 1,zA 44 43,bA 45 .lss 42 44] (cd 45 (.reg [mN 46 6,mN 47 7,mN 48 6,mN 49 7,aN 50 16 48 49,iR 51 (oG 16 50),mN 52 1,mN 53 10,aN 54 1 52 53,lR 55 1 54,iR 56 (cl 67 [.t 55]),iR 57 (cl 66 [(.t 51),(.t 56)]),aN 58 16 46 47,sW 16 58 57]) .skip)) (qr [mA 59 0,mA 60 10,aA 61 1 59 60,lA 62 1 61,zA 63 62,iA 64 (.mov (cI 0))] (.block 4 (.loop (qr [bA 65 .lss 64 63] (.seq (cd 65 .skip (.exit 4)) (.seq (.block 5 (qr [aA 66 1 62 64,lA 67 1 66,mA 12 67] (qr [mA 68 12,bC 69 .geq 68 0,mA 70 69,gT 71 70 (oM 12),gT 72 70 (oM 0),gT 73 70 (.len (.t 72)),gT 74 70 (.bin .lss (.t 71) (.t 73)),pA 75 70 74] (cd 75 (.reg [mN 76 6,mN 77 7,mN 78 6,mN 79 7,aN 80 16 78 79,iR 81 (oG 16 80),mN 82 6,mN 83 5,nN 84 83,fN 85 4 84,lR 86 1 85,mN 87 12,aN 88 1 86 87,lR 89 1 88,aN 90 16 82 89,iR 91 (oG 16 90),iR 92 (cl 66 [(.t 81),(.t 91)]),aN 93 16 76 77,sW 16 93 92]) .skip)))) (.reg [bC 94 .add 64 1,mA 64 94])))))))))) (.reg [bC 95 .add 38 1,mA 38 95]))))))))) (.reg [bC 96 .add 31 1,mA 31 96]))))))) (qr [mA 97 0,zA 98 97,iA 99 (.mksl true 1 24 (.sl 1 true []) (.t 98) (.t 98)),mA 13 99] (.seq (qr [mA 100 0,zA 101 100,iA 102 (.mov (cI 0))] (.block 6 (.loop (qr [bA 103 .lss 102 101] (.seq (cd 103 .skip (.exit 6)) (.seq (.block 7 (qr [mA 104 102,mA 14 104] (.reg [mA 105 13,mA 106 14,mA 107 6,mA 108 5,nA 109 108,fA 110 4 109,lA 111 1 110,mA 112 14,aA 113 1 111 112,lA 114 1 113,aA 115 16 107 114,lG 116 16 115,iA 117 (cl 68 [.t 116]),aA 118 1 105 106,sA 1 118 117]))) (.reg [bC 119 .add 102 1,mA 102 119]))))))) (qr [mA 120 13,mA 4 120] .ret))))))))⟩
theorem qLe:qh Tryz.prog {mu:=fun t=>[25,99].contains t,cl:=fun r i=>([(3,1,Cls.w)].find? fun x=>x.1 == r && x.2.1 == i).map (·.2.2)} Tryz.f36=some e36:=by kernel_rfl
abbrev qTG:=qr [mA 9 5,bC 10 .gtr 9 0,mA 11 10,gT 12 11 (oM 0),gT 13 11 (oM 5),gT 14 11 (.bin .sub (.t 13) (cI 1)),gT 15 11 (.iaddr 1 (.t 12) (.t 14)),gT 16 11 (oL 1 15),gT 17 11 (oM 1),gT 18 11 (.bin .gtr (.t 16) (.t 17)),pA 19 11 18] (cd 19 .skip (.exit 0))
abbrev qVH:EC:= .block 1 (.reg [mA 20 5,bC 21 .sub 20 1,mA 5 21])
abbrev qMU:=cd 32 (qr [mA 33 0,mA 4 33] .ret) .skip
abbrev qC6:=qr [mA 22 5,bC 23 .gtr 22 0,mA 24 23,gT 25 24 (oM 0),gT 26 24 (oM 5),gT 27 24 (.bin .sub (.t 26) (cI 1)),gT 28 24 (.iaddr 1 (.t 25) (.t 27)),gT 29 24 (oL 1 28),gT 30 24 (oM 1),gT 31 24 (.bin .eql (.t 29) (.t 30)),pA 32 24 31] qMU
abbrev qzm:=qr [mN 39 6,mN 40 1,iN 41 (.lit false 1 false (.int .i64 0) 1 [(0,(.t 40))]),⟨(some 42),none,.append false 1 8 (.t 39) (.t 41),.t⟩,mN 43 0,mN 44 5,iN 45 (.slc 1 (.t 43) (some (.t 44)) none none),⟨(some 46),none,.append false 1 8 (.t 42) (.t 45),.t⟩,mN 4 46] .ret
abbrev qGC:=qr [iA 34 (.lit false 1 false (.int .i64 0) 0 []),mA 35 0,mA 36 5,iA 37 (.slc 1 (.t 35) none (some (.t 36)) none),iA 38 (.append false 1 8 (.t 34) (.t 37)),mA 6 38] qzm
abbrev qPc:EC:= .seq (.block 0 (.loop (.seq qTG qVH))) (.seq qC6 qGC)
abbrev qln:=qr [iA 4 (.mov (.c (.sl 1 true [])))] (qr [mA 7 0,zA 8 7,mA 5 8] qPc)
abbrev e37:EF:=⟨47,2,[(.inl 4)],qln⟩
theorem qkN:qh Tryz.prog {} Tryz.f37=some e37:=by kernel_rfl
abbrev qTY:=qr [mA 6 5,mA 7 0,zA 8 7,bA 9 .lss 6 8] (cd 9 .skip (.exit 0))
abbrev qT5:=cd 17 (qr [iA 4 (.mov (cB true))] .ret) .skip
abbrev qVi:=qr [mA 12 0,mA 13 5,aA 14 1 12 13,lA 15 1 14,mA 16 1,bA 17 .eql 15 16] qT5
abbrev qEG:EC:= .seq (.block 1 qVi) (.reg [mA 10 5,bC 11 .add 10 1,mA 5 11])
abbrev qGI:=qr [iA 5 (.mov (cI 0))] (.block 0 (.loop (.seq qTY qEG)))
abbrev qNU:EC:= .seq qGI (qr [iA 4 (.mov (cB false))] .ret)
abbrev qkm:=qr [iA 4 (.mov (cB false))] qNU
abbrev e38:EF:=⟨18,2,[(.inl 4)],qkm⟩
theorem qjU:qh Tryz.prog {} Tryz.f38=some e38:=by kernel_rfl
abbrev qXG:=qr [mA 9 0,mA 10 1,iA 11 (.slcS (.t 9) none (some (.t 10))),mA 4 11] .ret
abbrev qUQ:=qr [mA 5 0,iA 6 (.lenS (.t 5)),mA 7 1,bA 8 .gtr 6 7] (cd 8 qXG .skip)
abbrev qTd:EC:= .seq qUQ (qr [mA 12 0,mA 4 12] .ret)
abbrev qIE:=qr [iA 4 (.mov (.c (.str [])))] qTd
abbrev e44:EF:=⟨13,2,[(.inl 4)],qIE⟩
theorem qKo:qh Tryz.prog {} Tryz.f44=some e44:=by kernel_rfl
abbrev qUL:=qr [fN 3 0 1,lR 4 1 3,iR 5 (cl 44 [(.t 4),(cI 25)]),fN 6 1 1,lR 7 1 6,fN 8 2 1,lR 9 1 8,fN 10 3 1,lR 11 1 10,iN 12 (.build [(.str []),(.bool false),(.int .i64 0),(.int .i64 0)] [(0,1,(.t 5)),(1,1,(.t 7)),(2,1,(.t 9)),(3,1,(.t 11))]),sW 4 2 12] .ret
abbrev qDK:=qr [iA 1 (.box 4 (.t 0)),iA 2 (.alloc 4 (.agg [(.str []),(.bool false),(.int .i64 0),(.int .i64 0)]))] qUL
abbrev e45:EF:=⟨13,1,[(.inr (2,true,4))],qDK⟩
theorem qRG:qh Tryz.prog {} Tryz.f45=some e45:=by kernel_rfl
abbrev qVT:=qr [mA 7 4,mA 8 0,zA 9 8,bA 10 .lss 7 9,mA 11 10,gT 12 11 (oM 4),gT 13 11 (.bin .lss (.t 12) (cI 4)),pA 14 11 13] (cd 14 .skip (.exit 0))
abbrev qXH:=qr [mA 22 5,bC 23 .rem 22 4,bC 24 .eql 23 0] (cd 24 (.exit 1) .skip)
abbrev qGp:=qr [mN 33 3,mN 34 6,iN 35 (.bin .sub (.t 34) (cI 1)),mN 36 3,mN 37 6,iN 38 (.bin .sub (.t 37) (cI 1)),aN 39 4 36 38,fN 40 2 39,lR 41 1 40,mN 42 4,iR 43 (cl 49 [.t 42]),iN 44 (.lit false 4 true (.agg [(.str []),(.bool false),(.int .i64 0),(.int .i64 0)]) 1 [(0,(.t 43))]),⟨(some 45),none,.append false 4 40 (.t 41) (.t 44),.t⟩,aN 46 4 33 35,fN 47 2 46,sW 1 47 45] (.exit 1)
abbrev qOa:=qr [mA 27 5,bC 28 .gtr 27 4,mA 29 28,gT 30 29 (oM 6),gT 31 29 (.bin .gtr (.t 30) (cI 0)),pA 32 29 31] (cd 32 qGp .skip)
abbrev qyL:EC:= .seq (qr [mA 25 3,zA 26 25,mA 6 26] qOa) (.reg [mA 48 3,mA 49 5,bC 50 .rem 49 4,iA 51 (.bin .add (cI 1) (.t 50)),mA 52 4,iA 53 (cl 49 [.t 52]),iA 54 (.lit false 4 true (.agg [(.str []),(.bool false),(.int .i64 0),(.int .i64 0)]) 1 [(0,(.t 53))]),iA 55 (.build [(.int .i64 0),(.str []),(.sl 4 true []),(.int .i64 0)] [(0,1,(.t 51)),(2,1,(.t 54))]),iA 56 (.lit false 4 true (.agg [(.int .i64 0),(.str []),(.sl 4 true []),(.int .i64 0)]) 1 [(0,(.t 55))]),iA 57 (.append true 4 56 (.t 48) (.t 56)),mA 3 57])
abbrev qPa:=qr [mA 17 0,mA 18 4,aA 19 1 17 18,lA 20 1 19,iA 21 (cl 24 [(.t 20),(cI 8)]),mA 5 21] (.seq qXH qyL)
abbrev qCY:EC:= .seq (.block 1 qPa) (.reg [mA 15 4,bC 16 .add 15 1,mA 4 16])
abbrev qIk:=qr [iA 4 (.mov (cI 0))] (.block 0 (.loop (.seq qVT qCY)))
abbrev qzT:EC:= .seq qIk (qr [mA 58 3,mA 2 58] .ret)
abbrev qyu:=qr [iA 3 (.mov (.c (.sl 4 true [])))] qzT
abbrev qkL:=qr [iA 2 (.mov (.c (.sl 4 true [])))] qyu
abbrev e46:EF:=⟨59,1,[(.inl 2)],qkL⟩
theorem qH5:qh Tryz.prog {mu:=fun t=>[57].contains t} Tryz.f46=some e46:=by kernel_rfl
abbrev qVG:=qr [mA 3 0,iA 4 (.bin .add (cI 97) (.t 3)),iA 5 (.conv .u8 (.t 4)),iA 6 (.lit false 1 false (.int .u8 0) 1 [(0,(.t 5))]),iA 7 (.by2s (.t 6)),mA 2 7] .ret
abbrev qSf:=qr [iA 2 (.mov (.c (.str [])))] qVG
abbrev e47:EF:=⟨8,1,[(.inl 2)],qSf⟩
theorem qN7:qh Tryz.prog {} Tryz.f47=some e47:=by kernel_rfl
abbrev qWV:=qr [mA 11 5,mA 12 1,bA 13 .rem 11 12,iA 14 (cl 47 [.t 13]),iA 15 (.build [(.str []),(.bool false),(.int .i64 0),(.int .i64 0)] [(0,1,(.t 14))]),sA 4 4 15] .ret
abbrev qVn:=qr [iA 19 (.build [(.str []),(.bool false),(.int .i64 0),(.int .i64 0)] [(0,1,(.c (.str [101,114,114,111,114])))]),sA 4 4 19] .ret
abbrev qVx:=qr [mA 17 5,bC 18 .eql 17 13,mA 16 18] (cd 16 qVn .skip)
abbrev qEE:=qr [mA 9 5,bC 10 .lss 9 5,mA 8 10] (cd 8 qWV qVx)
abbrev qD8:=qr [mA 20 5,bC 21 .sub 20 5,iA 22 (cl 49 [.t 21]),sA 4 4 22] .ret
abbrev qMK:=qr [mA 6 0,iA 7 (cl 24 [(.t 6),(cI 14)]),mA 5 7] (.seq (.block 0 qEE) qD8)
abbrev qle:=qr [iA 4 (.alloc 4 (.agg [(.str []),(.bool false),(.int .i64 0),(.int .i64 0)]))] qMK
abbrev e48:EF:=⟨23,2,[(.inr (4,true,4))],qle⟩
theorem qON:qh Tryz.prog {} Tryz.f48=some e48:=by kernel_rfl
abbrev qWi:=qr [iA 3 (cl 82 []),mA 4 0,bC 5 .rem 4 4,mA 6 0,bC 7 .rem 6 4,bC 8 .add 7 1,iA 9 (.slcS (.t 3) (some (.t 5)) (some (.t 8))),iA 10 (.build [(.str []),(.bool false),(.int .i64 0),(.int .i64 0)] [(0,1,(.t 9)),(1,1,(cB true))]),sA 4 2 10] .ret
abbrev qJN:=qr [iA 2 (.alloc 4 (.agg [(.str []),(.bool false),(.int .i64 0),(.int .i64 0)]))] qWi
abbrev e49:EF:=⟨11,1,[(.inr (2,true,4))],qJN⟩
theorem qML:qh Tryz.prog {} Tryz.f49=some e49:=by kernel_rfl
abbrev qWd:=qr [mA 20 6,mA 21 4,zA 22 21,bA 23 .lss 20 22] (cd 23 .skip (.exit 0))
abbrev qE3:=qr [mA 33 9,mA 34 7,zA 35 34,bA 36 .lss 33 35] (cd 36 .skip (.exit 2))
abbrev qCs:=cd 46 (.reg [mA 47 8,mA 48 10,iA 49 (cl 37 [(.t 47),(.t 48)]),mA 8 49]) .skip
abbrev qz5:=qr [iR 39 (oG 5 1),mN 40 7,mN 41 9,aN 42 2 40 41,iR 43 (oG 2 42),iR 44 (cl 85 [(.t 39),(.t 43)]),mN 10 44] (qr [mA 45 10,bC 46 .geq 45 0] qCs)
abbrev qAA:EC:= .seq (.block 3 qz5) (.reg [mA 37 9,bC 38 .add 37 1,mA 9 38])
abbrev qOI:=qr [iA 9 (.mov (cI 0))] (.block 2 (.loop (.seq qE3 qAA)))
abbrev qR2:=qr [mA 50 11,mA 51 5,zA 52 51,bA 53 .lss 50 52] (cd 53 .skip (.exit 4))
abbrev qSk:=qr [mA 56 8,mA 57 5,mA 58 11,aA 59 1 57 58,lA 60 1 59,iA 61 (cl 38 [(.t 56),(.t 60)]),iA 62 (.un .not (.t 61))] (cd 62 (.exit 5) .skip)
abbrev qzi:=qr [iA 2 (.mov (.c (.sl 2 true []))),iA 3 (.mov (cI 4))] .ret
abbrev qLK:=qr [mA 81 13,bC 82 .eql 81 150] (cd 82 qzi .skip)
abbrev qPq:EC:= .seq qLK (.reg [mA 83 4,mA 84 12,iA 85 (.build [(.sl 2 true []),(.sl 2 true [])] [(0,1,(.t 84))]),iA 86 (.lit false 2 true (.agg [(.sl 2 true []),(.sl 2 true [])]) 1 [(0,(.t 85))]),iA 87 (.append true 2 48 (.t 83) (.t 86)),mA 4 87])
abbrev qSq:=cd 78 (qr [mA 79 4,zA 80 79,mA 13 80] qPq) .skip
abbrev qQi:EC:= .seq (qr [mA 77 13,bC 78 .lss 77 0] qSq) (.reg [mN 88 4,mN 89 6,mN 90 4,mN 91 6,aN 92 2 90 91,fN 93 1 92,lR 94 1 93,mN 95 5,mN 96 11,aN 97 1 95 96,lR 98 1 97,mN 99 13,iN 100 (.build [(.int .i64 0),(.int .i64 0)] [(0,1,(.t 98)),(1,1,(.t 99))]),iN 101 (.lit false 2 true (.agg [(.int .i64 0),(.int .i64 0)]) 1 [(0,(.t 100))]),⟨(some 102),none,.append false 2 16 (.t 94) (.t 101),.t⟩,aN 103 2 88 89,fN 104 1 103,sW 1 104 102])
abbrev qyn:=qr [mA 74 4,mA 75 12,iA 76 (cl 87 [(.t 74),(.t 75)]),mA 13 76] qQi
abbrev qII:=qr [iR 63 (oG 5 1),mN 64 4,mN 65 6,aN 66 2 64 65,fN 67 0 66,lR 68 1 67,mN 69 5,mN 70 11,aN 71 1 69 70,lR 72 1 71,iR 73 (cl 86 [(.t 63),(.t 68),(.t 72)]),mN 12 73] qyn
abbrev qIp:EC:= .seq (.block 5 (.seq qSk qII)) (.reg [mA 54 11,bC 55 .add 54 1,mA 11 55])
abbrev qJS:=qr [iA 11 (.mov (cI 0))] (.block 4 (.loop (.seq qR2 qIp)))
abbrev qKC:=qr [iA 8 (.mov (.c (.sl 1 true [])))] (.seq qOI qJS)
abbrev qBv:=qr [iR 26 (oG 5 1),mN 27 4,mN 28 6,aN 29 2 27 28,fN 30 0 29,lR 31 1 30,iR 32 (cl 84 [(.t 26),(.t 31)]),mN 7 32] qKC
abbrev qG0:EC:= .seq (.block 1 qBv) (.reg [mA 24 6,bC 25 .add 24 1,mA 6 25])
abbrev qEo:=qr [iA 6 (.mov (cI 0))] (.block 0 (.loop (.seq qWd qG0)))
abbrev qLl:=qr [mA 105 4,mA 2 105,iA 3 (.mov (cI 0))] .ret
abbrev qA2:=qr [lG 18 5 1,iA 19 (cl 83 [.t 18]),mA 5 19] (.seq qEo qLl)
abbrev qNo:=qr [iA 14 (.build [(.int .i64 0),(.int .i64 0)] []),iA 15 (.lit false 2 true (.agg [(.int .i64 0),(.int .i64 0)]) 1 [(0,(.t 14))]),iA 16 (.build [(.sl 2 true []),(.sl 2 true [])] [(0,1,(.t 15))]),iA 17 (.lit true 2 true (.agg [(.sl 2 true []),(.sl 2 true [])]) 1 [(0,(.t 16))]),mA 4 17] qA2
abbrev qj9:=qr [iA 1 (.box 5 (.t 0)),iA 2 (.mov (.c (.sl 2 true []))),iA 3 (.mov (cI 0))] qNo
abbrev e50:EF:=⟨106,1,[(.inl 2),(.inl 3)],qj9⟩
theorem qkn:qh Tryz.prog {mu:=fun t=>[17,87].contains t} Tryz.f50=some e50:=by kernel_rfl
abbrev qVu:=qr [mA 24 22,aA 25 2 20 22,lG 26 2 25,iA 7 (.alloc 2 (.agg [(.int .i64 0),(.int .i64 0)])),mA 6 24,sA 2 7 26] (.reg [mN 27 5,nN 28 27,fN 29 7 28,lR 30 1 29,iR 31 (oG 2 7),mN 32 6,⟨none,none,.mset (.t 30) (.t 31) (.t 32),.w⟩])
abbrev qNC:EC:= .seq (.block 1 qVu) (.reg [bC 33 .add 22 1,mA 22 33])
abbrev qzr:=qr [bA 23 .lss 22 21] (.seq (cd 23 .skip (.exit 0)) qNC)
abbrev qzR:=qr [mA 17 5,nA 18 17,fA 19 6 18,lA 20 1 19,zA 21 20,iA 22 (.mov (cI 0))] (.block 0 (.loop qzr))
abbrev qJC:EC:= .seq qzR (qr [mA 34 5,mA 4 34] .ret)
abbrev qP7:=qr [iR 8 (oG 5 2),mN 9 1,mN 10 1,iR 11 (cl 15 [.t 10]),⟨(some 12),none,.mkmap,.a⟩,iR 13 (oG 5 2),iR 14 (cl 88 [.t 13]),iN 15 (.build [(.sl 6 true []),(.sl 2 true []),(.sl 6 true []),(.str []),(.str []),(.sl 2 true []),(.sl 2 true []),.nilmap,(.sl 1 true [])] [(0,5,(.t 8)),(5,1,(.t 9)),(6,1,(.t 11)),(7,1,(.t 12)),(8,1,(.t 14))]),⟨(some 16),none,.box 9 (.t 15),.a⟩,mN 5 16] qJC
abbrev qkj:=qr [iA 2 (.box 5 (.t 0)),iA 4 (.mov (.c .nilp))] qP7
abbrev e51:EF:=⟨35,2,[(.inl 4)],qkj⟩
theorem qiJ:qh Tryz.prog {} Tryz.f51=some e51:=by kernel_rfl
abbrev qWa:=qr [mA 28 8,iA 29 (cl 89 [.t 28])] (.reg [mA 30 5,mA 31 6,mA 32 8,iA 33 (cl 90 [.t 32]),aA 34 1 30 31,sA 1 34 33])
abbrev qNi:=qr [mA 25 1,lG 26 2 7,iA 27 (.call (.t 25) [.t 26]),mA 8 27] qWa
abbrev qLR:=qr [mA 22 20,aA 23 2 18 20,lG 24 2 23,iA 7 (.alloc 2 (.agg [(.int .i64 0),(.int .i64 0)])),mA 6 22,sA 2 7 24] qNi
abbrev qJk:EC:= .seq (.block 1 qLR) (.reg [bC 35 .add 20 1,mA 20 35])
abbrev qDZ:=qr [bA 21 .lss 20 19] (.seq (cd 21 .skip (.exit 0)) qJk)
abbrev qGS:=qr [mA 15 0,nA 16 15,fA 17 6 16,lA 18 1 17,zA 19 18,iA 20 (.mov (cI 0))] (.block 0 (.loop qDZ))
abbrev qIe:EC:= .seq qGS (qr [mA 36 5,mA 4 36] .ret)
abbrev qFJ:=qr [mA 9 0,nA 10 9,fA 11 6 10,lA 12 1 11,zA 13 12,iA 14 (.mksl true 1 24 (.sl 1 true []) (.t 13) (.t 13)),mA 5 14] qIe
abbrev qjX:=qr [iA 4 (.mov (.c (.sl 1 true [])))] qFJ
abbrev e52:EF:=⟨37,2,[(.inl 4)],qjX⟩
theorem qjv:qh Tryz.prog {mu:=fun t=>[14].contains t} Tryz.f52=some e52:=by kernel_rfl
abbrev qTK:=cd 21 (.reg [mA 22 5,iA 23 (.lit false 1 false (.int .i64 0) 1 [(0,(cI 0))]),iA 24 (.append true 1 8 (.t 22) (.t 23)),mA 5 24]) .skip
abbrev qWe:=qr [fA 18 0 6,lA 19 1 18,iA 20 (.build [(.int .i64 0),(.int .i64 0)] [(0,1,(cI 0)),(1,1,(cI 1))]),iA 21 (cl 92 [(.t 19),(.t 20)])] qTK
abbrev qLH:=cd 34 (.reg [mA 35 5,fA 36 0 8,lA 37 1 36,iA 38 (.lit false 1 false (.int .i64 0) 1 [(0,(.t 37))]),iA 39 (.append true 1 8 (.t 35) (.t 38)),mA 5 39]) .skip
abbrev qI5:=qr [fA 32 0 8,lA 33 1 32,bC 34 .lss 33 1000] qLH
abbrev qMi:=qr [aA 30 2 26 28,lG 31 2 30,iA 8 (.alloc 2 (.agg [(.int .i64 0),(.int .i64 0)])),sA 2 8 31] qI5
abbrev qCI:EC:= .seq (.block 1 qMi) (.reg [bC 40 .add 28 1,mA 28 40])
abbrev qRt:=qr [bA 29 .lss 28 27] (.seq (cd 29 .skip (.exit 0)) qCI)
abbrev qyS:=qr [fA 25 1 6,lA 26 1 25,zA 27 26,iA 28 (.mov (cI 0))] (.block 0 (.loop qRt))
abbrev qfg:EC:= .seq qyS (qr [mA 41 5,mA 4 41] .ret)
abbrev qj6:EC:= .seq qWe qfg
abbrev qjO:=qr [mN 9 0,nN 10 9,fN 11 5 10,lR 12 1 11,mN 13 0,iR 14 (oG 2 3),⟨(some 15),none,.call (.c (.fn 91 [])) [(.t 13),(.t 14)],.b⟩,aN 16 2 12 15,iR 17 (oG 2 16),⟨(some 6),none,.alloc 2 (.agg [(.sl 2 true []),(.sl 2 true [])]),.a⟩,sW 2 6 17] qj6
abbrev qjF:=qr [iA 5 (.mov (.c (.sl 1 true [])))] qjO
abbrev qeT:=qr [iA 3 (.box 2 (.t 1)),iA 4 (.mov (.c (.sl 1 true [])))] qjF
abbrev e53:EF:=⟨42,2,[(.inl 4)],qeT⟩
theorem qkq:qh Tryz.prog {mu:=fun t=>[24,39].contains t,cl:=fun r i=>([(2,6,Cls.b)].find? fun x=>x.1 == r && x.2.1 == i).map (·.2.2)} Tryz.f53=some e53:=by kernel_rfl
abbrev qUP:=qr [mA 8 1,bC 9 .geq 8 0,mA 10 9,gT 11 10 (oM 1),gT 12 10 (oM 0),gT 13 10 (.len (.t 12)),gT 14 10 (.bin .lss (.t 11) (.t 13)),pA 15 10 14,mA 16 15,gT 17 16 (oM 7),gT 18 16 (oM 0),gT 19 16 (oM 1),gT 20 16 (.iaddr 2 (.t 18) (.t 19)),gT 21 16 (oF 1 20),gT 22 16 (oL 1 21),gT 23 16 (.len (.t 22)),gT 24 16 (.bin .lss (.t 17) (.t 23)),pA 25 16 24] (cd 25 .skip (.exit 0))
abbrev qU2:=qr [mA 39 0,mA 40 1,aA 41 2 39 40,fA 42 1 41,lA 43 1 42,mA 44 7,aA 45 2 43 44,fA 46 1 45,lA 47 1 46,mA 6 47] .ret
abbrev qVO:=qr [mA 28 0,mA 29 1,aA 30 2 28 29,fA 31 1 30,lA 32 1 31,mA 33 7,aA 34 2 32 33,fA 35 0 34,lA 36 1 35,mA 37 2,bA 38 .eql 36 37] (cd 38 qU2 .skip)
abbrev qJl:EC:= .seq (.block 1 qVO) (.reg [mA 26 7,bC 27 .add 26 1,mA 7 27])
abbrev qRP:=qr [iA 7 (.mov (cI 0))] (.block 0 (.loop (.seq qUP qJl)))
abbrev qQx:EC:= .seq qRP (qr [iA 6 (.mov (cI (-1)))] .ret)
abbrev qku:=qr [iA 6 (.mov (cI 0))] qQx
abbrev e54:EF:=⟨48,3,[(.inl 6)],qku⟩
theorem qOg:qh Tryz.prog {} Tryz.f54=some e54:=by kernel_rfl
abbrev qT3:=qr [mA 4 3,mA 5 0,zA 6 5,bA 7 .lss 4 6] (cd 7 .skip (.exit 0))
abbrev qTq:=cd 23 (qr [iA 2 (.mov (cB true))] .ret) .skip
abbrev qWm:=qr [mA 10 0,mA 11 3,aA 12 2 10 11,fA 13 0 12,lA 14 1 13,bC 15 .eql 14 0,mA 16 15,gT 17 16 (oM 0),gT 18 16 (oM 3),gT 19 16 (.iaddr 2 (.t 17) (.t 18)),gT 20 16 (oF 1 19),gT 21 16 (oL 1 20),gT 22 16 (.bin .eql (.t 21) (cI 1)),pA 23 16 22] qTq
abbrev qC9:EC:= .seq (.block 1 qWm) (.reg [mA 8 3,bC 9 .add 8 1,mA 3 9])
abbrev qPf:=qr [iA 3 (.mov (cI 0))] (.block 0 (.loop (.seq qT3 qC9)))
abbrev qFa:EC:= .seq qPf (qr [iA 2 (.mov (cB false))] .ret)
abbrev qje:=qr [iA 2 (.mov (cB false))] qFa
abbrev e55:EF:=⟨24,1,[(.inl 2)],qje⟩
theorem qFN:qh Tryz.prog {} Tryz.f55=some e55:=by kernel_rfl
abbrev qWo:=cd 38 (.reg [mN 39 5,mN 40 0,nN 41 40,fN 42 7 41,lR 43 1 42,mN 44 6,fN 45 0 8,lR 46 1 45,iN 47 (.build [(.int .i64 0),(.int .i64 0)] [(0,1,(.t 44)),(1,1,(.t 46))]),iN 48 (.mget false (.t 43) (.t 47)),iN 49 (.lit false 1 false (.int .i64 0) 1 [(0,(.t 48))]),⟨(some 50),none,.append true 1 8 (.t 39) (.t 49),.w⟩,mN 5 50]) .skip
abbrev qAL:=qr [fN 25 0 8,lR 26 1 25,iN 27 (.bin .geq (.t 26) (cI 1000)),mN 28 27,⟨(some 29),(some (28,true)),.mov (.t 0),.n⟩,⟨(some 30),(some (28,true)),.nilck (.t 29),.n⟩,⟨(some 31),(some (28,true)),.faddr 8 (.t 30),.n⟩,⟨(some 32),(some (28,true)),.load false 1 (.t 31),.r⟩,⟨(some 33),(some (28,true)),.faddr 0 (.t 8),.n⟩,⟨(some 34),(some (28,true)),.load false 1 (.t 33),.r⟩,⟨(some 35),(some (28,true)),.bin .sub (.t 34) (cI 1000),.n⟩,⟨(some 36),(some (28,true)),.iaddr 1 (.t 32) (.t 35),.n⟩,⟨(some 37),(some (28,true)),.load false 1 (.t 36),.r⟩,iN 38 (.pick (.t 28) (.t 37) (cB false))] qWo
abbrev qy8:=qr [aA 23 2 19 21,lG 24 2 23,iA 8 (.alloc 2 (.agg [(.int .i64 0),(.int .i64 0)])),sA 2 8 24] qAL
abbrev qOi:EC:= .seq (.block 1 qy8) (.reg [bC 51 .add 21 1,mA 21 51])
abbrev qJu:=qr [bA 22 .lss 21 20] (.seq (cd 22 .skip (.exit 0)) qOi)
abbrev qPK:=qr [mA 12 0,nA 13 12,fA 14 5 13,lA 15 1 14,mA 16 6,aA 17 2 15 16,fA 18 1 17,lA 19 1 18,zA 20 19,iA 21 (.mov (cI 0))] (.block 0 (.loop qJu))
abbrev qK6:EC:= .seq qPK (qr [mA 52 5,mA 4 52] .ret)
abbrev qHo:=qr [mA 9 0,lG 10 2 3,iA 11 (cl 91 [(.t 9),(.t 10)]),mA 6 11] qK6
abbrev qG7:=qr [iA 5 (.mov (.c (.sl 1 true [])))] qHo
abbrev qiO:=qr [iA 3 (.box 2 (.t 1)),iA 4 (.mov (.c (.sl 1 true [])))] qG7
abbrev e56:EF:=⟨53,2,[(.inl 4)],qiO⟩
theorem qiD:qh Tryz.prog {mu:=fun t=>[50].contains t,cl:=fun r i=>([(7,11,Cls.w),(2,2,Cls.b)].find? fun x=>x.1 == r && x.2.1 == i).map (·.2.2)} Tryz.f56=some e56:=by kernel_rfl
abbrev qWR:=qr [mA 11 4] (cd 11 .skip (.exit 0))
abbrev qE4:=qr [mA 12 5,fA 13 2 1,lA 14 1 13,zA 15 14,bA 16 .lss 12 15] (cd 16 .skip (.exit 2))
abbrev qGe:=qr [mA 36 3,fA 37 0 6,lA 38 1 37,aA 39 1 36 38,⟨none,none,.store 1 (.t 39) (cB true),.any⟩] (.reg [iA 4 (.mov (cB true))])
abbrev qKS:=qr [mA 24 3,fA 25 0 6,lA 26 1 25,aA 27 1 24 26,lA 28 1 27,iA 29 (.un .not (.t 28)),mA 30 29,gT 31 30 (oM 3),gT 32 30 (oF 1 6),gT 33 30 (oL 1 32),gT 34 30 (cl 60 [(.t 31),(.t 33)]),pA 35 30 34] (cd 35 qGe .skip)
abbrev qFW:=qr [fA 19 2 1,lA 20 1 19,mA 21 5,aA 22 6 20 21,lG 23 6 22,iA 6 (.alloc 6 (.agg [(.int .i64 0),(.sl 1 true []),(.int .i64 0),(.str []),(.sl 1 true []),(.int .i64 0)])),sA 6 6 23] qKS
abbrev qMd:EC:= .seq (.block 3 qFW) (.reg [mA 17 5,bC 18 .add 17 1,mA 5 18])
abbrev qPY:=qr [iA 5 (.mov (cI 0))] (.block 2 (.loop (.seq qE4 qMd)))
abbrev qQq:EC:= .block 1 (qr [iA 4 (.mov (cB false))] qPY)
abbrev qz8:=qr [iA 4 (.mov (cB true))] (.block 0 (.loop (.seq qWR qQq)))
abbrev qzG:EC:= .seq qz8 (qr [mA 40 3,mA 2 40] .ret)
abbrev qBn:=qr [fA 7 1 1,lA 8 1 7,zA 9 8,iA 10 (.mksl true 1 1 (.bool false) (.t 9) (.t 9)),mA 3 10] qzG
abbrev qiX:=qr [iA 1 (.box 5 (.t 0)),iA 2 (.mov (.c (.sl 1 true [])))] qBn
abbrev e57:EF:=⟨41,1,[(.inl 2)],qiX⟩
theorem qzw:qh Tryz.prog {mu:=fun t=>[10].contains t} Tryz.f57=some e57:=by kernel_rfl
abbrev qVg:=qr [mA 8 7,mA 9 0,zA 10 9,bA 11 .lss 8 10] (cd 11 .skip (.exit 0))
abbrev qVk:=cd 29 (qr [mA 30 7,mA 6 30] .ret) .skip
abbrev qUJ:=qr [mA 14 0,mA 15 7,aA 16 2 14 15,fA 17 0 16,lA 18 1 17,mA 19 1,bA 20 .eql 18 19,mA 21 20,gT 22 21 (oM 0),gT 23 21 (oM 7),gT 24 21 (.iaddr 2 (.t 22) (.t 23)),gT 25 21 (oF 1 24),gT 26 21 (oL 1 25),gT 27 21 (oM 2),gT 28 21 (.bin .eql (.t 26) (.t 27)),pA 29 21 28] qVk
abbrev qAC:EC:= .seq (.block 1 qUJ) (.reg [mA 12 7,bC 13 .add 12 1,mA 7 13])
abbrev qCL:=qr [iA 7 (.mov (cI 0))] (.block 0 (.loop (.seq qVg qAC)))
abbrev qOR:EC:= .seq qCL (qr [iA 6 (.mov (cI (-1)))] .ret)
abbrev qkY:=qr [iA 6 (.mov (cI 0))] qOR
abbrev e58:EF:=⟨31,3,[(.inl 6)],qkY⟩
theorem qCR:qh Tryz.prog {} Tryz.f58=some e58:=by kernel_rfl
abbrev qOz:=qr [fA 40 0 7,lA 41 1 40,iA 42 (.bin .add (cI 1000) (.t 41)),fA 43 1 5,lA 44 1 43,bA 45 .neq 42 44] (cd 45 (.exit 3) .skip)
abbrev qFV:=cd 76 (.reg [mA 77 3,mA 78 11,mA 79 3,mA 80 11,aA 81 1 79 80,lA 82 1 81,mA 83 4,iA 84 (.lit false 1 false (.int .i64 0) 1 [(0,(.t 83))]),iA 85 (.append true 1 8 (.t 82) (.t 84)),aA 86 1 77 78,sA 1 86 85]) .skip
abbrev qE9:=qr [mA 67 12,mA 68 67,gT 69 68 (oM 0),gT 70 68 (oF 1 7),gT 71 68 (oL 1 70),gT 72 68 (oM 9),gT 73 68 (.bin .add (.t 72) (cI 1)),gT 74 68 (.slc 1 (.t 71) (some (.t 73)) none none),gT 75 68 (cl 93 [(.t 69),(.t 74)]),pA 76 68 75] qFV
abbrev qIr:=qr [mA 57 0,nA 58 57,fA 59 7 58,lA 60 1 59,mA 61 8,mA 62 10,iA 63 (.build [(.int .i64 0),(.int .i64 0)] [(0,1,(.t 61)),(1,1,(.t 62))]),iA 64 (.mget true (.t 60) (.t 63)),mA 56 64,iA 65 (.ext (.t 56) 0),iA 66 (.ext (.t 56) 1),mA 11 65,mA 12 66] qE9
abbrev qKH:EC:= .seq qIr (.reg [mA 87 0,nA 88 87,fA 89 5 88,lA 90 1 89,mA 91 8,mA 92 10,iA 93 (cl 94 [(.t 90),(.t 91),(.t 92)]),mA 8 93])
abbrev qMG:=qr [mA 53 51,aA 54 1 49 51,lA 55 1 54,mA 9 53,mA 10 55] qKH
abbrev qAD:EC:= .seq (.block 5 qMG) (.reg [bC 94 .add 51 1,mA 51 94])
abbrev qBh:=qr [bA 52 .lss 51 50] (.seq (cd 52 .skip (.exit 4)) qAD)
abbrev qNH:=qr [fA 48 1 7,lA 49 1 48,zA 50 49,iA 51 (.mov (cI 0))] (.block 4 (.loop qBh))
abbrev qyX:=qr [fA 46 0 5,lA 47 1 46,mA 8 47] qNH
abbrev qJg:=qr [aA 38 6 34 36,lG 39 6 38,iA 7 (.alloc 6 (.agg [(.int .i64 0),(.sl 1 true []),(.int .i64 0),(.str []),(.sl 1 true []),(.int .i64 0)])),sA 6 7 39] (.seq qOz qyX)
abbrev qJi:EC:= .seq (.block 3 qJg) (.reg [bC 95 .add 36 1,mA 36 95])
abbrev qMn:=qr [bA 37 .lss 36 35] (.seq (cd 37 .skip (.exit 2)) qJi)
abbrev qNI:=qr [mA 30 0,nA 31 30,fA 32 0 31,fA 33 2 32,lA 34 1 33,zA 35 34,iA 36 (.mov (cI 0))] (.block 2 (.loop qMn))
abbrev qEe:=qr [mA 27 25,aA 28 2 23 25,lG 29 2 28,iA 5 (.alloc 2 (.agg [(.int .i64 0),(.int .i64 0)])),mA 4 27,sA 2 5 29] qNI
abbrev qG3:EC:= .seq (.block 1 qEe) (.reg [bC 96 .add 25 1,mA 25 96])
abbrev qHJ:=qr [bA 26 .lss 25 24] (.seq (cd 26 .skip (.exit 0)) qG3)
abbrev qCa:=qr [mA 20 0,nA 21 20,fA 22 6 21,lA 23 1 22,zA 24 23,iA 25 (.mov (cI 0))] (.block 0 (.loop qHJ))
abbrev qID:=qr [mA 102 3,mA 103 13,aA 104 1 102 103,lA 105 1 104,iA 106 (cl 89 [.t 105])] (.reg [mA 107 3,mA 108 13,mA 109 3,mA 110 13,aA 111 1 109 110,lA 112 1 111,iA 113 (cl 90 [.t 112]),aA 114 1 107 108,sA 1 114 113])
abbrev qHV:EC:= .block 7 (qr [mA 101 99,mA 13 101] qID)
abbrev qO8:EC:= .seq qHV (.reg [bC 115 .add 99 1,mA 99 115])
abbrev qMP:=qr [bA 100 .lss 99 98] (.seq (cd 100 .skip (.exit 6)) qO8)
abbrev qBp:=qr [mA 97 3,zA 98 97,iA 99 (.mov (cI 0))] (.block 6 (.loop qMP))
abbrev qMB:EC:= .seq qBp (qr [mA 116 3,mA 2 116] .ret)
abbrev qCn:=qr [mA 14 0,nA 15 14,fA 16 6 15,lA 17 1 16,zA 18 17,iA 19 (.mksl true 1 24 (.sl 1 true []) (.t 18) (.t 18)),mA 3 19] (.seq qCa qMB)
abbrev qkw:=qr [iA 2 (.mov (.c (.sl 1 true [])))] qCn
abbrev e59:EF:=⟨117,1,[(.inl 2)],qkw⟩
theorem qkp:qh Tryz.prog {mu:=fun t=>[19,85].contains t} Tryz.f59=some e59:=by kernel_rfl
abbrev qU0:=qr [mA 6 5,mA 7 1,zA 8 7,bA 9 .lss 6 8] (cd 9 .skip (.exit 0))
abbrev qXb:=cd 27 (qr [iA 4 (.mov (cB false))] .ret) .skip
abbrev qXm:=qr [mA 12 1,mA 13 5,aA 14 1 12 13,lA 15 1 14,bC 16 .lss 15 1000,mA 17 16,gF 18 17 (oM 0),gF 19 17 (oM 1),gF 20 17 (oM 5),gF 21 17 (.iaddr 1 (.t 19) (.t 20)),gF 22 17 (oL 1 21),gF 23 17 (.bin .sub (.t 22) (cI 1000)),gF 24 17 (.iaddr 1 (.t 18) (.t 23)),gF 25 17 (oL 1 24),gF 26 17 (.un .not (.t 25)),pO 27 17 26] qXb
abbrev qyB:EC:= .seq (.block 1 qXm) (.reg [mA 10 5,bC 11 .add 10 1,mA 5 11])
abbrev qHK:=qr [iA 5 (.mov (cI 0))] (.block 0 (.loop (.seq qU0 qyB)))
abbrev qJq:EC:= .seq qHK (qr [iA 4 (.mov (cB true))] .ret)
abbrev qlb:=qr [iA 4 (.mov (cB false))] qJq
abbrev e60:EF:=⟨28,2,[(.inl 4)],qlb⟩
theorem qSL:qh Tryz.prog {} Tryz.f60=some e60:=by kernel_rfl
abbrev qVE:=qr [mA 8 7,mA 9 2,zA 10 9,bA 11 .lss 8 10,mA 12 11,gT 13 12 (oM 1),gT 14 12 (.bin .geq (.t 13) (cI 0)),pA 15 12 14] (cd 15 .skip (.exit 0))
abbrev qVp:EC:= .block 1 (.reg [mA 18 0,mA 19 1,mA 20 2,mA 21 7,aA 22 1 20 21,lA 23 1 22,iA 24 (cl 54 [(.t 18),(.t 19),(.t 23)]),mA 1 24])
abbrev qVI:EC:= .seq qVp (.reg [mA 16 7,bC 17 .add 16 1,mA 7 17])
abbrev qFj:=qr [iA 7 (.mov (cI 0))] (.block 0 (.loop (.seq qVE qVI)))
abbrev qEf:EC:= .seq qFj (qr [mA 25 1,mA 6 25] .ret)
abbrev qk8:=qr [iA 6 (.mov (cI 0))] qEf
abbrev e61:EF:=⟨26,3,[(.inl 6)],qk8⟩
theorem qSA:qh Tryz.prog {} Tryz.f61=some e61:=by kernel_rfl
abbrev e62:EF:=⟨84,3,[(.inl 6)],(qr [iA 6 (.mov (.c (.sl 1 true [])))] (qr [iA 7 (.mov (.c (.sl 1 true [])))] (.seq (qr [mA 10 1,bC 11 .lss 10 0,mA 12 11,gF 13 12 (oM 1),gF 14 12 (oM 0),gF 15 12 (.nilck (.t 14)),gF 16 12 (oF 5 15),gF 17 12 (oL 1 16),gF 18 12 (.len (.t 17)),gF 19 12 (.bin .geq (.t 13) (.t 18)),pO 20 12 19,mA 21 20,gF 22 21 (oM 2),gF 23 21 (.bin .lss (.t 22) (cI 1)),pO 24 21 23,mA 25 24,gF 26 25 (oM 2),gF 27 25 (oM 0),gF 28 25 (.nilck (.t 27)),gF 29 25 (oF 0 28),gF 30 25 (oF 2 29),gF 31 25 (oL 1 30),gF 32 25 (.len (.t 31)),gF 33 25 (.bin .geq (.t 26) (.t 32)),pO 34 25 33] (cd 34 (qr [iA 6 (.mov (.c (.sl 1 true [])))] .ret) .skip)) (.seq (qr [mA 35 0,nA 36 35,fA 37 6 36,lA 38 1 37,zA 39 38,iA 40 (.mov (cI 0))] (.block 0 (.loop (qr [bA 41 .lss 40 39] (.seq (cd 41 .skip (.exit 0)) (.seq (.block 1 (qr [mA 42 40,aA 43 2 38 40,lG 44 2 43,iA 9 (.alloc 2 (.agg [(.int .i64 0),(.int .i64 0)])),mA 8 42,sA 2 9 44] (qr [fN 45 1 9,lR 46 1 45,mN 47 0,nN 48 47,fN 49 0 48,fN 50 2 49,lR 51 1 50,mN 52 2,aN 53 6 51 52,fN 54 0 53,lR 55 1 54,iN 56 (.bin .add (cI 1000) (.t 55)),iN 57 (.bin .eql (.t 46) (.t 56)),mN 58 57,⟨(some 59),(some (58,true)),.mov (.t 0),.n⟩,⟨(some 60),(some (58,true)),.nilck (.t 59),.n⟩,⟨(some 61),(some (58,true)),.faddr 5 (.t 60),.n⟩,⟨(some 62),(some (58,true)),.load false 1 (.t 61),.r⟩,⟨(some 63),(some (58,true)),.faddr 0 (.t 9),.n⟩,⟨(some 64),(some (58,true)),.load false 1 (.t 63),.r⟩,⟨(some 65),(some (58,true)),.mov (.t 0),.n⟩,⟨(some 66),(some (58,true)),.nilck (.t 65),.n⟩,⟨(some 67),(some (58,true)),.faddr 0 (.t 66),.n⟩,⟨(some 68),(some (58,true)),.faddr 2 (.t 67),.n⟩,⟨(some 69),(some (58,true)),.load false 1 (.t 68),.r⟩,⟨(some 70),(some (58,true)),.mov (.t 2),.n⟩,⟨(some 71),(some (58,true)),.iaddr 6 (.t 69) (.t 70),.n⟩,⟨(some 72),(some (58,true)),.faddr 1 (.t 71),.n⟩,⟨(some 73),(some (58,true)),.load false 1 (.t 72),.r⟩,⟨(some 74),(some (58,true)),.call (.c (.fn 95 [])) [(.t 62),(.t 64),(.t 73)],.r⟩,⟨(some 75),(some (58,true)),.mov (.t 1),.n⟩,⟨(some 76),(some (58,true)),.bin .eql (.t 74) (.t 75),.n⟩,iN 77 (.pick (.t 58) (.t 76) (cB false))] (cd 77 (.reg [mA 78 7,mA 79 8,iA 80 (.lit false 1 false (.int .i64 0) 1 [(0,(.t 79))]),iA 81 (.append false 1 8 (.t 78) (.t 80)),mA 7 81]) .skip)))) (.reg [bC 82 .add 40 1,mA 40 82]))))))) (qr [mA 83 7,mA 6 83] .ret)))))⟩
theorem qA8:qh Tryz.prog {} Tryz.f62=some e62:=by kernel_rfl
abbrev e63:EF:=⟨15,1,[(.inl 2)],(qr [iA 2 (.mov (.c (.sl 1 true [])))] (qr [mA 3 0,iA 4 (cl 59 [.t 3]),mA 5 0,mA 6 0,iA 7 (.mkmfn 56 (.t 6)),iA 8 (cl 52 [(.t 5),(.t 7)]),mA 9 0,mA 10 0,iA 11 (.mkmfn 53 (.t 10)),iA 12 (cl 52 [(.t 9),(.t 11)]),iA 13 (cl 36 [(.t 8),(.t 12)]),iA 14 (cl 36 [(.t 4),(.t 13)]),mA 2 14] .ret))⟩
theorem qAZ:qh Tryz.prog {} Tryz.f63=some e63:=by kernel_rfl
abbrev e65:EF:=⟨40,2,[(.inl 4)],(qr [iA 2 (.box 5 (.t 0)),iA 3 (.box 2 (.t 1)),iA 4 (.mov (.c (.sl 1 true [])))] (qr [iA 5 (.mov (.c (.sl 1 true [])))] (.seq (qr [lG 8 5 2,fA 9 0 3,lA 10 1 9,iA 11 (cl 72 [(.t 8),(.t 10)]),zA 12 11,iA 13 (.mov (cI 0))] (.block 0 (.loop (qr [bA 14 .lss 13 12] (.seq (cd 14 .skip (.exit 0)) (.seq (.block 1 (qr [aA 15 2 11 13,lG 16 2 15,iA 7 (.alloc 2 (.agg [(.int .i64 0),(.int .i64 0)])),sA 2 7 16] (qr [fN 17 0 7,lR 18 1 17,iN 19 (.bin .gtr (.t 18) (cI 0)),mN 20 19,⟨(some 21),(some (20,true)),.faddr 1 (.t 7),.n⟩,⟨(some 22),(some (20,true)),.load false 1 (.t 21),.r⟩,⟨(some 23),(some (20,true)),.faddr 2 (.t 2),.n⟩,⟨(some 24),(some (20,true)),.load false 1 (.t 23),.r⟩,⟨(some 25),(some (20,true)),.faddr 0 (.t 7),.n⟩,⟨(some 26),(some (20,true)),.load false 1 (.t 25),.r⟩,⟨(some 27),(some (20,true)),.iaddr 6 (.t 24) (.t 26),.n⟩,⟨(some 28),(some (20,true)),.faddr 1 (.t 27),.n⟩,⟨(some 29),(some (20,true)),.load false 1 (.t 28),.r⟩,⟨(some 30),(some (20,true)),.len (.t 29),.n⟩,⟨(some 31),(some (20,true)),.bin .eql (.t 22) (.t 30),.n⟩,iN 32 (.pick (.t 20) (.t 31) (cB false))] (cd 32 (.reg [mA 33 5,fA 34 0 7,lA 35 1 34,iA 36 (.lit false 1 false (.int .i64 0) 1 [(0,(.t 35))]),iA 37 (.append false 1 8 (.t 33) (.t 36)),mA 5 37]) .skip)))) (.reg [bC 38 .add 13 1,mA 13 38]))))))) (qr [mA 39 5,mA 4 39] .ret))))⟩
theorem qHP:qh Tryz.prog {} Tryz.f65=some e65:=by kernel_rfl
abbrev e66:EF:=⟨22,2,[(.inr (4,true,16))],(qr [iA 2 (.box 16 (.t 0)),iA 3 (.box 16 (.t 1)),iA 4 (.alloc 16 (.agg [(.int .u64 0),(.int .u64 0),(.int .u64 0),(.int .u64 0),(.int .u64 0),(.int .u64 0),(.int .u64 0),(.int .u64 0),(.int .u64 0),(.int .u64 0),(.int .u64 0),(.int .u64 0),(.int .u64 0),(.int .u64 0),(.int .u64 0),(.int .u64 0)]))] (.seq (qr [iA 6 (.mov (cI 0))] (.block 0 (.loop (qr [bC 7 .lss 6 16] (.seq (cd 7 .skip (.exit 0)) (.seq (.block 1 (qr [mA 8 6,mA 5 8] (.reg [mN 9 5,fN 10 0 2,iN 11 (.iaddrA 16 1 (.t 10) (.t 9)),lR 12 1 11,mN 13 5,fN 14 0 3,iN 15 (.iaddrA 16 1 (.t 14) (.t 13)),lR 16 1 15,iN 17 (.bin .or (.t 12) (.t 16)),fN 18 0 2,iN 19 (.iaddrA 16 1 (.t 18) (.t 9)),sW 1 19 17]))) (.reg [bC 20 .add 6 1,mA 6 20]))))))) (qr [lG 21 16 2,sA 16 4 21] .ret)))⟩
theorem qEn:qh Tryz.prog {} Tryz.f66=some e66:=by kernel_rfl
abbrev e67:EF:=⟨27,1,[(.inr (2,true,16))],(qr [iA 2 (.alloc 16 (.agg [(.int .u64 0),(.int .u64 0),(.int .u64 0),(.int .u64 0),(.int .u64 0),(.int .u64 0),(.int .u64 0),(.int .u64 0),(.int .u64 0),(.int .u64 0),(.int .u64 0),(.int .u64 0),(.int .u64 0),(.int .u64 0),(.int .u64 0),(.int .u64 0)]))] (qr [iA 3 (.alloc 16 (.agg [(.int .u64 0),(.int .u64 0),(.int .u64 0),(.int .u64 0),(.int .u64 0),(.int .u64 0),(.int .u64 0),(.int .u64 0),(.int .u64 0),(.int .u64 0),(.int .u64 0),(.int .u64 0),(.int .u64 0),(.int .u64 0),(.int .u64 0),(.int .u64 0)]))] (.seq (qr [mA 6 0,zA 7 6,iA 8 (.mov (cI 0))] (.block 0 (.loop (qr [bA 9 .lss 8 7] (.seq (cd 9 .skip (.exit 0)) (.seq (.block 1 (qr [aA 10 1 6 8,lA 11 1 10,mA 5 11] (qr [mA 12 5,iA 13 (cl 96 [.t 12])] (cd 13 (.reg [mN 14 5,iN 15 (.bin .quo (.t 14) (cI 64)),fN 16 0 3,iN 17 (.iaddrA 16 1 (.t 16) (.t 15)),lR 18 1 17,mN 19 5,iN 20 (.bin .rem (.t 19) (cI 64)),iN 21 (.bin .shl (.c (.int .u64 1)) (.t 20)),iN 22 (.bin .or (.t 18) (.t 21)),fN 23 0 3,iN 24 (.iaddrA 16 1 (.t 23) (.t 15)),sW 1 24 22]) .skip)))) (.reg [bC 25 .add 8 1,mA 8 25]))))))) (qr [lG 26 16 3,sA 16 2 26] .ret))))⟩
theorem qL4:qh Tryz.prog {} Tryz.f67=some e67:=by kernel_rfl
abbrev e68:EF:=⟨28,1,[(.inl 2)],(qr [iA 1 (.box 16 (.t 0)),iA 2 (.mov (.c (.sl 1 true [])))] (qr [iA 3 (.mov (.c (.sl 1 true [])))] (.seq (qr [fA 6 0 1,lG 7 16 6,iA 8 (.mov (cI 0))] (.block 0 (.loop (qr [bC 9 .lss 8 16] (.seq (cd 9 .skip (.exit 0)) (.seq (.block 1 (qr [mA 10 8,iA 11 (.idxA false 16 1 (.t 7) (.t 8)),mA 4 10,mA 5 11] (.block 2 (.loop (.seq (qr [mA 12 5,iA 13 (.bin .neq (.t 12) (.c (.int .u64 0)))] (cd 13 .skip (.exit 2))) (.seq (.block 3 (.reg [mA 18 3,mA 19 4,bC 20 .mul 19 64,mA 21 5,iA 22 (cl 97 [.t 21]),bA 23 .add 20 22,iA 24 (.lit false 1 false (.int .i64 0) 1 [(0,(.t 23))]),iA 25 (.append false 1 8 (.t 18) (.t 24)),mA 3 25])) (.reg [mA 14 5,mA 15 5,iA 16 (.bin .sub (.t 15) (.c (.int .u64 1))),bA 17 .and 14 16,mA 5 17]))))))) (.reg [bC 26 .add 8 1,mA 8 26]))))))) (qr [mA 27 3,mA 2 27] .ret))))⟩
theorem qHA:qh Tryz.prog {} Tryz.f68=some e68:=by kernel_rfl
abbrev qCJ:=[iA 1 (.box 4 (.t 0)),iA 2 (.alloc 5 (.agg [(.sl 6 true []),(.sl 2 true []),(.sl 6 true []),(.str []),(.str [])])),iA 3 (.mov (cI 0)),iA 4 (.mov (cI 0)),iA 5 (.mov (.c (.str [])))]
abbrev qUU:=qr [iA 29 (.build [(.sl 6 true []),(.sl 2 true []),(.sl 6 true []),(.str []),(.str [])] []),sA 5 2 29,iA 3 (.mov (cI 1)),iA 4 (.mov (cI 0)),iA 5 (.mov (.c (.str [])))] .ret
abbrev qA3:=qr [lG 26 4 1,iA 27 (cl 98 [.t 26]),iA 28 (.un .not (.t 27))] (cd 28 qUU .skip)
abbrev qPW:=[iA 30 (.mksl true 1 1 (.bool false) (cI 3) (cI 3)),iA 31 (.build [(.sl 6 true []),(.sl 2 true []),(.sl 6 true []),(.str []),(.str []),(.sl 1 true []),(.sl 2 true []),(.sl 1 true []),(.int .i64 0),(.int .i64 0),(.str []),(.int .i64 0),(.int .i64 0)] [(5,1,(.t 30))]),iA 32 (.box 13 (.t 31)),mA 6 32]
abbrev qK7:=[mA 33 6,iA 34 (.build [(.str []),(.bool false),(.int .i64 0),(.int .i64 0),(.int .i64 0),(.str [])] [(0,1,(.c (.str [36,101,110,100])))]),iA 35 (.build [(.str []),(.bool false),(.int .i64 0),(.int .i64 0),(.int .i64 0),(.str [])] [(0,1,(.c (.str [101,114,114,111,114]))),(2,1,(cI (-1)))]),iA 36 (.build [(.str []),(.bool false),(.int .i64 0),(.int .i64 0),(.int .i64 0),(.str [])] [(0,1,(.c (.str [36,117,110,107]))),(2,1,(cI (-1)))]),iA 37 (.lit true 6 true (.agg [(.str []),(.bool false),(.int .i64 0),(.int .i64 0),(.int .i64 0),(.str [])]) 3 [(0,(.t 34)),(1,(.t 35)),(2,(.t 36))]),nA 38 33,fA 39 0 38,fA 40 0 39,sA 1 40 37]
abbrev qIy:=[iA 7 (.mov (.c (.str [])))]
abbrev qke:=qr [mA 41 8,fA 42 1 1,lA 43 1 42,zA 44 43,bA 45 .lss 41 44] (cd 45 .skip (.exit 0))
abbrev qji:=[fA 48 1 1,lA 49 1 48,mA 50 8,aA 51 4 49 50,lG 52 4 51,iA 9 (.alloc 4 (.agg [(.int .i64 0),(.str []),(.sl 4 true []),(.int .i64 0)])),sA 4 9 52]
abbrev qDm:=cd 60 (.reg [mA 61 6,nA 62 61,fA 63 11 62,lA 64 1 63,bC 65 .add 64 1,nA 66 61,fA 67 11 66,sA 1 67 65]) .skip
abbrev qiH:=qr [fA 53 0 9,lA 54 1 53,bC 55 .geq 54 2,mA 56 55,gT 57 56 (oF 0 9),gT 58 56 (oL 1 57),gT 59 56 (.bin .leq (.t 58) (cI 4)),pA 60 56 59] qDm
abbrev qFh:=qr [mA 68 10,fA 69 2 9,lA 70 1 69,zA 71 70,bA 72 .lss 68 71] (cd 72 .skip (.exit 2))
abbrev qLX:=qr [mN 78 6,iR 79 (oG 4 9),fN 80 2 9,lR 81 1 80,mN 82 10,aN 83 4 81 82,iR 84 (oG 4 83),⟨(some 85),none,.call (.c (.fn 99 [])) [(.t 78),(.t 79),(.t 84)],.w⟩] (.exit 3)
abbrev qRe:=qr [fA 75 0 9,lA 76 1 75,bC 77 .neq 76 6] (cd 77 qLX .skip)
abbrev qJ0:=cd 87 (.reg [mN 88 6,fN 89 2 9,lR 90 1 89,mN 91 10,aN 92 4 90 91,fN 93 3 92,lR 94 1 93,fN 95 2 9,lR 96 1 95,mN 97 10,aN 98 4 96 97,fN 99 0 98,lR 100 1 99,⟨(some 101),none,.call (.c (.fn 100 [])) [(.t 88),(.t 94),(.t 100)],.w⟩]) .skip
abbrev qJc:=qr [mA 86 7,iA 87 (.bin .neq (.t 86) (.c (.str [])))] qJ0
abbrev qN4:EC:= .seq qJc (.reg [fA 102 2 9,lA 103 1 102,mA 104 10,aA 105 4 103 104,fA 106 0 105,lA 107 1 106,mA 7 107])
abbrev qEY:EC:= .seq (.block 3 (.seq qRe qN4)) (.reg [mA 73 10,bC 74 .add 73 1,mA 10 74])
abbrev K9:=qr [iA 10 (.mov (cI 0))] (.block 2 (.loop (.seq qFh qEY)))
abbrev qkU:=[mA 46 8,bC 47 .add 46 1,mA 8 47]
abbrev qy4:EC:= .seq (.block 1 (qr qji (.seq qiH K9))) (.reg qkU)
abbrev qaC:=qr [iA 8 (.mov (cI 0))] (.block 0 (.loop (.seq qke qy4)))
abbrev qk1:=qr [mA 108 11,fA 109 2 1,lA 110 1 109,zA 111 110,bA 112 .lss 108 111] (cd 112 .skip (.exit 4))
abbrev qjm:=[fA 115 2 1,lA 116 1 115,mA 117 11,aA 118 3 116 117,lG 119 3 118,iA 12 (.alloc 3 (.agg [(.str []),(.sl 6 true []),(.int .i64 0)])),sA 3 12 119]
abbrev qBz:=cd 125 (.reg [mA 126 6,fA 127 2 12,lA 128 1 127,fA 129 0 12,lA 130 1 129,iA 131 (cl 100 [(.t 126),(.t 128),(.t 130)])]) .skip
abbrev qkK:=qr [mA 120 6,fA 121 0 12,lA 122 1 121,iA 123 (.build [(.str []),(.bool false),(.int .i64 0),(.int .i64 0)] [(0,1,(.t 122))]),iA 124 (cl 101 [(.t 120),(.t 123)]),bC 125 .geq 124 0] qBz
abbrev qKN:=cd 136 (.reg [mN 137 6,mN 138 6,nN 139 138,fN 140 7 139,lR 141 1 140,fN 142 0 12,lR 143 1 142,iN 144 (.lit false 1 false (.str []) 1 [(0,(.t 143))]),⟨(some 145),none,.append false 1 16 (.t 141) (.t 144),.t⟩,nN 146 137,fN 147 7 146,sW 1 147 145]) .skip
abbrev KO:=qr [mA 132 6,fA 133 0 12,lA 134 1 133,iA 135 (cl 102 [(.t 132),(.t 134)]),bC 136 .lss 135 0] qKN
abbrev qkz:=[mA 113 11,bC 114 .add 113 1,mA 11 114]
abbrev qAp:EC:= .seq (.block 5 (qr qjm (.seq qkK KO))) (.reg qkz)
abbrev KM:=qr [iA 11 (.mov (cI 0))] (.block 4 (.loop (.seq qk1 qAp)))
abbrev qiA:=qr [mA 148 13,fA 149 1 1,lA 150 1 149,zA 151 150,bA 152 .lss 148 151] (cd 152 .skip (.exit 6))
abbrev qPt:=qr [mA 155 14,fA 156 1 1,lA 157 1 156,mA 158 13,aA 159 4 157 158,fA 160 2 159,lA 161 1 160,zA 162 161,bA 163 .lss 155 162] (cd 163 .skip (.exit 8))
abbrev qBH:=cd 188 (.reg [mA 189 6,fA 190 3 15,lA 191 1 190,fA 192 0 15,lA 193 1 192,iA 194 (cl 100 [(.t 189),(.t 191),(.t 193)])]) .skip
abbrev qHn:=qr [fA 175 1 1,lA 176 1 175,mA 177 13,aA 178 4 176 177,fA 179 0 178,lA 180 1 179,bC 181 .geq 180 5,mA 182 181,gT 183 182 (oM 6),gT 184 182 (oF 0 15),gT 185 182 (oL 1 184),gT 186 182 (cl 102 [(.t 183),(.t 185)]),gT 187 182 (.bin .lss (.t 186) (cI 0)),pA 188 182 187] qBH
abbrev qLg:=qr [fA 166 1 1,lA 167 1 166,mA 168 13,aA 169 4 167 168,fA 170 2 169,lA 171 1 170,mA 172 14,aA 173 4 171 172,lG 174 4 173,iA 15 (.alloc 4 (.agg [(.str []),(.bool false),(.int .i64 0),(.int .i64 0)])),sA 4 15 174] qHn
abbrev qEK:EC:= .seq (.block 9 qLg) (.reg [mA 164 14,bC 165 .add 164 1,mA 14 165])
abbrev qav:=qr [iA 14 (.mov (cI 0))] (.block 8 (.loop (.seq qPt qEK)))
abbrev qjj:=[mA 153 13,bC 154 .add 153 1,mA 13 154]
abbrev qKi:EC:= .seq qiA (.seq (.block 7 qav) (.reg qjj))
abbrev qaq:=qr [iA 13 (.mov (cI 0))] (.block 6 (.loop qKi))
abbrev qlL:=cd 196 (.reg [fA 197 2 1,lA 198 1 197,iA 199 (.iaddr 3 (.t 198) (cI 0)),fA 200 0 199,lA 201 1 200,mA 7 201]) .skip
abbrev Xe:=qr [mA 195 7,iA 196 (.bin .eql (.t 195) (.c (.str [])))] qlL
abbrev JS:=[mA 202 6,mA 203 6,mA 204 7,iA 205 (cl 102 [(.t 203),(.t 204)]),iA 206 (.bin .add (cI 1001) (.t 205)),iA 207 (.lit false 1 false (.int .i64 0) 1 [(0,(.t 206))]),iA 208 (.build [(.int .i64 0),(.sl 1 true []),(.int .i64 0),(.str []),(.sl 1 true []),(.int .i64 0)] [(0,1,(cI 0)),(1,1,(.t 207)),(2,1,(cI (-1)))]),iA 209 (.lit false 6 true (.agg [(.int .i64 0),(.sl 1 true []),(.int .i64 0),(.str []),(.sl 1 true []),(.int .i64 0)]) 1 [(0,(.t 208))]),nA 210 202,fA 211 0 210,fA 212 2 211,sA 1 212 209]
abbrev qg1:=qr [mA 213 16,fA 214 2 1,lA 215 1 214,zA 216 215,bA 217 .lss 213 216] (cd 217 .skip (.exit 10))
abbrev qoR:=qr [mA 220 17,fA 221 2 1,lA 222 1 221,mA 223 16,aA 224 3 222 223,fA 225 1 224,lA 226 1 225,zA 227 226,bA 228 .lss 220 227] (cd 228 .skip (.exit 12))
abbrev qpz:EC:= .block 13 (.reg [mN 231 6,fN 232 2 1,lR 233 1 232,mN 234 16,aN 235 3 233 234,fN 236 0 235,lR 237 1 236,fN 238 2 1,lR 239 1 238,mN 240 16,aN 241 3 239 240,fN 242 1 241,lR 243 1 242,mN 244 17,aN 245 6 243 244,iR 246 (oG 6 245),⟨(some 247),none,.call (.c (.fn 103 [])) [(.t 231),(.t 237),(.t 246)],.w⟩])
abbrev qmu:EC:= .seq qpz (.reg [mA 229 17,bC 230 .add 229 1,mA 17 230])
abbrev XP:=qr [iA 17 (.mov (cI 0))] (.block 12 (.loop (.seq qoR qmu)))
abbrev qeg:=[mA 218 16,bC 219 .add 218 1,mA 16 219]
abbrev qrv:EC:= .seq qg1 (.seq (.block 11 XP) (.reg qeg))
abbrev Xm:=qr [iA 16 (.mov (cI 0))] (.block 10 (.loop qrv))
abbrev qxK:=qr [iN 253 (.build [(.sl 6 true []),(.sl 2 true []),(.sl 6 true []),(.str []),(.str [])] []),mN 254 6,nN 255 254,fN 256 8 255,⟨(some 257),none,.load false 1 (.t 256),(.l 26)⟩,mN 258 6,nN 259 258,fN 260 9 259,⟨(some 261),none,.load false 1 (.t 260),(.l 26)⟩,mN 262 6,nN 263 262,fN 264 10 263,⟨(some 265),none,.load false 1 (.t 264),(.l 26)⟩,⟨none,none,.store 5 (.t 2) (.t 253),(.s 10)⟩,mN 3 257,mN 4 261,mN 5 265] .ret
abbrev Zr:=qr [mA 248 6,nA 249 248,fA 250 8 249,lA 251 1 250,bC 252 .neq 251 0] (cd 252 qxK .skip)
abbrev Zy:=[mA 266 6,iA 267 (.build [(.str []),(.str [])] [(0,1,(.c (.str [36,97,99,99,101,112,116])))]),iA 268 (.lit false 2 true (.agg [(.str []),(.str [])]) 1 [(0,(.t 267))]),nA 269 266,fA 270 0 269,fA 271 1 270,sA 1 271 268]
abbrev qnk:=qr [mA 272 18,mA 273 6,nA 274 273,fA 275 7 274,lA 276 1 275,zA 277 276,bA 278 .lss 272 277] (cd 278 .skip (.exit 14))
abbrev qtM:=cd 294 (.reg [mA 295 6,nA 296 295,fA 297 6 296,lA 298 1 297,mA 299 20,aA 300 2 298 299,fA 301 1 300,lA 302 1 301,fA 303 1 19,sA 1 303 302]) .skip
abbrev qvG:=qr [mA 293 20,bC 294 .geq 293 0] qtM
abbrev qlK:=qr [mA 289 6,fA 290 0 19,lA 291 1 290,iA 292 (cl 104 [(.t 289),(.t 291)]),mA 20 292] qvG
abbrev qwG:EC:= .seq qlK (.reg [mN 304 6,mN 305 6,nN 306 305,fN 307 0 306,fN 308 1 307,lR 309 1 308,iR 310 (oG 2 19),iN 311 (.lit false 2 true (.agg [(.str []),(.str [])]) 1 [(0,(.t 310))]),⟨(some 312),none,.append false 2 32 (.t 309) (.t 311),.t⟩,nN 313 304,fN 314 0 313,fN 315 1 314,sW 1 315 312])
abbrev qmM:=qr [mA 281 6,nA 282 281,fA 283 7 282,lA 284 1 283,mA 285 18,aA 286 1 284 285,lA 287 1 286,iA 288 (.build [(.str []),(.str [])] [(0,1,(.t 287))]),iA 19 (.alloc 2 (.agg [(.str []),(.str [])])),sA 2 19 288] qwG
abbrev qvp:EC:= .seq (.block 15 qmM) (.reg [mA 279 18,bC 280 .add 279 1,mA 18 280])
abbrev yN:=qr [iA 18 (.mov (cI 0))] (.block 14 (.loop (.seq qnk qvp)))
abbrev qmC:=qr [mA 316 21,mA 317 6,nA 318 317,fA 319 12 318,lA 320 1 319,bA 321 .leq 316 320] (cd 321 .skip (.exit 16))
abbrev qnG:EC:= .block 17 (.reg [mN 324 6,mN 325 6,nN 326 325,fN 327 0 326,fN 328 1 327,lR 329 1 328,mN 330 21,iR 331 (cl 105 [.t 330]),iN 332 (.bin .add (.c (.str [64])) (.t 331)),iN 333 (.build [(.str []),(.str [])] [(0,1,(.t 332))]),iN 334 (.lit false 2 true (.agg [(.str []),(.str [])]) 1 [(0,(.t 333))]),⟨(some 335),none,.append false 2 32 (.t 329) (.t 334),.t⟩,nN 336 324,fN 337 0 336,fN 338 1 337,sW 1 338 335])
abbrev quY:EC:= .seq qnG (.reg [mA 322 21,bC 323 .add 322 1,mA 21 323])
abbrev yI:=qr [iA 21 (.mov (cI 1))] (.block 16 (.loop (.seq qmC quY)))
abbrev kz:=[iA 22 (.mov (cI 57346))]
abbrev qwE:=qr [mA 339 23,mA 340 6,nA 341 340,fA 342 0 341,fA 343 0 342,lA 344 1 343,zA 345 344,bA 346 .lss 339 345] (cd 346 .skip (.exit 18))
abbrev qqw:=qr [mA 357 6,nA 358 357,fA 359 0 358,fA 360 0 359,lA 361 1 360,mA 362 23,mA 363 22,aA 364 6 361 362,fA 365 2 364,sA 1 365 363] (.reg [mA 366 22,bC 367 .add 366 1,mA 22 367])
abbrev qoJ:=qr [mA 349 6,nA 350 349,fA 351 5 350,lA 352 1 351,mA 353 23,aA 354 1 352 353,lA 355 1 354,iA 356 (.un .not (.t 355))] (cd 356 qqw .skip)
abbrev qmm:EC:= .seq (.block 19 qoJ) (.reg [mA 347 23,bC 348 .add 347 1,mA 23 348])
abbrev jX:=qr [iA 23 (.mov (cI 3))] (.block 18 (.loop (.seq qwE qmm)))
abbrev xq:=[mA 368 6,nA 369 368,fA 370 0 369,fA 371 0 370,lA 372 1 371,zA 373 372,bC 374 .gtr 373 40,mA 375 374,gF 376 375 (oM 6),gF 377 375 (.nilck (.t 376)),gF 378 375 (oF 0 377),gF 379 375 (oF 1 378),gF 380 375 (oL 1 379),gF 381 375 (.len (.t 380)),gF 382 375 (.bin .gtr (.t 381) (cI 24)),pO 383 375 382,mA 384 383,gF 385 384 (oM 6),gF 386 384 (.nilck (.t 385)),gF 387 384 (oF 0 386),gF 388 384 (oF 2 387),gF 389 384 (oL 1 388),gF 390 384 (.len (.t 389)),gF 391 384 (.bin .gtr (.t 390) (cI 60)),pO 392 384 391,mA 24 392]
abbrev qtr:=qr [mA 393 25,mA 394 6,nA 395 394,fA 396 0 395,fA 397 2 396,lA 398 1 397,zA 399 398,bA 400 .lss 393 399] (cd 400 .skip (.exit 20))
abbrev qrP:EC:= .block 21 (.reg [mA 403 24,mA 404 403,gF 405 404 (oM 6),gF 406 404 (.nilck (.t 405)),gF 407 404 (oF 0 406),gF 408 404 (oF 2 407),gF 409 404 (oL 1 408),gF 410 404 (oM 25),gF 411 404 (.iaddr 6 (.t 409) (.t 410)),gF 412 404 (oF 1 411),gF 413 404 (oL 1 412),gF 414 404 (.len (.t 413)),gF 415 404 (.bin .gtr (.t 414) (cI 8)),pO 416 404 415,mA 24 416])
abbrev qqV:EC:= .seq qrP (.reg [mA 401 25,bC 402 .add 401 1,mA 25 402])
abbrev jy:=qr [iA 25 (.mov (cI 0))] (.block 20 (.loop (.seq qtr qqV)))
abbrev qmr:=qr [iA 418 (.build [(.sl 6 true []),(.sl 2 true []),(.sl 6 true []),(.str []),(.str [])] []),sA 5 2 418,iA 3 (.mov (cI 4)),iA 4 (.mov (cI 0)),iA 5 (.mov (.c (.str [])))] .ret
abbrev xM:=qr [mA 417 24] (cd 417 qmr .skip)
abbrev xN:=[mN 419 6,mN 420 6,fN 421 0 1,⟨(some 422),none,.load false 1 (.t 421),(.l 9)⟩,fN 423 3 1,⟨(some 424),none,.load false 1 (.t 423),(.l 9)⟩,nN 425 419,fN 426 0 425,fN 427 3 426,⟨none,none,.store 1 (.t 427) (.t 422),(.s 26)⟩,nN 428 420,fN 429 0 428,fN 430 4 429,⟨none,none,.store 1 (.t 430) (.t 424),(.s 26)⟩]
abbrev xR:=[mA 431 6,nA 432 431,fA 433 0 432,lG 434 5 433,sA 5 2 434,iA 3 (.mov (cI 0)),iA 4 (.mov (cI 0)),iA 5 (.mov (.c (.str [])))]
abbrev qui:EC:= .seq jy (.seq xM (qr xN (qr xR .ret)))
abbrev ql8:EC:= .seq yI (qr kz (.seq jX (qr xq qui)))
abbrev qt1:EC:= .seq Xm (.seq Zr (qr Zy (.seq yN ql8)))
abbrev qti:EC:= .seq KM (.seq qaq (.seq Xe (qr JS qt1)))
abbrev ql7:=qr qPW (qr qK7 (qr qIy (.seq qaC qti)))
abbrev qfX:=qr qCJ (.seq qA3 ql7)
abbrev e70:EF:=⟨435,1,[(.inr (2,true,5)),(.inl 3),(.inl 4),(.inl 5)],qfX⟩
theorem qiV:qh Tryz.prog {mu:=fun t=>[30,37].contains t,cl:=fun r i=>([(48,4,Cls.l 26),(48,8,Cls.l 26),(48,12,Cls.l 26),(48,13,Cls.s 10),(76,3,Cls.l 9),(76,5,Cls.l 9),(76,9,Cls.s 26),(76,13,Cls.s 26),(16,7,Cls.w),(18,13,Cls.w),(24,4,Cls.b),(25,5,Cls.w),(26,3,Cls.b),(35,11,Cls.b),(36,5,Cls.w),(39,3,Cls.b),(46,16,Cls.w),(54,3,Cls.b)].find? fun x=>x.1 == r && x.2.1 == i).map (·.2.2)} Tryz.f70=some e70:=by kernel_rfl
abbrev e72:EF:=⟨78,2,[(.inl 4)],(qr [iA 2 (.box 5 (.t 0)),iA 4 (.mov (.c (.sl 2 true [])))] (qr [iA 5 (.mov (.c (.sl 2 true [])))] (.seq (qr [mA 12 1,zA 13 12,iA 14 (.mov (cI 0))] (.block 0 (.loop (qr [bA 15 .lss 14 13] (.seq (cd 15 .skip (.exit 0)) (.seq (.block 1 (qr [aA 16 2 12 14,lG 17 2 16,iA 7 (.alloc 2 (.agg [(.int .i64 0),(.int .i64 0)])),sA 2 7 17] (qr [lG 18 5 2,lG 19 2 7,iA 20 (cl 106 [(.t 18),(.t 19)])] (cd 20 (.reg [mA 21 5,lG 22 2 7,iA 23 (.lit false 2 true (.agg [(.int .i64 0),(.int .i64 0)]) 1 [(0,(.t 22))]),iA 24 (.append true 2 16 (.t 21) (.t 23)),mA 5 24]) .skip)))) (.reg [bC 25 .add 14 1,mA 14 25]))))))) (qr [fA 26 1 2,lA 27 1 26,zA 28 27,iA 29 (.mksl true 1 1 (.bool false) (.t 28) (.t 28)),mA 8 29] (.seq (qr [iA 9 (.mov (cI 0))] (.block 2 (.loop (.seq (qr [mA 30 9,mA 31 5,zA 32 31,bA 33 .lss 30 32] (cd 33 .skip (.exit 2))) (.seq (.block 3 (qr [iR 36 (oG 5 2),mN 37 5,mN 38 9,aN 39 2 37 38,iR 40 (oG 2 39),iR 41 (cl 107 [(.t 36),(.t 40)]),iN 42 (.bin .sub (.t 41) (cI 1000)),mN 10 42] (.seq (qr [mA 43 10,bC 44 .lss 43 0,mA 45 44,gF 46 45 (oM 8),gF 47 45 (oM 10),gF 48 45 (.iaddr 1 (.t 46) (.t 47)),gF 49 45 (oL 1 48),pO 50 45 49] (cd 50 (.exit 3) .skip)) (qr [mA 51 8,mA 52 10,aA 53 1 51 52,⟨none,none,.store 1 (.t 53) (cB true),.any⟩] (qr [fA 54 2 2,lA 55 1 54,zA 56 55,iA 57 (.mov (cI 0))] (.block 4 (.loop (qr [bA 58 .lss 57 56] (.seq (cd 58 .skip (.exit 4)) (.seq (.block 5 (qr [mA 59 57,mA 11 59] (qr [fA 60 2 2,lA 61 1 60,mA 62 11,aA 63 6 61 62,fA 64 0 63,lA 65 1 64,mA 66 10,bA 67 .eql 65 66] (cd 67 (.reg [mA 68 5,mA 69 11,iA 70 (.build [(.int .i64 0),(.int .i64 0)] [(0,1,(.t 69))]),iA 71 (.lit false 2 true (.agg [(.int .i64 0),(.int .i64 0)]) 1 [(0,(.t 70))]),iA 72 (.append true 2 16 (.t 68) (.t 71)),mA 5 72]) .skip)))) (.reg [bC 73 .add 57 1,mA 57 73]))))))))))) (.reg [mA 34 9,bC 35 .add 34 1,mA 9 35])))))) (qr [mA 74 5,iA 75 (cl 108 [(.t 74),(.c (.fn 109 []))])] (qr [mA 76 5,iA 77 (cl 110 [.t 76]),mA 4 77] .ret)))))))⟩
theorem qPJ:qh Tryz.prog {mu:=fun t=>[24,29,72].contains t} Tryz.f72=some e72:=by kernel_rfl

abbrev e75:EF:=⟨48,1,[(.inl 2)],(qr [iA 2 (.mov (.c .nilp))] (qr [mN 6 0,mN 7 0,iN 8 (.len (.t 7)),⟨(some 9),none,.mksl true 1 8 (.int .i64 0) (.t 8) (.t 8),.a⟩,mN 10 0,iN 11 (.len (.t 10)),⟨(some 12),none,.mksl true 1 8 (.int .i64 0) (.t 11) (.t 11),.a⟩,mN 13 0,iN 14 (.len (.t 13)),⟨(some 15),none,.mksl true 1 8 (.int .i64 0) (.t 14) (.t 14),.a⟩,iN 16 (.build [(.sl 1 true []),(.sl 1 true []),(.sl 1 true []),(.sl 1 true []),(.sl 1 true []),(.sl 1 true []),(.int .i64 0)] [(0,1,(.t 6)),(1,1,(.t 9)),(2,1,(.t 12)),(4,1,(.t 15))]),⟨(some 17),none,.box 7 (.t 16),.a⟩,mN 3 17] (.seq (qr [mA 18 0,zA 19 18,iA 20 (.mov (cI 0))] (.block 0 (.loop (qr [bA 21 .lss 20 19] (.seq (cd 21 .skip (.exit 0)) (.seq (.block 1 (qr [mA 22 20,mA 4 22] (.reg [mA 23 3,nA 24 23,fA 25 4 24,lA 26 1 25,mA 27 4,aA 28 1 26 27,⟨none,none,.store 1 (.t 28) (cI (-1)),.any⟩]))) (.reg [bC 29 .add 20 1,mA 20 29]))))))) (.seq (qr [mA 30 0,zA 31 30,iA 32 (.mov (cI 0))] (.block 2 (.loop (qr [bA 33 .lss 32 31] (.seq (cd 33 .skip (.exit 2)) (.seq (.block 3 (qr [mA 34 32,mA 5 34] (qr [mA 35 3,nA 36 35,fA 37 1 36,lA 38 1 37,mA 39 5,aA 40 1 38 39,lA 41 1 40,bC 42 .eql 41 0] (cd 42 (.reg [mA 43 3,mA 44 5,iA 45 (cl 115 [(.t 43),(.t 44)])]) .skip)))) (.reg [bC 46 .add 32 1,mA 32 46]))))))) (qr [mA 47 3,mA 2 47] .ret)))))⟩
theorem qA9:qh Tryz.prog {mu:=fun t=>[9,12,15].contains t,cl:=fun r i=>([(11,2,Cls.w)].find? fun x=>x.1 == r && x.2.1 == i).map (·.2.2)} Tryz.f75=some e75:=by kernel_rfl
abbrev qVo:=qr [iA 0 (.mov (.c (.str [112,113,114,115])))] .ret
abbrev qC7:=qr [iA 0 (.mov (.c (.str [])))] qVo
abbrev e82:EF:=⟨1,0,[(.inl 0)],qC7⟩
theorem qNa:qh Tryz.prog {} Tryz.f82=some e82:=by kernel_rfl
abbrev qUC:=qr [mA 6 4,fA 7 0 1,lA 8 1 7,zA 9 8,bA 10 .lss 6 9] (cd 10 .skip (.exit 0))
abbrev qUG:EC:= .block 1 (.reg [mA 13 3,mA 14 4,iA 15 (.lit false 1 false (.int .i64 0) 1 [(0,(.t 14))]),iA 16 (.append false 1 8 (.t 13) (.t 15)),mA 3 16])
abbrev qWT:EC:= .seq qUG (.reg [mA 11 4,bC 12 .add 11 1,mA 4 12])
abbrev qNP:=qr [iA 4 (.mov (cI 0))] (.block 0 (.loop (.seq qUC qWT)))
abbrev qOe:=qr [mA 17 5,fA 18 1 1,lA 19 1 18,zA 20 19,bA 21 .lss 17 20] (cd 21 .skip (.exit 2))
abbrev qIt:EC:= .block 3 (.reg [mA 24 3,mA 25 5,iA 26 (.bin .add (cI 1000) (.t 25)),iA 27 (.lit false 1 false (.int .i64 0) 1 [(0,(.t 26))]),iA 28 (.append false 1 8 (.t 24) (.t 27)),mA 3 28])
abbrev qK3:EC:= .seq qIt (.reg [mA 22 5,bC 23 .add 22 1,mA 5 23])
abbrev qIq:=qr [iA 5 (.mov (cI 0))] (.block 2 (.loop (.seq qOe qK3)))
abbrev qyj:EC:= .seq qIq (qr [mA 29 3,mA 2 29] .ret)
abbrev qQf:=qr [iA 3 (.mov (.c (.sl 1 true [])))] (.seq qNP qyj)
abbrev qiB:=qr [iA 1 (.box 5 (.t 0)),iA 2 (.mov (.c (.sl 1 true [])))] qQf
abbrev e83:EF:=⟨30,1,[(.inl 2)],qiB⟩
theorem qko:qh Tryz.prog {} Tryz.f83=some e83:=by kernel_rfl
abbrev qVD:=qr [mA 13 6,mA 14 5,zA 15 14,bA 16 .neq 13 15] (cd 16 .skip (.exit 0))
abbrev qQB:=qr [mA 19 7,mA 20 6,bA 21 .lss 19 20] (cd 21 .skip (.exit 2))
abbrev qJZ:=qr [mA 30 9,fA 31 2 2,lA 32 1 31,zA 33 32,bA 34 .lss 30 33,mA 35 34,gT 36 35 (oM 8),gT 37 35 (.bin .geq (.t 36) (cI 1000)),pA 38 35 37] (cd 38 .skip (.exit 4))
abbrev qz2:=cd 49 (.reg [mA 50 5,mA 51 9,iA 52 (.build [(.int .i64 0),(.int .i64 0)] [(0,1,(.t 51))]),iA 53 (cl 117 [(.t 50),(.t 52)]),mA 5 53]) .skip
abbrev qNy:=qr [fA 41 2 2,lA 42 1 41,mA 43 9,aA 44 6 42 43,fA 45 0 44,lA 46 1 45,mA 47 8,bC 48 .sub 47 1000,bA 49 .eql 46 48] qz2
abbrev qFn:EC:= .seq (.block 5 qNy) (.reg [mA 39 9,bC 40 .add 39 1,mA 9 40])
abbrev qHY:=qr [iA 9 (.mov (cI 0))] (.block 4 (.loop (.seq qJZ qFn)))
abbrev qPl:=qr [mA 54 5,zA 55 54,mA 56 6,bA 57 .neq 55 56] (cd 57 (.exit 2) .skip)
abbrev qKv:=qr [iR 24 (oG 5 2),mN 25 5,mN 26 7,aN 27 2 25 26,iR 28 (oG 2 27),iR 29 (cl 85 [(.t 24),(.t 28)]),mN 8 29] (.seq qHY qPl)
abbrev qB8:EC:= .seq (.block 3 qKv) (.reg [mA 22 7,bC 23 .add 22 1,mA 7 23])
abbrev qED:=qr [iA 7 (.mov (cI 0))] (.block 2 (.loop (.seq qQB qB8)))
abbrev qAe:EC:= .block 1 (qr [mA 17 5,zA 18 17,mA 6 18] qED)
abbrev qzI:=qr [iA 6 (.mov (cI (-1)))] (.block 0 (.loop (.seq qVD qAe)))
abbrev qCH:EC:= .seq qzI (qr [mA 58 5,mA 4 58] .ret)
abbrev qSY:=qr [lG 10 5 2,mA 11 1,iA 12 (cl 116 [(.t 10),(.t 11)]),mA 5 12] qCH
abbrev qks:=qr [iA 2 (.box 5 (.t 0)),iA 4 (.mov (.c (.sl 2 true [])))] qSY
abbrev e84:EF:=⟨59,2,[(.inl 4)],qks⟩
theorem qli:qh Tryz.prog {} Tryz.f84=some e84:=by kernel_rfl
abbrev qTI:=cd 21 (qr [iA 4 (.mov (cI (-1)))] .ret) .skip
abbrev qV1:=qr [iR 5 (oG 5 2),iR 6 (oG 2 3),iR 7 (cl 118 [(.t 5),(.t 6)]),iN 8 (.un .not (.t 7)),mN 9 8,⟨(some 10),(some (9,false)),.faddr 1 (.t 3),.n⟩,⟨(some 11),(some (9,false)),.load false 1 (.t 10),.r⟩,⟨(some 12),(some (9,false)),.faddr 2 (.t 2),.n⟩,⟨(some 13),(some (9,false)),.load false 1 (.t 12),.r⟩,⟨(some 14),(some (9,false)),.faddr 0 (.t 3),.n⟩,⟨(some 15),(some (9,false)),.load false 1 (.t 14),.r⟩,⟨(some 16),(some (9,false)),.iaddr 6 (.t 13) (.t 15),.n⟩,⟨(some 17),(some (9,false)),.faddr 1 (.t 16),.n⟩,⟨(some 18),(some (9,false)),.load false 1 (.t 17),.r⟩,⟨(some 19),(some (9,false)),.len (.t 18),.n⟩,⟨(some 20),(some (9,false)),.bin .eql (.t 11) (.t 19),.n⟩,iN 21 (.pick (.t 9) (cB true) (.t 20))] qTI
abbrev qW9:=qr [fN 22 2 2,lR 23 1 22,fN 24 0 3,lR 25 1 24,aN 26 6 23 25,fN 27 1 26,lR 28 1 27,fN 29 1 3,lR 30 1 29,aN 31 1 28 30,lR 32 1 31,mN 4 32] .ret
abbrev qET:=qr [iA 2 (.box 5 (.t 0)),iA 3 (.box 2 (.t 1)),iA 4 (.mov (cI 0))] (.seq qV1 qW9)
abbrev e85:EF:=⟨33,2,[(.inl 4)],qET⟩
theorem qi4:qh Tryz.prog {} Tryz.f85=some e85:=by kernel_rfl
abbrev qUm:=qr [mA 14 9,mA 15 8,zA 16 15,bA 17 .lss 14 16] (cd 17 .skip (.exit 0))
abbrev qSb:=cd 32 (.reg [mN 33 7,mN 34 8,mN 35 9,aN 36 2 34 35,fN 37 0 36,lR 38 1 37,mN 39 8,mN 40 9,aN 41 2 39 40,fN 42 1 41,lR 43 1 42,iN 44 (.bin .add (.t 43) (cI 1)),iN 45 (.build [(.int .i64 0),(.int .i64 0)] [(0,1,(.t 38)),(1,1,(.t 44))]),iR 46 (cl 117 [(.t 33),(.t 45)]),mN 7 46]) .skip
abbrev qQr:=qr [mA 26 10,bC 27 .geq 26 0,mA 28 27,gT 29 28 (oM 10),gT 30 28 (oM 2),gT 31 28 (.bin .eql (.t 29) (.t 30)),pA 32 28 31] qSb
abbrev qHk:=qr [iR 20 (oG 5 3),mN 21 8,mN 22 9,aN 23 2 21 22,iR 24 (oG 2 23),iR 25 (cl 85 [(.t 20),(.t 24)]),mN 10 25] qQr
abbrev qG1:EC:= .seq (.block 1 qHk) (.reg [mA 18 9,bC 19 .add 18 1,mA 9 19])
abbrev qPU:=qr [iA 9 (.mov (cI 0))] (.block 0 (.loop (.seq qUm qG1)))
abbrev qQ7:EC:= .seq qPU (qr [mA 47 7,mA 6 47] .ret)
abbrev qOC:=qr [lG 11 5 3,mA 12 1,iA 13 (cl 84 [(.t 11),(.t 12)]),mA 8 13] qQ7
abbrev qJQ:=qr [iA 7 (.mov (.c (.sl 2 true [])))] qOC
abbrev qk2:=qr [iA 3 (.box 5 (.t 0)),iA 6 (.mov (.c (.sl 2 true [])))] qJQ
abbrev e86:EF:=⟨48,3,[(.inl 6)],qk2⟩
theorem qj1:qh Tryz.prog {} Tryz.f86=some e86:=by kernel_rfl
abbrev qV4:=qr [mA 6 5,mA 7 0,zA 8 7,bA 9 .lss 6 8] (cd 9 .skip (.exit 0))
abbrev qTW:=cd 18 (qr [mA 19 5,mA 4 19] .ret) .skip
abbrev qXD:=qr [mA 12 0,mA 13 5,aA 14 2 12 13,fA 15 0 14,lA 16 1 15,mA 17 1,iA 18 (cl 119 [(.t 16),(.t 17)])] qTW
abbrev qAi:EC:= .seq (.block 1 qXD) (.reg [mA 10 5,bC 11 .add 10 1,mA 5 11])
abbrev qQJ:=qr [iA 5 (.mov (cI 0))] (.block 0 (.loop (.seq qV4 qAi)))
abbrev qBZ:EC:= .seq qQJ (qr [iA 4 (.mov (cI (-1)))] .ret)
abbrev qiL:=qr [iA 4 (.mov (cI 0))] qBZ
abbrev e87:EF:=⟨20,2,[(.inl 4)],qiL⟩
theorem qiY:qh Tryz.prog {} Tryz.f87=some e87:=by kernel_rfl
abbrev qUY:=qr [lG 3 5 1,iA 4 (cl 120 [(.t 3),(cB false)]),mA 2 4] .ret
abbrev qC3:=qr [iA 1 (.box 5 (.t 0)),iA 2 (.mov (.c (.sl 1 true [])))] qUY
abbrev e88:EF:=⟨5,1,[(.inl 2)],qC3⟩
theorem qju:qh Tryz.prog {} Tryz.f88=some e88:=by kernel_rfl
abbrev e89:EF:=⟨11,1,[],(qr [mA 3 0,zA 4 3,mA 2 4] (.reg [mA 5 0,mA 6 2,mA 7 2,iA 8 (.conv .u64 (.t 7)),iA 9 (cl 122 [.t 8]),iA 10 (cl 121 [(.t 5),(cI 0),(.t 6),(.t 9)])]))⟩
theorem qFF:qh Tryz.prog {} Tryz.f89=some e89:=by kernel_rfl
abbrev e90:EF:=⟨61,1,[(.inl 2)],(qr [iA 2 (.mov (.c (.sl 1 true [])))] (.seq (qr [mA 6 0,zA 7 6,bC 8 .lss 7 2] (cd 8 (qr [mA 9 0,mA 2 9] .ret) .skip)) (.seq (qr [iA 3 (.mov (cI 1))] (.block 0 (.loop (.seq (qr [mA 10 3,mA 11 0,zA 12 11,bA 13 .lss 10 12] (cd 13 .skip (.exit 0))) (.seq (.block 1 (qr [mN 16 0,mN 17 3,aN 18 1 16 17,lR 19 1 18,mN 20 0,mN 21 3,iN 22 (.bin .sub (.t 21) (cI 1)),aN 23 1 20 22,lR 24 1 23,iN 25 (.bin .eql (.t 19) (.t 24))] (cd 25 (qr [mA 26 0,mA 27 3,iA 28 (.slc 1 (.t 26) (some (.t 27)) none none),mA 4 28] (.seq (qr [iA 5 (.mov (cI 1))] (.block 2 (.loop (.seq (qr [mA 29 5,mA 30 4,zA 31 30,bA 32 .lss 29 31] (cd 32 .skip (.exit 2))) (.seq (.block 3 (qr [mN 35 4,mN 36 5,aN 37 1 35 36,lR 38 1 37,mN 39 4,mN 40 5,iN 41 (.bin .sub (.t 40) (cI 1)),aN 42 1 39 41,lR 43 1 42,iN 44 (.bin .neq (.t 38) (.t 43))] (cd 44 (qr [mA 45 0,mA 46 3,mA 47 4,mA 48 5,aA 49 1 47 48,lA 50 1 49,aA 51 1 45 46,sA 1 51 50] (.reg [mA 52 3,bC 53 .add 52 1,mA 3 53])) .skip))) (.reg [mA 33 5,bC 34 .add 33 1,mA 5 34])))))) (qr [mA 54 0,mA 55 3,iA 56 (.slc 1 (.t 54) (some (.t 55)) none none),⟨none,none,.clear 0 .undef (.t 56),.any⟩] (qr [mA 57 0,mA 58 3,iA 59 (.slc 1 (.t 57) none (some (.t 58)) none),mA 2 59] .ret)))) .skip))) (.reg [mA 14 3,bC 15 .add 14 1,mA 3 15])))))) (qr [mA 60 0,mA 2 60] .ret))))⟩
theorem qF5:qh Tryz.prog {} Tryz.f90=some e90:=by kernel_rfl
abbrev qXe:=qr [mN 5 0,nN 6 5,fN 7 5 6,lR 8 1 7,fN 9 0 3,lR 10 1 9,fN 11 1 3,lR 12 1 11,iR 13 (cl 94 [(.t 8),(.t 10),(.t 12)]),mN 4 13] .ret
abbrev qPn:=qr [iA 3 (.box 2 (.t 1)),iA 4 (.mov (cI 0))] qXe
abbrev e91:EF:=⟨14,2,[(.inl 4)],qPn⟩
theorem qjB:qh Tryz.prog {} Tryz.f91=some e91:=by kernel_rfl
abbrev qTX:=qr [mA 5 0,lG 6 2 3,iA 7 (cl 123 [(.t 5),(.t 6)]),bC 8 .geq 7 0,mA 4 8] .ret
abbrev qyU:=qr [iA 3 (.box 2 (.t 1)),iA 4 (.mov (cB false))] qTX
abbrev e92:EF:=⟨9,2,[(.inl 4)],qyU⟩
theorem qkg:qh Tryz.prog {} Tryz.f92=some e92:=by kernel_rfl
abbrev qXN:=qr [mA 5 1,iA 6 (.mkfn 125 [.t 2]),iA 7 (cl 124 [(.t 5),(.t 6)]),iA 8 (.un .not (.t 7)),mA 4 8] .ret
abbrev qN2:=qr [iA 2 (.box 1 (.t 0)),iA 4 (.mov (cB false))] qXN
abbrev e93:EF:=⟨9,2,[(.inl 4)],qN2⟩
theorem qjb:qh Tryz.prog {} Tryz.f93=some e93:=by kernel_rfl
abbrev qUs:=qr [fA 23 1 8,lA 24 1 23,mA 6 24] .ret
abbrev qVN:=qr [fA 19 0 8,lA 20 1 19,mA 21 2,bA 22 .eql 20 21] (cd 22 qUs .skip)
abbrev qCW:=qr [aA 17 2 13 15,lG 18 2 17,iA 8 (.alloc 2 (.agg [(.int .i64 0),(.int .i64 0)])),sA 2 8 18] qVN
abbrev qHu:EC:= .seq (.block 1 qCW) (.reg [bC 25 .add 15 1,mA 15 25])
abbrev qQj:=qr [bA 16 .lss 15 14] (.seq (cd 16 .skip (.exit 0)) qHu)
abbrev qEq:=qr [mA 9 0,mA 10 1,aA 11 2 9 10,fA 12 1 11,lA 13 1 12,zA 14 13,iA 15 (.mov (cI 0))] (.block 0 (.loop qQj))
abbrev qSI:EC:= .seq qEq (qr [iA 6 (.mov (cI (-1)))] .ret)
abbrev qiQ:=qr [iA 6 (.mov (cI 0))] qSI
abbrev e94:EF:=⟨26,3,[(.inl 6)],qiQ⟩
theorem qiS:qh Tryz.prog {} Tryz.f94=some e94:=by kernel_rfl
abbrev e95:EF:=⟨23,3,[(.inl 6)],(qr [iA 6 (.mov (cI 0))] (.seq (qr [mA 9 2,zA 10 9,iA 11 (.mov (cI 0))] (.block 0 (.loop (qr [bA 12 .lss 11 10] (.seq (cd 12 .skip (.exit 0)) (.seq (.block 1 (qr [aA 13 1 9 11,lA 14 1 13,mA 8 14] (qr [mA 15 0,mA 16 1,mA 17 8,iA 18 (cl 94 [(.t 15),(.t 16),(.t 17)]),mA 1 18] (qr [mA 19 1,bC 20 .lss 19 0] (cd 20 (qr [iA 6 (.mov (cI (-1)))] .ret) .skip))))) (.reg [bC 21 .add 11 1,mA 11 21]))))))) (qr [mA 22 1,mA 6 22] .ret)))⟩
theorem qIS:qh Tryz.prog {} Tryz.f95=some e95:=by kernel_rfl
abbrev e96:EF:=⟨9,1,[(.inl 2)],(qr [iA 2 (.mov (cB false))] (qr [mA 3 0,bC 4 .geq 3 0,mA 5 4,gT 6 5 (oM 0),gT 7 5 (.bin .lss (.t 6) (cI 1024)),pA 8 5 7,mA 2 8] .ret))⟩
theorem qMo:qh Tryz.prog {} Tryz.f96=some e96:=by kernel_rfl
abbrev e97:EF:=⟨14,1,[(.inl 2)],(qr [iA 2 (.mov (cI 0))] (.seq (qr [mA 3 0,iA 4 (.bin .eql (.t 3) (.c (.int .u64 0)))] (cd 4 (qr [iA 2 (.mov (cI 64))] .ret) .skip)) (qr [mA 5 0,mA 6 0,iA 7 (.un .neg (.t 6)),bA 8 .and 5 7,iA 9 (.bin .mul (.t 8) (.c (.int .u64 285870213051353865))),iA 10 (.bin .shr (.t 9) (.c (.int .u64 58))),iA 11 (.iaddrA 64 1 (.c (Glob.G Tryz.prog 0)) (.t 10)),lA 12 1 11,iA 13 (.conv .i64 (.t 12)),mA 2 13] .ret)))⟩
theorem qRl:qh Tryz.prog {} Tryz.f97=some e97:=by kernel_rfl
abbrev qTN:=qr [mA 8 3,bC 9 .add 8 1,fA 10 0 1,lA 11 1 10,iA 12 (.lenS (.t 11)),bA 13 .lss 9 12] (cd 13 .skip (.exit 0))
abbrev qUS:=cd 22 (qr [iA 2 (.mov (cB false))] .ret) .skip
abbrev qT8:=qr [fA 16 0 1,lA 17 1 16,mA 18 3,mA 19 3,bC 20 .add 19 2,iA 21 (.slcS (.t 17) (some (.t 18)) (some (.t 20))),iA 22 (.bin .eql (.t 21) (.c (.str [37,125])))] qUS
abbrev qQd:EC:= .seq (.block 1 qT8) (.reg [mA 14 3,bC 15 .add 14 1,mA 3 15])
abbrev qHU:=qr [iA 3 (.mov (cI 0))] (.block 0 (.loop (.seq qTN qQd)))
abbrev qMf:=qr [mA 23 4,fA 24 1 1,lA 25 1 24,zA 26 25,bA 27 .lss 23 26] (cd 27 .skip (.exit 2))
abbrev qM7:=cd 36 (qr [iA 2 (.mov (cB false))] .ret) .skip
abbrev qzn:=qr [fA 30 1 1,lA 31 1 30,mA 32 4,aA 33 4 31 32,lG 34 4 33,iA 35 (cl 126 [.t 34]),iA 36 (.un .not (.t 35))] qM7
abbrev qFU:EC:= .seq (.block 3 qzn) (.reg [mA 28 4,bC 29 .add 28 1,mA 4 29])
abbrev qSN:=qr [iA 4 (.mov (cI 0))] (.block 2 (.loop (.seq qMf qFU)))
abbrev qGQ:=qr [mA 37 5,fA 38 2 1,lA 39 1 38,zA 40 39,bA 41 .lss 37 40] (cd 41 .skip (.exit 4))
abbrev qFo:=cd 58 (qr [iA 2 (.mov (cB false))] .ret) .skip
abbrev qIZ:=qr [fA 49 0 6,lA 50 1 49,iA 51 (cl 127 [.t 50]),iA 52 (.un .not (.t 51)),mA 53 52,gF 54 53 (oF 1 6),gF 55 53 (oL 1 54),gF 56 53 (.len (.t 55)),gF 57 53 (.bin .eql (.t 56) (cI 0)),pO 58 53 57] qFo
abbrev qA1:=qr [mA 59 7,fA 60 1 6,lA 61 1 60,zA 62 61,bA 63 .lss 59 62] (cd 63 .skip (.exit 6))
abbrev qEm:=cd 72 (qr [iA 2 (.mov (cB false))] .ret) .skip
abbrev qIo:=qr [fA 66 1 6,lA 67 1 66,mA 68 7,aA 69 6 67 68,lG 70 6 69,iA 71 (cl 128 [.t 70]),iA 72 (.un .not (.t 71))] qEm
abbrev qRv:EC:= .seq (.block 7 qIo) (.reg [mA 64 7,bC 65 .add 64 1,mA 7 65])
abbrev qO9:=qr [iA 7 (.mov (cI 0))] (.block 6 (.loop (.seq qA1 qRv)))
abbrev qCb:=qr [fA 44 2 1,lA 45 1 44,mA 46 5,aA 47 3 45 46,lG 48 3 47,iA 6 (.alloc 3 (.agg [(.str []),(.sl 6 true []),(.int .i64 0)])),sA 3 6 48] (.seq qIZ qO9)
abbrev qBQ:EC:= .seq (.block 5 qCb) (.reg [mA 42 5,bC 43 .add 42 1,mA 5 43])
abbrev qLi:=qr [iA 5 (.mov (cI 0))] (.block 4 (.loop (.seq qGQ qBQ)))
abbrev qMQ:=qr [fA 73 2 1,lA 74 1 73,zA 75 74,bC 76 .gtr 75 0,mA 2 76] .ret
abbrev qiE:=qr [iA 1 (.box 4 (.t 0)),iA 2 (.mov (cB false))] (.seq qHU (.seq qSN (.seq qLi qMQ)))
abbrev e98:EF:=⟨77,1,[(.inl 2)],qiE⟩
theorem qiP:qh Tryz.prog {} Tryz.f98=some e98:=by kernel_rfl
abbrev qOb:=[iA 4 (.box 4 (.t 1)),iA 5 (.box 4 (.t 2))]
abbrev qTF:=cd 42 (.reg [mA 43 0,fA 44 3 5,lA 45 1 44,fA 46 0 5,lA 47 1 46,iA 48 (cl 100 [(.t 43),(.t 45),(.t 47)])]) .skip
abbrev qUW:=qr [mN 32 0,nN 33 32,fN 34 6 33,lR 35 1 34,mN 36 6,aN 37 2 35 36,fN 38 1 37,lR 39 1 38,fN 40 1 4,lR 41 1 40,iN 42 (.bin .neq (.t 39) (.t 41))] qTF
abbrev qU8:=cd 17 (.reg [mN 18 0,mN 19 0,nN 20 19,fN 21 6 20,lR 22 1 21,fN 23 0 5,lR 24 1 23,fN 25 1 4,lR 26 1 25,iN 27 (.build [(.str []),(.str [])] [(0,1,(.t 24)),(1,1,(.t 26))]),iN 28 (.lit false 2 true (.agg [(.str []),(.str [])]) 1 [(0,(.t 27))]),⟨(some 29),none,.append false 2 32 (.t 22) (.t 28),.t⟩,nN 30 18,fN 31 6 30,sW 1 31 29]) qUW
abbrev qI9:EC:= .seq (qr [mA 16 6,bC 17 .lss 16 0] qU8) .ret
abbrev qyT:=qr [mA 12 0,fA 13 0 5,lA 14 1 13,iA 15 (cl 104 [(.t 12),(.t 14)]),mA 6 15] qI9
abbrev qiZ:=qr [fA 9 0 4,lA 10 1 9,bC 11 .eql 10 5] (cd 11 qyT .skip)
abbrev qkV:=[mA 49 0,lG 50 4 5,iA 51 (cl 129 [(.t 49),(.t 50)]),mA 7 51]
abbrev qlc:=[mA 52 0,nA 53 52,fA 54 0 53,fA 55 0 54,lA 56 1 55,mA 57 7,aA 58 6 56 57,mA 8 58]
abbrev qIm:=cd 66 (.reg [mA 67 0,fA 68 3 5,lA 69 1 68,fA 70 0 5,lA 71 1 70,iA 72 (cl 100 [(.t 67),(.t 69),(.t 71)])]) .skip
abbrev qCf:=qr [mA 62 8,nA 63 62,fA 64 3 63,lA 65 1 64,bC 66 .gtr 65 0] qIm
abbrev qQO:EC:= .seq qCf (.reg [mN 73 8,mN 74 8,mN 75 0,nN 76 75,fN 77 11 76,⟨(some 78),none,.load false 1 (.t 77),(.l 26)⟩,fN 79 0 4,⟨(some 80),none,.load false 1 (.t 79),(.l 8)⟩,iN 81 (.bin .sub (.t 80) (cI 1)),nN 82 73,fN 83 3 82,⟨none,none,.store 1 (.t 83) (.t 78),(.s 13)⟩,nN 84 74,fN 85 4 84,⟨none,none,.store 1 (.t 85) (.t 81),(.s 13)⟩])
abbrev KT:=qr [fA 59 0 4,lA 60 1 59,bC 61 .neq 60 1] (cd 61 qQO .skip)
abbrev qkF:=[fA 86 2 5,lA 87 1 86,bC 88 .gtr 87 0]
abbrev qCN:=cd 106 (.reg [mA 107 0,fA 108 3 5,lA 109 1 108,fA 110 0 5,lA 111 1 110,iA 112 (cl 100 [(.t 107),(.t 109),(.t 111)])]) .skip
abbrev qls:=qr [mA 89 7,bC 90 .eql 89 1,mA 91 90,gF 92 91 (oM 0),gF 93 91 (.nilck (.t 92)),gF 94 91 (oF 5 93),gF 95 91 (oL 1 94),gF 96 91 (oM 7),gF 97 91 (.iaddr 1 (.t 95) (.t 96)),gF 98 91 (oL 1 97),pO 99 91 98,mA 100 99,gF 101 100 (oM 0),gF 102 100 (oF 2 5),gF 103 100 (oL 1 102),gF 104 100 (cl 130 [(.t 101),(.t 103)]),gF 105 100 (.bin .geq (.t 104) (cI 0)),pO 106 100 105] qCN
abbrev Ya:=qr [mA 113 8,fA 114 2 5,lA 115 1 114,nA 116 113,fA 117 2 116,sA 1 117 115] (.reg [mA 118 0,nA 119 118,fA 120 5 119,lA 121 1 120,mA 122 7,aA 123 1 121 122,⟨none,none,.store 1 (.t 123) (cB true),.any⟩])
abbrev Ky:=qr qkF (cd 88 (.seq qls Ya) .skip)
abbrev qJ4:=cd 140 (.reg [mA 141 0,fA 142 3 5,lA 143 1 142,fA 144 0 5,lA 145 1 144,iA 146 (cl 100 [(.t 141),(.t 143),(.t 145)])]) .skip
abbrev qJ6:=qr [mN 127 8,nN 128 127,fN 129 5 128,lR 130 1 129,iN 131 (.bin .neq (.t 130) (.c (.str []))),mN 132 131,⟨(some 133),(some (132,true)),.mov (.t 8),.n⟩,⟨(some 134),(some (132,true)),.nilck (.t 133),.n⟩,⟨(some 135),(some (132,true)),.faddr 5 (.t 134),.n⟩,⟨(some 136),(some (132,true)),.load false 1 (.t 135),.r⟩,⟨(some 137),(some (132,true)),.faddr 1 (.t 4),.n⟩,⟨(some 138),(some (132,true)),.load false 1 (.t 137),.r⟩,⟨(some 139),(some (132,true)),.bin .neq (.t 136) (.t 138),.n⟩,iN 140 (.pick (.t 132) (.t 139) (cB false))] qJ4
abbrev qB0:EC:= .seq qJ6 (.reg [mA 147 8,fA 148 1 4,lA 149 1 148,nA 150 147,fA 151 5 150,sA 1 151 149])
abbrev Ku:=qr [fA 124 1 4,lA 125 1 124,iA 126 (.bin .neq (.t 125) (.c (.str [])))] (cd 126 qB0 .skip)
abbrev qPs:=qr qkV (qr qlc (.seq KT (.seq Ky Ku)))
abbrev qlr:=qr qOb (.seq qiZ qPs)
abbrev e99:EF:=⟨152,3,[],qlr⟩
theorem qym:qh Tryz.prog {mu:=fun t=>[].contains t,cl:=fun r i=>([(12,5,Cls.l 26),(12,7,Cls.l 8),(12,11,Cls.s 13),(12,14,Cls.s 13),(2,3,Cls.b),(6,5,Cls.w),(7,2,Cls.w),(11,5,Cls.w),(14,15,Cls.b),(15,5,Cls.w),(20,5,Cls.w)].find? fun x=>x.1 == r && x.2.1 == i).map (·.2.2)} Tryz.f99=some e99:=by kernel_rfl
abbrev qIh:=cd 10 (.reg [mA 11 0,mA 12 0,mA 13 0,mA 14 1,mA 15 2,nA 16 11,fA 17 8 16,⟨none,none,.store 1 (.t 17) (cI 3),.any⟩,nA 18 12,fA 19 9 18,sA 1 19 14,nA 20 13,fA 21 10 20,sA 1 21 15]) .skip
abbrev qkM:=qr [mA 6 0,nA 7 6,fA 8 8 7,lA 9 1 8,bC 10 .eql 9 0] qIh
abbrev e100:EF:=⟨22,3,[],qkM⟩
theorem qwl:qh Tryz.prog {} Tryz.f100=some e100:=by kernel_rfl
abbrev qCq:=qr [mA 6 5,mA 7 0,nA 8 7,fA 9 0 8,fA 10 0 9,lA 11 1 10,zA 12 11,bA 13 .lss 6 12] (cd 13 .skip (.exit 0))
abbrev qEC:=cd 45 (qr [mA 46 5,mA 4 46] .ret) .skip
abbrev qK4:=qr [mN 16 0,nN 17 16,fN 18 0 17,fN 19 0 18,lR 20 1 19,mN 21 5,aN 22 6 20 21,fN 23 0 22,lR 24 1 23,fN 25 0 3,lR 26 1 25,iN 27 (.bin .eql (.t 24) (.t 26)),mN 28 27,⟨(some 29),(some (28,true)),.mov (.t 0),.n⟩,⟨(some 30),(some (28,true)),.nilck (.t 29),.n⟩,⟨(some 31),(some (28,true)),.faddr 0 (.t 30),.n⟩,⟨(some 32),(some (28,true)),.faddr 0 (.t 31),.n⟩,⟨(some 33),(some (28,true)),.load false 1 (.t 32),.r⟩,⟨(some 34),(some (28,true)),.mov (.t 5),.n⟩,⟨(some 35),(some (28,true)),.iaddr 6 (.t 33) (.t 34),.n⟩,⟨(some 36),(some (28,true)),.faddr 1 (.t 35),.n⟩,⟨(some 37),(some (28,true)),.load false 1 (.t 36),.r⟩,⟨(some 38),(some (28,true)),.faddr 1 (.t 3),.n⟩,⟨(some 39),(some (28,true)),.load false 1 (.t 38),.r⟩,⟨(some 40),(some (28,true)),.eqb false (.t 37) (.t 39),.n⟩,iN 41 (.pick (.t 28) (.t 40) (cB false)),mN 42 41,⟨(some 43),(some (42,true)),.mov (.t 5),.n⟩,⟨(some 44),(some (42,true)),.bin .neq (.t 43) (cI 2),.n⟩,iN 45 (.pick (.t 42) (.t 44) (cB false))] qEC
abbrev qxT:EC:= .seq (.block 1 qK4) (.reg [mA 14 5,bC 15 .add 14 1,mA 5 15])
abbrev qsL:=qr [iA 5 (.mov (cI 1))] (.block 0 (.loop (.seq qCq qxT)))
abbrev qw7:EC:= .seq qsL (qr [iA 4 (.mov (cI (-1)))] .ret)
abbrev qdQ:=qr [iA 3 (.box 4 (.t 1)),iA 4 (.mov (cI 0))] qw7
abbrev qYA:EF:=⟨47,2,[(.inl 4)],qdQ⟩
theorem qgp:qh Tryz.prog {} Tryz.f101=some qYA:=by kernel_rfl
abbrev qyA:=qr [mA 6 5,mA 7 0,nA 8 7,fA 9 7 8,lA 10 1 9,zA 11 10,bA 12 .lss 6 11] (cd 12 .skip (.exit 0))
abbrev qH6:=cd 23 (qr [mA 24 5,mA 4 24] .ret) .skip
abbrev qN3:=qr [mA 15 0,nA 16 15,fA 17 7 16,lA 18 1 17,mA 19 5,aA 20 1 18 19,lA 21 1 20,mA 22 1,bA 23 .eql 21 22] qH6
abbrev qqI:EC:= .seq (.block 1 qN3) (.reg [mA 13 5,bC 14 .add 13 1,mA 5 14])
abbrev qmy:=qr [iA 5 (.mov (cI 0))] (.block 0 (.loop (.seq qyA qqI)))
abbrev qlv:EC:= .seq qmy (qr [iA 4 (.mov (cI (-1)))] .ret)
abbrev qfS:=qr [iA 4 (.mov (cI 0))] qlv
abbrev qYh:EF:=⟨25,2,[(.inl 4)],qfS⟩
theorem qf7:qh Tryz.prog {} Tryz.f102=some qYh:=by kernel_rfl
abbrev qiF:=[iA 5 (.box 6 (.t 2))]
abbrev qjz:=[mN 10 0,mN 11 1,⟨(some 12),none,.call (.c (.fn 102 [])) [(.t 10),(.t 11)],.b⟩,iN 13 (.bin .add (cI 1) (.t 12)),fN 14 5 5,lR 15 1 14,iN 16 (.build [(.int .i64 0),(.sl 1 true []),(.int .i64 0),(.str []),(.sl 1 true []),(.int .i64 0)] [(0,1,(.t 13)),(2,1,(cI (-1))),(5,1,(.t 15))]),⟨(some 6),none,.alloc 6 (.agg [(.int .i64 0),(.sl 1 true []),(.int .i64 0),(.str []),(.sl 1 true []),(.int .i64 0)]),.a⟩,sW 6 6 16]
abbrev qkl:=qr [mA 17 7,fA 18 0 5,lA 19 1 18,zA 20 19,bA 21 .lss 17 20] (cd 21 .skip (.exit 0))
abbrev qjq:=[fA 24 0 5,lA 25 1 24,mA 26 7,aA 27 6 25 26,lG 28 6 27,iA 8 (.alloc 6 (.agg [(.str []),(.bool false),(.int .i64 0),(.int .i64 0),(.str []),(.int .i64 0)])),sA 6 8 28]
abbrev qkO:=[fA 83 4 8,lA 84 1 83,iA 85 (.bin .eql (.t 84) (.c (.str []))),mA 82 85]
abbrev qaj:=[fN 86 1 6,⟨(some 87),none,.load false 1 (.t 86),(.l 12)⟩,mN 88 0,fN 89 0 8,iR 90 (oG 4 89),⟨(some 91),none,.call (.c (.fn 131 [])) [(.t 88),(.t 90)],(.v 12)⟩,iN 92 (.lit false 1 false (.int .i64 0) 1 [(0,(.t 91))]),⟨(some 93),none,.append false 1 8 (.t 87) (.t 92),.t⟩,fN 94 1 6,sW 1 94 93]
abbrev qkh:=[mA 96 7,bC 97 .add 96 1,fA 98 0 5,lA 99 1 98,zA 100 99,bA 101 .eql 97 100,mA 95 101]
abbrev Xv:=[fN 102 4 8,⟨(some 103),none,.load false 1 (.t 102),(.l 13)⟩,fN 104 5 8,⟨(some 105),none,.load false 1 (.t 104),(.l 13)⟩,fN 106 3 6,⟨none,none,.store 1 (.t 106) (.t 103),(.s 12)⟩,fN 107 5 6,⟨none,none,.store 1 (.t 107) (.t 105),(.s 12)⟩]
abbrev qv5:=qr [mN 36 0,mN 37 0,nN 38 37,fN 39 0 38,fN 40 2 39,lR 41 1 40,mN 42 0,nN 43 42,fN 44 7 43,lR 45 1 44,iN 46 (.len (.t 45)),mN 47 0,nN 48 47,fN 49 12 48,lR 50 1 49,iN 51 (.bin .add (.t 46) (.t 50)),fN 52 4 8,lR 53 1 52,iN 54 (.lit false 1 false (.int .i64 0) 0 []),fN 55 1 6,lR 56 1 55,⟨(some 57),none,.append false 1 8 (.t 54) (.t 56),.t⟩,fN 58 5 8,lR 59 1 58,iN 60 (.build [(.int .i64 0),(.sl 1 true []),(.int .i64 0),(.str []),(.sl 1 true []),(.int .i64 0)] [(0,1,(.t 51)),(2,1,(cI (-1))),(3,1,(.t 53)),(4,1,(.t 57)),(5,1,(.t 59))]),iN 61 (.lit false 6 true (.agg [(.int .i64 0),(.sl 1 true []),(.int .i64 0),(.str []),(.sl 1 true []),(.int .i64 0)]) 1 [(0,(.t 60))]),⟨(some 62),none,.append false 6 88 (.t 41) (.t 61),.t⟩,nN 63 36,fN 64 0 63,fN 65 2 64,sW 1 65 62] (.reg [fN 66 1 6,lR 67 1 66,mN 68 0,nN 69 68,fN 70 7 69,lR 71 1 70,iN 72 (.len (.t 71)),iN 73 (.bin .add (cI 1000) (.t 72)),mN 74 0,nN 75 74,fN 76 12 75,lR 77 1 76,iN 78 (.bin .add (.t 73) (.t 77)),iN 79 (.lit false 1 false (.int .i64 0) 1 [(0,(.t 78))]),⟨(some 80),none,.append false 1 8 (.t 67) (.t 79),.t⟩,fN 81 1 6,sW 1 81 80])
abbrev X6:=qr [mA 29 0,nA 30 29,fA 31 12 30,lA 32 1 31,bC 33 .add 32 1,nA 34 29,fA 35 12 34,sA 1 35 33] qv5
abbrev qpg:=cd 82 (.reg qaj) (qr qkh (cd 95 (.reg Xv) X6))
abbrev qv6:EC:= .block 1 (qr qjq (.block 2 (qr qkO qpg)))
abbrev qfL:=[mA 22 7,bC 23 .add 22 1,mA 7 23]
abbrev quy:EC:= .loop (.seq qkl (.seq qv6 (.reg qfL)))
abbrev XY:=qr [iA 7 (.mov (cI 0))] (.block 0 quy)
abbrev qvn:=qr [mA 108 9,fA 109 1 6,lA 110 1 109,zA 111 110,bA 112 .lss 108 111] (cd 112 .skip (.exit 3))
abbrev qsI:=cd 120 (.reg [fA 121 1 6,lA 122 1 121,mA 123 9,aA 124 1 122 123,lA 125 1 124,fA 126 2 6,sA 1 126 125]) .skip
abbrev qsY:=qr [fA 115 1 6,lA 116 1 115,mA 117 9,aA 118 1 116 117,lA 119 1 118,bC 120 .lss 119 1000] qsI
abbrev qrg:EC:= .seq (.block 4 qsY) (.reg [mA 113 9,bC 114 .add 113 1,mA 9 114])
abbrev JW:=qr [iA 9 (.mov (cI 0))] (.block 3 (.loop (.seq qvn qrg)))
abbrev qoc:=cd 142 (.reg [mA 143 0,fA 144 1 5,lG 145 4 144,iA 146 (cl 131 [(.t 143),(.t 145)]),fA 147 2 6,sA 1 147 146]) (.reg [mA 148 0,fA 149 1 5,fA 150 3 149,lA 151 1 150,fA 152 1 5,fA 153 0 152,lA 154 1 153,iA 155 (cl 100 [(.t 148),(.t 151),(.t 154)])])
abbrev qou:=qr [fA 132 1 5,fA 133 1 132,lA 134 1 133,mA 135 134,gF 136 135 (oM 0),gF 137 135 (oF 1 5),gF 138 135 (oF 0 137),gF 139 135 (oL 1 138),gF 140 135 (cl 102 [(.t 136),(.t 139)]),gF 141 135 (.bin .lss (.t 140) (cI 0)),pO 142 135 141] qoc
abbrev qxo:=qr [fA 131 2 6,⟨none,none,.store 1 (.t 131) (cI (-1)),.any⟩] qou
abbrev Yd:=qr [fA 127 1 5,fA 128 0 127,lA 129 1 128,iA 130 (.bin .neq (.t 129) (.c (.str [])))] (cd 130 qxo .skip)
abbrev Xk:=qr [iA 156 (.lit false 1 false (.int .i64 0) 0 []),fA 157 1 6,lA 158 1 157,iA 159 (.append false 1 8 (.t 156) (.t 158)),fA 160 4 6,sA 1 160 159] (.reg [mN 161 0,mN 162 0,nN 163 162,fN 164 0 163,fN 165 2 164,lR 166 1 165,iR 167 (oG 6 6),iN 168 (.lit false 6 true (.agg [(.int .i64 0),(.sl 1 true []),(.int .i64 0),(.str []),(.sl 1 true []),(.int .i64 0)]) 1 [(0,(.t 167))]),⟨(some 169),none,.append false 6 88 (.t 166) (.t 168),.t⟩,nN 170 161,fN 171 0 170,fN 172 2 171,sW 1 172 169])
abbrev ql5:=qr qjz (.seq XY (.seq JW (.seq Yd Xk)))
abbrev qgw:=qr qiF ql5
abbrev qXn:EF:=⟨173,3,[],qgw⟩
theorem qfV:qh Tryz.prog {mu:=fun t=>[].contains t,cl:=fun r i=>([(12,1,Cls.l 13),(12,3,Cls.l 13),(12,5,Cls.s 12),(12,7,Cls.s 12),(10,1,Cls.l 12),(10,5,Cls.v 12),(1,2,Cls.b),(20,8,Cls.b),(21,3,Cls.w),(22,7,Cls.w)].find? fun x=>x.1 == r && x.2.1 == i).map (·.2.2)} Tryz.f103=some qXn:=by kernel_rfl
abbrev qBK:=qr [mA 6 5,mA 7 0,nA 8 7,fA 9 6 8,lA 10 1 9,zA 11 10,bA 12 .lss 6 11] (cd 12 .skip (.exit 0))
abbrev qAs:=cd 24 (qr [mA 25 5,mA 4 25] .ret) .skip
abbrev qGu:=qr [mA 15 0,nA 16 15,fA 17 6 16,lA 18 1 17,mA 19 5,aA 20 2 18 19,fA 21 0 20,lA 22 1 21,mA 23 1,bA 24 .eql 22 23] qAs
abbrev qvM:EC:= .seq (.block 1 qGu) (.reg [mA 13 5,bC 14 .add 13 1,mA 5 14])
abbrev qw5:=qr [iA 5 (.mov (cI 0))] (.block 0 (.loop (.seq qBK qvM)))
abbrev qpq:EC:= .seq qw5 (qr [iA 4 (.mov (cI (-1)))] .ret)
abbrev qgS:=qr [iA 4 (.mov (cI 0))] qpq
abbrev qYv:EF:=⟨26,2,[(.inl 4)],qgS⟩
theorem qfv:qh Tryz.prog {} Tryz.f104=some qYv:=by kernel_rfl
abbrev qDa:=cd 8 (.reg [mA 9 3,iA 10 (.un .neg (.t 9)),mA 3 10]) .skip
abbrev qK9:=qr [mA 11 3,iA 12 (.bin .gtr (.t 11) (.c (.int .u64 0))),mA 13 12,gF 14 13 (oM 4),gF 15 13 (.bin .eql (.t 14) (.c (.str []))),pO 16 13 15] (cd 16 .skip (.exit 0))
abbrev qu7:=qr [mA 17 3,iA 18 (.bin .rem (.t 17) (.c (.int .u64 10))),iA 19 (.bin .add (.c (.int .u64 48)) (.t 18)),iA 20 (.conv .u8 (.t 19)),iA 21 (.lit false 1 false (.int .u8 0) 1 [(0,(.t 20))]),iA 22 (.by2s (.t 21)),mA 23 4,bA 24 .add 22 23,mA 4 24] (.reg [mA 25 3,iA 26 (.bin .quo (.t 25) (.c (.int .u64 10))),mA 3 26])
abbrev qwU:EC:= .block 0 (.loop (.seq qK9 (.block 1 qu7)))
abbrev qtQ:=qr [mA 29 4,iA 30 (.bin .add (.c (.str [45])) (.t 29)),mA 2 30] .ret
abbrev qog:=qr [mA 27 0,bC 28 .lss 27 0] (cd 28 qtQ .skip)
abbrev qxU:EC:= .seq qog (qr [mA 31 4,mA 2 31] .ret)
abbrev qxY:=qr [iA 4 (.mov (.c (.str [])))] (.seq qwU qxU)
abbrev qoM:EC:= .seq (qr [mA 7 0,bC 8 .lss 7 0] qDa) qxY
abbrev qvl:=qr [mA 5 0,iA 6 (.conv .u64 (.t 5)),mA 3 6] qoM
abbrev qfE:=qr [iA 2 (.mov (.c (.str [])))] qvl
abbrev qY9:EF:=⟨32,1,[(.inl 2)],qfE⟩
theorem qpD:qh Tryz.prog {} Tryz.f105=some qY9:=by kernel_rfl
abbrev qNj:=qr [iA 2 (.box 5 (.t 0)),iA 3 (.box 2 (.t 1)),iA 4 (.mov (cB false))] (qr [fN 5 0 3,lR 6 1 5,iN 7 (.bin .geq (.t 6) (cI 0)),mN 8 7,⟨(some 9),(some (8,true)),.faddr 0 (.t 3),.n⟩,⟨(some 10),(some (8,true)),.load false 1 (.t 9),.r⟩,⟨(some 11),(some (8,true)),.faddr 2 (.t 2),.n⟩,⟨(some 12),(some (8,true)),.load false 1 (.t 11),.r⟩,⟨(some 13),(some (8,true)),.len (.t 12),.n⟩,⟨(some 14),(some (8,true)),.bin .lss (.t 10) (.t 13),.n⟩,iN 15 (.pick (.t 8) (.t 14) (cB false)),mN 16 15,⟨(some 17),(some (16,true)),.faddr 1 (.t 3),.n⟩,⟨(some 18),(some (16,true)),.load false 1 (.t 17),.r⟩,⟨(some 19),(some (16,true)),.bin .geq (.t 18) (cI 0),.n⟩,iN 20 (.pick (.t 16) (.t 19) (cB false)),mN 21 20,⟨(some 22),(some (21,true)),.faddr 1 (.t 3),.n⟩,⟨(some 23),(some (21,true)),.load false 1 (.t 22),.r⟩,⟨(some 24),(some (21,true)),.faddr 2 (.t 2),.n⟩,⟨(some 25),(some (21,true)),.load false 1 (.t 24),.r⟩,⟨(some 26),(some (21,true)),.faddr 0 (.t 3),.n⟩,⟨(some 27),(some (21,true)),.load false 1 (.t 26),.r⟩,⟨(some 28),(some (21,true)),.iaddr 6 (.t 25) (.t 27),.n⟩,⟨(some 29),(some (21,true)),.faddr 1 (.t 28),.n⟩,⟨(some 30),(some (21,true)),.load false 1 (.t 29),.r⟩,⟨(some 31),(some (21,true)),.len (.t 30),.n⟩,⟨(some 32),(some (21,true)),.bin .leq (.t 23) (.t 31),.n⟩,iN 33 (.pick (.t 21) (.t 32) (cB false)),mN 4 33] .ret)
abbrev qXY:EF:=⟨34,2,[(.inl 4)],qNj⟩
theorem qn8:qh Tryz.prog {} Tryz.f106=some qXY:=by kernel_rfl
abbrev qGO:=qr [iA 2 (.box 5 (.t 0)),iA 3 (.box 2 (.t 1)),iA 4 (.mov (cI 0))] (.seq (qr [iR 5 (oG 5 2),iR 6 (oG 2 3),iR 7 (cl 106 [(.t 5),(.t 6)]),iN 8 (.un .not (.t 7)),mN 9 8,⟨(some 10),(some (9,false)),.faddr 1 (.t 3),.n⟩,⟨(some 11),(some (9,false)),.load false 1 (.t 10),.r⟩,⟨(some 12),(some (9,false)),.faddr 2 (.t 2),.n⟩,⟨(some 13),(some (9,false)),.load false 1 (.t 12),.r⟩,⟨(some 14),(some (9,false)),.faddr 0 (.t 3),.n⟩,⟨(some 15),(some (9,false)),.load false 1 (.t 14),.r⟩,⟨(some 16),(some (9,false)),.iaddr 6 (.t 13) (.t 15),.n⟩,⟨(some 17),(some (9,false)),.faddr 1 (.t 16),.n⟩,⟨(some 18),(some (9,false)),.load false 1 (.t 17),.r⟩,⟨(some 19),(some (9,false)),.len (.t 18),.n⟩,⟨(some 20),(some (9,false)),.bin .eql (.t 11) (.t 19),.n⟩,iN 21 (.pick (.t 9) (cB true) (.t 20))] (cd 21 (qr [iA 4 (.mov (cI (-1)))] .ret) .skip)) (qr [fN 22 2 2,lR 23 1 22,fN 24 0 3,lR 25 1 24,aN 26 6 23 25,fN 27 1 26,lR 28 1 27,fN 29 1 3,lR 30 1 29,aN 31 1 28 30,lR 32 1 31,mN 4 32] .ret))
abbrev qXZ:EF:=⟨33,2,[(.inl 4)],qGO⟩
theorem qxy:qh Tryz.prog {} Tryz.f107=some qXZ:=by kernel_rfl
abbrev e108:EF:=⟨14,2,[],(qr [mA 5 0,zA 6 5,mA 4 6] (.reg [mA 7 0,mA 8 4,mA 9 4,iA 10 (.conv .u64 (.t 9)),iA 11 (cl 122 [.t 10]),mA 12 1,iA 13 (cl 132 [(.t 7),(cI 0),(.t 8),(.t 11),(.t 12)])]))⟩
theorem qwg:qh Tryz.prog {} Tryz.f108=some e108:=by kernel_rfl
abbrev e109:EF:=⟨17,2,[(.inl 4)],(qr [iA 2 (.box 2 (.t 0)),iA 3 (.box 2 (.t 1)),iA 4 (.mov (cI 0))] (qr [fN 5 0 2,lR 6 1 5,fN 7 0 3,lR 8 1 7,iR 9 (cl 134 [(.t 6),(.t 8)]),fN 10 1 2,lR 11 1 10,fN 12 1 3,lR 13 1 12,iR 14 (cl 134 [(.t 11),(.t 13)]),iN 15 (.lit false 1 false (.int .i64 0) 2 [(0,(.t 9)),(1,(.t 14))]),iR 16 (cl 133 [.t 15]),mN 4 16] .ret))⟩
theorem qpF:qh Tryz.prog {} Tryz.f109=some e109:=by kernel_rfl
abbrev qtf:=qr [iA 2 (.mov (.c (.sl 2 true [])))] (.seq (qr [mA 6 0,zA 7 6,bC 8 .lss 7 2] (cd 8 (qr [mA 9 0,mA 2 9] .ret) .skip)) (.seq (qr [iA 3 (.mov (cI 1))] (.block 0 (.loop (.seq (qr [mA 10 3,mA 11 0,zA 12 11,bA 13 .lss 10 12] (cd 13 .skip (.exit 0))) (.seq (.block 1 (qr [mN 16 0,mN 17 3,aN 18 2 16 17,iR 19 (oG 2 18),mN 20 0,mN 21 3,iN 22 (.bin .sub (.t 21) (cI 1)),aN 23 2 20 22,iR 24 (oG 2 23),iN 25 (.eqagg false [1,1] (.t 19) (.t 24))] (cd 25 (qr [mA 26 0,mA 27 3,iA 28 (.slc 2 (.t 26) (some (.t 27)) none none),mA 4 28] (.seq (qr [iA 5 (.mov (cI 1))] (.block 2 (.loop (.seq (qr [mA 29 5,mA 30 4,zA 31 30,bA 32 .lss 29 31] (cd 32 .skip (.exit 2))) (.seq (.block 3 (qr [mN 35 4,mN 36 5,aN 37 2 35 36,iR 38 (oG 2 37),mN 39 4,mN 40 5,iN 41 (.bin .sub (.t 40) (cI 1)),aN 42 2 39 41,iR 43 (oG 2 42),iN 44 (.eqagg true [1,1] (.t 38) (.t 43))] (cd 44 (qr [mA 45 0,mA 46 3,mA 47 4,mA 48 5,aA 49 2 47 48,lG 50 2 49,aA 51 2 45 46,sA 2 51 50] (.reg [mA 52 3,bC 53 .add 52 1,mA 3 53])) .skip))) (.reg [mA 33 5,bC 34 .add 33 1,mA 5 34])))))) (qr [mA 54 0,mA 55 3,iA 56 (.slc 2 (.t 54) (some (.t 55)) none none),⟨none,none,.clear 0 .undef (.t 56),.any⟩] (qr [mA 57 0,mA 58 3,iA 59 (.slc 2 (.t 57) none (some (.t 58)) none),mA 2 59] .ret)))) .skip))) (.reg [mA 14 3,bC 15 .add 14 1,mA 3 15])))))) (qr [mA 60 0,mA 2 60] .ret)))
abbrev qXV:EF:=⟨61,1,[(.inl 2)],qtf⟩
theorem qsJ:qh Tryz.prog {} Tryz.f110=some qXV:=by kernel_rfl
abbrev e115:EF:=⟨149,2,[],(qr [mA 6 0,nA 7 6,fA 8 6 7,lA 9 1 8,bC 10 .add 9 1,nA 11 6,fA 12 6 11,sA 1 12 10] (qr [mN 13 0,nN 14 13,fN 15 1 14,lR 16 1 15,mN 17 1,mN 18 0,nN 19 18,fN 20 2 19,lR 21 1 20,mN 22 1,mN 23 0,nN 24 23,fN 25 6 24,lR 26 1 25,mN 27 0,nN 28 27,fN 29 6 28,lR 30 1 29,aN 31 1 16 17,sW 1 31 26,aN 32 1 21 22,sW 1 32 30] (qr [mA 33 0,mA 34 0,nA 35 34,fA 36 3 35,lA 37 1 36,mA 38 1,iA 39 (.lit false 1 false (.int .i64 0) 1 [(0,(.t 38))]),iA 40 (.append true 1 8 (.t 37) (.t 39)),nA 41 33,fA 42 3 41,sA 1 42 40] (.seq (qr [mA 43 0,nA 44 43,fA 45 0 44,lA 46 1 45,mA 47 1,aA 48 1 46 47,lA 49 1 48,zA 50 49,iA 51 (.mov (cI 0))] (.block 0 (.loop (qr [bA 52 .lss 51 50] (.seq (cd 52 .skip (.exit 0)) (.seq (.block 1 (qr [aA 53 1 49 51,lA 54 1 53,mA 5 54] (.block 2 (qr [mA 56 5,bC 57 .lss 56 0,mA 58 57,gF 59 58 (oM 5),gF 60 58 (oM 0),gF 61 58 (.nilck (.t 60)),gF 62 58 (oF 0 61),gF 63 58 (oL 1 62),gF 64 58 (.len (.t 63)),gF 65 58 (.bin .geq (.t 59) (.t 64)),pO 66 58 65,mA 55 66] (cd 55 .skip (qr [mA 68 0,nA 69 68,fA 70 1 69,lA 71 1 70,mA 72 5,aA 73 1 71 72,lA 74 1 73,bC 75 .eql 74 0,mA 67 75] (cd 67 (qr [mA 76 0,mA 77 5,iA 78 (cl 115 [(.t 76),(.t 77)])] (.reg [mN 79 0,nN 80 79,fN 81 2 80,lR 82 1 81,mN 83 1,mN 84 0,nN 85 84,fN 86 2 85,lR 87 1 86,mN 88 1,aN 89 1 87 88,lR 90 1 89,mN 91 0,nN 92 91,fN 93 2 92,lR 94 1 93,mN 95 5,aN 96 1 94 95,lR 97 1 96,iN 98 (.minmax false [(.t 90),(.t 97)]),aN 99 1 82 83,sW 1 99 98])) (qr [mA 101 0,nA 102 101,fA 103 4 102,lA 104 1 103,mA 105 5,aA 106 1 104 105,lA 107 1 106,bC 108 .lss 107 0,mA 100 108] (cd 100 (.reg [mN 109 0,nN 110 109,fN 111 2 110,lR 112 1 111,mN 113 1,mN 114 0,nN 115 114,fN 116 2 115,lR 117 1 116,mN 118 1,aN 119 1 117 118,lR 120 1 119,mN 121 0,nN 122 121,fN 123 1 122,lR 124 1 123,mN 125 5,aN 126 1 124 125,lR 127 1 126,iN 128 (.minmax false [(.t 120),(.t 127)]),aN 129 1 112 113,sW 1 129 128]) .skip))))))))) (.reg [bC 130 .add 51 1,mA 51 130]))))))) (qr [mN 131 0,nN 132 131,fN 133 2 132,lR 134 1 133,mN 135 1,aN 136 1 134 135,lR 137 1 136,mN 138 0,nN 139 138,fN 140 1 139,lR 141 1 140,mN 142 1,aN 143 1 141 142,lR 144 1 143,iN 145 (.bin .eql (.t 137) (.t 144))] (cd 145 (.reg [mA 146 0,mA 147 1,iA 148 (cl 135 [(.t 146),(.t 147)])]) .skip))))))⟩
theorem qrH:qh Tryz.prog {mu:=fun t=>[40].contains t,cl:=fun r i=>([(8,2,Cls.w),(14,2,Cls.w)].find? fun x=>x.1 == r && x.2.1 == i).map (·.2.2)} Tryz.f115=some e115:=by kernel_rfl
abbrev qPB:=qr [mA 7 6,mA 8 1,zA 9 8,bA 10 .lss 7 9] (cd 10 .skip (.exit 0))
abbrev qRZ:=cd 18 (.reg [mA 19 5,mA 20 1,mA 21 6,aA 22 2 20 21,lG 23 2 22,iA 24 (cl 117 [(.t 19),(.t 23)]),mA 5 24]) .skip
abbrev qzl:=qr [iR 13 (oG 5 2),mN 14 1,mN 15 6,aN 16 2 14 15,iR 17 (oG 2 16),iR 18 (cl 118 [(.t 13),(.t 17)])] qRZ
abbrev ql0:EC:= .seq (.block 1 qzl) (.reg [mA 11 6,bC 12 .add 11 1,mA 6 12])
abbrev qsU:=qr [iA 6 (.mov (cI 0))] (.block 0 (.loop (.seq qPB ql0)))
abbrev qtE:EC:= .seq qsU (qr [mA 25 5,mA 4 25] .ret)
abbrev qpO:=qr [iA 5 (.mov (.c (.sl 2 true [])))] qtE
abbrev qeG:=qr [iA 2 (.box 5 (.t 0)),iA 4 (.mov (.c (.sl 2 true [])))] qpO
abbrev e116:EF:=⟨26,2,[(.inl 4)],qeG⟩
theorem qfR:qh Tryz.prog {} Tryz.f116=some e116:=by kernel_rfl
abbrev qDy:=qr [mN 9 5,iN 10 (.bin .gtr (.t 9) (cI 0)),mN 11 10,⟨(some 12),(some (11,true)),.mov (.t 0),.n⟩,⟨(some 13),(some (11,true)),.mov (.t 5),.n⟩,⟨(some 14),(some (11,true)),.bin .sub (.t 13) (cI 1),.n⟩,⟨(some 15),(some (11,true)),.iaddr 2 (.t 12) (.t 14),.n⟩,⟨(some 16),(some (11,true)),.faddr 0 (.t 15),.n⟩,⟨(some 17),(some (11,true)),.load false 1 (.t 16),.r⟩,⟨(some 18),(some (11,true)),.faddr 0 (.t 3),.n⟩,⟨(some 19),(some (11,true)),.load false 1 (.t 18),.r⟩,⟨(some 20),(some (11,true)),.bin .gtr (.t 17) (.t 19),.n⟩,⟨(some 21),(some (11,true)),.mov (.t 20),.n⟩,⟨(some 22),(some (21,false)),.mov (.t 0),.n⟩,⟨(some 23),(some (21,false)),.mov (.t 5),.n⟩,⟨(some 24),(some (21,false)),.bin .sub (.t 23) (cI 1),.n⟩,⟨(some 25),(some (21,false)),.iaddr 2 (.t 22) (.t 24),.n⟩,⟨(some 26),(some (21,false)),.faddr 0 (.t 25),.n⟩,⟨(some 27),(some (21,false)),.load false 1 (.t 26),.r⟩,⟨(some 28),(some (21,false)),.faddr 0 (.t 3),.n⟩,⟨(some 29),(some (21,false)),.load false 1 (.t 28),.r⟩,⟨(some 30),(some (21,false)),.bin .eql (.t 27) (.t 29),.n⟩,⟨(some 31),(some (21,false)),.mov (.t 30),.n⟩,⟨(some 32),(some (31,true)),.mov (.t 0),.n⟩,⟨(some 33),(some (31,true)),.mov (.t 5),.n⟩,⟨(some 34),(some (31,true)),.bin .sub (.t 33) (cI 1),.n⟩,⟨(some 35),(some (31,true)),.iaddr 2 (.t 32) (.t 34),.n⟩,⟨(some 36),(some (31,true)),.faddr 1 (.t 35),.n⟩,⟨(some 37),(some (31,true)),.load false 1 (.t 36),.r⟩,⟨(some 38),(some (31,true)),.faddr 1 (.t 3),.n⟩,⟨(some 39),(some (31,true)),.load false 1 (.t 38),.r⟩,⟨(some 40),(some (31,true)),.bin .gtr (.t 37) (.t 39),.n⟩,⟨(some 41),(some (21,false)),.pick (.t 31) (.t 40) (cB false),.n⟩,⟨(some 42),(some (11,true)),.pick (.t 21) (cB true) (.t 41),.n⟩,iN 43 (.pick (.t 11) (.t 42) (cB false))] (cd 43 .skip (.exit 0))
abbrev qyv:EC:= .block 1 (.reg [mA 44 5,bC 45 .sub 44 1,mA 5 45])
abbrev qpA:=cd 56 (qr [mA 57 0,mA 4 57] .ret) .skip
abbrev qnl:=qr [mN 46 5,iN 47 (.bin .gtr (.t 46) (cI 0)),mN 48 47,⟨(some 49),(some (48,true)),.mov (.t 0),.n⟩,⟨(some 50),(some (48,true)),.mov (.t 5),.n⟩,⟨(some 51),(some (48,true)),.bin .sub (.t 50) (cI 1),.n⟩,⟨(some 52),(some (48,true)),.iaddr 2 (.t 49) (.t 51),.n⟩,⟨(some 53),(some (48,true)),.load true 2 (.t 52),.r⟩,⟨(some 54),(some (48,true)),.load true 2 (.t 3),.r⟩,⟨(some 55),(some (48,true)),.eqagg false [1,1] (.t 53) (.t 54),.n⟩,iN 56 (.pick (.t 48) (.t 55) (cB false))] qpA
abbrev qq9:=qr [mN 63 6,iR 64 (oG 2 3),iN 65 (.lit false 2 true (.agg [(.int .i64 0),(.int .i64 0)]) 1 [(0,(.t 64))]),⟨(some 66),none,.append false 2 16 (.t 63) (.t 65),.t⟩,mN 67 0,mN 68 5,iN 69 (.slc 2 (.t 67) (some (.t 68)) none none),⟨(some 70),none,.append false 2 16 (.t 66) (.t 69),.t⟩,mN 4 70] .ret
abbrev qof:=qr [iA 58 (.lit false 2 true (.agg [(.int .i64 0),(.int .i64 0)]) 0 []),mA 59 0,mA 60 5,iA 61 (.slc 2 (.t 59) none (some (.t 60)) none),iA 62 (.append false 2 16 (.t 58) (.t 61)),mA 6 62] qq9
abbrev qpH:EC:= .seq (.block 0 (.loop (.seq qDy qyv))) (.seq qnl qof)
abbrev qgY:=qr [iA 3 (.box 2 (.t 1)),iA 4 (.mov (.c (.sl 2 true [])))] (qr [mA 7 0,zA 8 7,mA 5 8] qpH)
abbrev e117:EF:=⟨71,2,[(.inl 4)],qgY⟩
theorem qej:qh Tryz.prog {} Tryz.f117=some e117:=by kernel_rfl
abbrev qLb:=qr [fN 5 0 3,lR 6 1 5,iN 7 (.bin .geq (.t 6) (cI 0)),mN 8 7,⟨(some 9),(some (8,true)),.faddr 0 (.t 3),.n⟩,⟨(some 10),(some (8,true)),.load false 1 (.t 9),.r⟩,⟨(some 11),(some (8,true)),.faddr 2 (.t 2),.n⟩,⟨(some 12),(some (8,true)),.load false 1 (.t 11),.r⟩,⟨(some 13),(some (8,true)),.len (.t 12),.n⟩,⟨(some 14),(some (8,true)),.bin .lss (.t 10) (.t 13),.n⟩,iN 15 (.pick (.t 8) (.t 14) (cB false)),mN 16 15,⟨(some 17),(some (16,true)),.faddr 1 (.t 3),.n⟩,⟨(some 18),(some (16,true)),.load false 1 (.t 17),.r⟩,⟨(some 19),(some (16,true)),.bin .geq (.t 18) (cI 0),.n⟩,iN 20 (.pick (.t 16) (.t 19) (cB false)),mN 21 20,⟨(some 22),(some (21,true)),.faddr 1 (.t 3),.n⟩,⟨(some 23),(some (21,true)),.load false 1 (.t 22),.r⟩,⟨(some 24),(some (21,true)),.faddr 2 (.t 2),.n⟩,⟨(some 25),(some (21,true)),.load false 1 (.t 24),.r⟩,⟨(some 26),(some (21,true)),.faddr 0 (.t 3),.n⟩,⟨(some 27),(some (21,true)),.load false 1 (.t 26),.r⟩,⟨(some 28),(some (21,true)),.iaddr 6 (.t 25) (.t 27),.n⟩,⟨(some 29),(some (21,true)),.faddr 1 (.t 28),.n⟩,⟨(some 30),(some (21,true)),.load false 1 (.t 29),.r⟩,⟨(some 31),(some (21,true)),.len (.t 30),.n⟩,⟨(some 32),(some (21,true)),.bin .leq (.t 23) (.t 31),.n⟩,iN 33 (.pick (.t 21) (.t 32) (cB false)),mN 4 33] .ret
abbrev qk0:=qr [iA 2 (.box 5 (.t 0)),iA 3 (.box 2 (.t 1)),iA 4 (.mov (cB false))] qLb
abbrev e118:EF:=⟨34,2,[(.inl 4)],qk0⟩
theorem qd0:qh Tryz.prog {} Tryz.f118=some e118:=by kernel_rfl
abbrev qI3:=cd 10 (qr [iA 4 (.mov (cB false))] .ret) .skip
abbrev qAU:=qr [mA 6 0,zA 7 6,mA 8 1,zA 9 8,bA 10 .neq 7 9] qI3
abbrev qKI:=qr [mA 11 5,mA 12 0,zA 13 12,bA 14 .lss 11 13] (cd 14 .skip (.exit 0))
abbrev qt7:=cd 25 (qr [iA 4 (.mov (cB false))] .ret) .skip
abbrev qmR:=qr [mN 17 0,mN 18 5,aN 19 2 17 18,iR 20 (oG 2 19),mN 21 1,mN 22 5,aN 23 2 21 22,iR 24 (oG 2 23),iN 25 (.eqagg true [1,1] (.t 20) (.t 24))] qt7
abbrev ql4:EC:= .seq (.block 1 qmR) (.reg [mA 15 5,bC 16 .add 15 1,mA 5 16])
abbrev qsS:=qr [iA 5 (.mov (cI 0))] (.block 0 (.loop (.seq qKI ql4)))
abbrev qsh:EC:= .seq qsS (qr [iA 4 (.mov (cB true))] .ret)
abbrev qgU:=qr [iA 4 (.mov (cB false))] (.seq qAU qsh)
abbrev e119:EF:=⟨26,2,[(.inl 4)],qgU⟩
theorem qeI:qh Tryz.prog {} Tryz.f119=some e119:=by kernel_rfl
abbrev qAR:=qr [mA 15 7] (cd 15 .skip (.exit 0))
abbrev qun:=cd 33 (.reg [lA 34 1 5,fA 35 0 9,lA 36 1 35,aA 37 1 34 36,⟨none,none,.store 1 (.t 37) (cB true),.any⟩,iA 7 (.mov (cB true))]) .skip
abbrev qvh:=qr [lA 23 1 5,fA 24 0 9,lA 25 1 24,aA 26 1 23 25,lA 27 1 26,iA 28 (.un .not (.t 27)),mA 29 28,gT 30 29 (oM 6),gT 31 29 (oG 6 9),gT 32 29 (.call (.t 30) [.t 31]),pA 33 29 32] qun
abbrev qqE:=qr [aA 21 6 17 19,lG 22 6 21,iA 9 (.alloc 6 (.agg [(.int .i64 0),(.sl 1 true []),(.int .i64 0),(.str []),(.sl 1 true []),(.int .i64 0)])),sA 6 9 22] qvh
abbrev qs9:EC:= .seq (.block 3 qqE) (.reg [bC 38 .add 19 1,mA 19 38])
abbrev qph:=qr [bA 20 .lss 19 18] (.seq (cd 20 .skip (.exit 2)) qs9)
abbrev qxz:=qr [fA 16 2 2,lA 17 1 16,zA 18 17,iA 19 (.mov (cI 0))] (.block 2 (.loop qph))
abbrev qqK:EC:= .block 1 (qr [iA 7 (.mov (cB false))] qxz)
abbrev qr0:=qr [iA 7 (.mov (cB true))] (.block 0 (.loop (.seq qAR qqK)))
abbrev qmP:EC:= .seq qr0 (qr [lA 39 1 5,mA 4 39] .ret)
abbrev qpW:=qr [iA 14 (.mkfn 136 [(.t 3),(.t 5)]),mA 6 14] qmP
abbrev qvJ:=qr [fA 10 1 2,lA 11 1 10,zA 12 11,iA 13 (.mksl true 1 1 (.bool false) (.t 12) (.t 12)),iA 5 (.alloc 1 (.sl 1 true [])),sA 1 5 13] qpW
abbrev qe9:=qr [iA 2 (.box 5 (.t 0)),iA 3 (.box 1 (.t 1)),iA 4 (.mov (.c (.sl 1 true [])))] qvJ
abbrev e120:EF:=⟨40,2,[(.inl 4)],qe9⟩
theorem qgb:qh Tryz.prog {mu:=fun t=>[13].contains t} Tryz.f120=some e120:=by kernel_rfl
abbrev qrd:=qr [iA 8 (.mov (cB true))] (qr [iA 9 (.mov (cB true))] (.block 0 (.loop (.block 1 (qr [mA 19 2,mA 20 1,bA 21 .sub 19 20,mA 10 21] (.seq (qr [mA 22 10,bC 23 .leq 22 12] (cd 23 (qr [mA 24 0,mA 25 1,mA 26 2,iA 27 (cl 137 [(.t 24),(.t 25),(.t 26)])] .ret) .skip)) (.seq (qr [mA 28 3,bC 29 .eql 28 0] (cd 29 (qr [mA 30 0,mA 31 1,mA 32 2,iA 33 (cl 138 [(.t 30),(.t 31),(.t 32)])] .ret) .skip)) (.seq (qr [mA 34 8,iA 35 (.un .not (.t 34))] (cd 35 (qr [mA 36 0,mA 37 1,mA 38 2,iA 39 (cl 139 [(.t 36),(.t 37),(.t 38)])] (.reg [mA 40 3,bC 41 .sub 40 1,mA 3 41])) .skip)) (qr [mA 43 0,mA 44 1,mA 45 2,iA 46 (cl 140 [(.t 43),(.t 44),(.t 45)]),mA 42 46,iA 47 (.ext (.t 42) 0),iA 48 (.ext (.t 42) 1),mA 11 47,mA 12 48] (.seq (qr [mA 49 12,bC 50 .eql 49 2] (cd 50 (qr [mA 51 0,mA 52 1,mA 53 2,iA 54 (cl 141 [(.t 51),(.t 52),(.t 53)])] (qr [mA 55 2,bC 56 .sub 55 1,mA 57 11,mA 58 1,bA 59 .sub 57 58,bA 60 .sub 56 59,mA 11 60] (.reg [iA 12 (.mov (cI 1))]))) .skip)) (.seq (qr [mA 61 8,mA 62 61,gT 63 62 (oM 9),pA 64 62 63,mA 65 64,gT 66 65 (oM 12),gT 67 65 (.bin .eql (.t 66) (cI 1)),pA 68 65 67] (cd 68 (qr [mA 69 0,mA 70 1,mA 71 2,iA 72 (cl 142 [(.t 69),(.t 70),(.t 71)])] (cd 72 .ret .skip)) .skip)) (.seq (qr [mN 73 1,iN 74 (.bin .gtr (.t 73) (cI 0)),mN 75 74,⟨(some 76),(some (75,true)),.mov (.t 0),.n⟩,⟨(some 77),(some (75,true)),.mov (.t 1),.n⟩,⟨(some 78),(some (75,true)),.bin .sub (.t 77) (cI 1),.n⟩,⟨(some 79),(some (75,true)),.iaddr 1 (.t 76) (.t 78),.n⟩,⟨(some 80),(some (75,true)),.load false 1 (.t 79),.r⟩,⟨(some 81),(some (75,true)),.mov (.t 0),.n⟩,⟨(some 82),(some (75,true)),.mov (.t 11),.n⟩,⟨(some 83),(some (75,true)),.iaddr 1 (.t 81) (.t 82),.n⟩,⟨(some 84),(some (75,true)),.load false 1 (.t 83),.r⟩,⟨(some 85),(some (75,true)),.call (.c (.fn 143 [])) [(.t 80),(.t 84)],.r⟩,⟨(some 86),(some (75,true)),.un .not (.t 85),.n⟩,iN 87 (.pick (.t 75) (.t 86) (cB false))] (cd 87 (qr [mA 88 0,mA 89 1,mA 90 2,mA 91 11,iA 92 (cl 144 [(.t 88),(.t 89),(.t 90),(.t 91)]),mA 13 92] (qr [mA 93 13,mA 1 93] (.exit 1))) .skip)) (qr [mA 95 0,mA 96 1,mA 97 2,mA 98 11,iA 99 (cl 145 [(.t 95),(.t 96),(.t 97),(.t 98)]),mA 94 99,iA 100 (.ext (.t 94) 0),iA 101 (.ext (.t 94) 1),mA 14 100,mA 15 101] (qr [mA 102 15,mA 9 102] (qr [mA 103 14,mA 104 1,bA 105 .sub 103 104,mA 106 2,mA 107 14,bA 108 .sub 106 107,mA 16 105,mA 17 108] (qr [mA 109 10,bC 110 .quo 109 8,mA 18 110] (qr [mA 111 16,mA 112 17,bA 113 .lss 111 112] (cd 113 (qr [mA 114 16,mA 115 18,bA 116 .geq 114 115,mA 8 116] (qr [mA 117 0,mA 118 1,mA 119 14,mA 120 3,iA 121 (cl 121 [(.t 117),(.t 118),(.t 119),(.t 120)])] (.reg [mA 122 14,bC 123 .add 122 1,mA 1 123]))) (qr [mA 124 17,mA 125 18,bA 126 .geq 124 125,mA 8 126] (qr [mA 127 0,mA 128 14,bC 129 .add 128 1,mA 130 2,mA 131 3,iA 132 (cl 121 [(.t 127),(.t 129),(.t 130),(.t 131)])] (.reg [mA 133 14,mA 2 133])))))))))))))))))))))
abbrev qX5:EF:=⟨134,4,[],qrd⟩
theorem qxW:qh Tryz.prog {} Tryz.f121=some qX5:=by kernel_rfl
abbrev qB1:=qr [iA 2 (.mov (cI 0))] (.seq (.cond (cB false) (qr [mA 3 0,iA 4 (.conv .u32 (.t 3)),iA 5 (cl 146 [.t 4]),mA 2 5] .ret) .skip) (qr [mA 6 0,iA 7 (cl 147 [.t 6]),mA 2 7] .ret))
abbrev qYs:EF:=⟨8,1,[(.inl 2)],qB1⟩
theorem qpV:qh Tryz.prog {} Tryz.f122=some qYs:=by kernel_rfl
abbrev qNO:=cd 16 (qr [mA 17 5,mA 4 17] .ret) .skip
abbrev qy9:=qr [iR 11 (oG 2 3),mN 12 0,mN 13 5,aN 14 2 12 13,iR 15 (oG 2 14),iN 16 (.eqagg false [1,1] (.t 11) (.t 15))] qNO
abbrev qqf:EC:= .block 1 (qr [mA 10 8,mA 5 10] qy9)
abbrev qsc:EC:= .seq qqf (.reg [bC 18 .add 8 1,mA 8 18])
abbrev qxw:=qr [bA 9 .lss 8 7] (.seq (cd 9 .skip (.exit 0)) qsc)
abbrev qoT:=qr [mA 6 0,zA 7 6,iA 8 (.mov (cI 0))] (.block 0 (.loop qxw))
abbrev qqX:EC:= .seq qoT (qr [iA 4 (.mov (cI (-1)))] .ret)
abbrev qgt:=qr [iA 3 (.box 2 (.t 1)),iA 4 (.mov (cI 0))] qqX
abbrev qYi:EF:=⟨19,2,[(.inl 4)],qgt⟩
theorem qfK:qh Tryz.prog {} Tryz.f123=some qYi:=by kernel_rfl
abbrev qCd:=qr [mA 5 0,mA 6 1,iA 7 (cl 148 [(.t 5),(.t 6)]),bC 8 .geq 7 0,mA 4 8] .ret
abbrev qjI:=qr [iA 4 (.mov (cB false))] qCd
abbrev qYl:EF:=⟨9,2,[(.inl 4)],qjI⟩
theorem qgI:qh Tryz.prog {} Tryz.f124=some qYl:=by kernel_rfl
abbrev qSW:=qr [mA 4 0,bC 5 .lss 4 1000,mA 6 5,gF 7 6 (oL 1 1),gF 8 6 (.nilck (.t 7)),gF 9 6 (oF 8 8),gF 10 6 (oL 1 9),gF 11 6 (oM 0),gF 12 6 (.bin .sub (.t 11) (cI 1000)),gF 13 6 (.iaddr 1 (.t 10) (.t 12)),gF 14 6 (oL 1 13),gF 15 6 (.un .not (.t 14)),pO 16 6 15,mA 3 16] .ret
abbrev qjl:=qr [iA 3 (.mov (cB false))] qSW
abbrev e125:EF:=⟨17,2,[(.inl 3)],qjl⟩
theorem qd1:qh Tryz.prog {} Tryz.f125=some e125:=by kernel_rfl
abbrev qQ1:=cd 54 (qr [iA 2 (.mov (cB false))] .ret) .skip
abbrev qQ4:=qr [fA 4 0 1,lA 5 1 4,bC 6 .lss 5 1,mA 7 6,gF 8 7 (oF 0 1),gF 9 7 (oL 1 8),gF 10 7 (.bin .gtr (.t 9) (cI 6)),pO 11 7 10,mA 12 11,gF 13 12 (oF 2 1),gF 14 12 (oL 1 13),gF 15 12 (.len (.t 14)),gF 16 12 (.bin .eql (.t 15) (cI 0)),pO 17 12 16,mA 18 17,gF 19 18 (oF 0 1),gF 20 18 (oL 1 19),gF 21 18 (.bin .eql (.t 20) (cI 6)),gF 22 18 (oM 21),gT 23 22 (oF 2 1),gT 24 22 (oL 1 23),gT 25 22 (.len (.t 24)),gT 26 22 (.bin .neq (.t 25) (cI 1)),gT 27 22 (oM 26),gF 28 27 (oF 1 1),gF 29 27 (oL 1 28),gF 30 27 (.bin .neq (.t 29) (.c (.str []))),gT 31 22 (.pick (.t 27) (cB true) (.t 30)),gF 32 18 (.pick (.t 22) (.t 31) (cB false)),pO 33 18 32,mA 34 33,gF 35 34 (oF 0 1),gF 36 34 (oL 1 35),gF 37 34 (.bin .eql (.t 36) (cI 5)),gF 38 34 (oM 37),gT 39 38 (oF 1 1),gT 40 38 (oL 1 39),gT 41 38 (.bin .eql (.t 40) (.c (.str []))),gF 42 34 (.pick (.t 38) (.t 41) (cB false)),pO 43 34 42,mA 44 43,gF 45 44 (oF 1 1),gF 46 44 (oL 1 45),gF 47 44 (.bin .neq (.t 46) (.c (.str []))),gF 48 44 (oM 47),gT 49 48 (oF 1 1),gT 50 48 (oL 1 49),gT 51 48 (cl 127 [.t 50]),gT 52 48 (.un .not (.t 51)),gF 53 44 (.pick (.t 48) (.t 52) (cB false)),pO 54 44 53] qQ1
abbrev qKW:=qr [mA 55 3,fA 56 2 1,lA 57 1 56,zA 58 57,bA 59 .lss 55 58] (cd 59 .skip (.exit 0))
abbrev qng:=cd 74 (qr [iA 2 (.mov (cB false))] .ret) .skip
abbrev qr7:=qr [fN 62 2 1,lR 63 1 62,mN 64 3,aN 65 4 63 64,iR 66 (oG 4 65),fN 67 0 1,lR 68 1 67,iN 69 (.bin .eql (.t 68) (cI 1)),fN 70 0 1,lR 71 1 70,iN 72 (.bin .lss (.t 71) (cI 5)),iR 73 (cl 149 [(.t 66),(.t 69),(.t 72)]),iN 74 (.un .not (.t 73))] qng
abbrev qth:EC:= .seq (.block 1 qr7) (.reg [mA 60 3,bC 61 .add 60 1,mA 3 61])
abbrev qo4:=qr [iA 3 (.mov (cI 0))] (.block 0 (.loop (.seq qKW qth)))
abbrev qwv:EC:= .seq qo4 (qr [iA 2 (.mov (cB true))] .ret)
abbrev qgn:=qr [iA 1 (.box 4 (.t 0)),iA 2 (.mov (cB false))] (.seq qQ4 qwv)
abbrev e126:EF:=⟨75,1,[(.inl 2)],qgn⟩
theorem qwB:qh Tryz.prog {} Tryz.f126=some e126:=by kernel_rfl
abbrev qOh:=qr [mA 3 0,iA 4 (.lenS (.t 3)),bC 5 .geq 4 1,mA 6 5,gT 7 6 (oM 0),gT 8 6 (.lenS (.t 7)),gT 9 6 (.bin .leq (.t 8) (cI 20)),pA 10 6 9,mA 11 10,gT 12 11 (oM 0),gT 13 11 (cl 150 [(.t 12),(cI 0)]),gT 14 11 (oM 0),gT 15 11 (.lenS (.t 14)),gT 16 11 (.bin .eql (.t 13) (.t 15)),pA 17 11 16,mA 2 17] .ret
abbrev qi6:=qr [iA 2 (.mov (cB false))] qOh
abbrev e127:EF:=⟨18,1,[(.inl 2)],qi6⟩
theorem qfp:qh Tryz.prog {} Tryz.f127=some e127:=by kernel_rfl
abbrev qKJ:=qr [mA 5 3,fA 6 0 1,lA 7 1 6,zA 8 7,bA 9 .lss 5 8] (cd 9 .skip (.exit 0))
abbrev qJw:=cd 45 (qr [iA 2 (.mov (cB false))] .ret) .skip
abbrev qnW:=qr [fN 17 4 4,lR 18 1 17,iN 19 (.bin .eql (.t 18) (.c (.str []))),mN 20 19,⟨(some 21),(some (20,true)),.faddr 0 (.t 4),.n⟩,⟨(some 22),(some (20,true)),.load true 4 (.t 21),.r⟩,⟨(some 23),(some (20,true)),.call (.c (.fn 149 [])) [(.t 22),(cB false),(cB true)],.r⟩,⟨(some 24),(some (20,true)),.un .not (.t 23),.n⟩,iN 25 (.pick (.t 20) (.t 24) (cB false)),mN 26 25,⟨(some 27),(some (26,false)),.faddr 4 (.t 4),.n⟩,⟨(some 28),(some (26,false)),.load false 1 (.t 27),.r⟩,⟨(some 29),(some (26,false)),.bin .neq (.t 28) (.c (.str [])),.n⟩,⟨(some 30),(some (26,false)),.mov (.t 29),.n⟩,⟨(some 31),(some (30,true)),.faddr 0 (.t 4),.n⟩,⟨(some 32),(some (30,true)),.load true 4 (.t 31),.r⟩,⟨(some 33),(some (30,true)),.call (.c (.fn 151 [])) [.t 32],.r⟩,⟨(some 34),(some (30,true)),.un .not (.t 33),.n⟩,⟨(some 35),(some (30,true)),.mov (.t 34),.n⟩,⟨(some 36),(some (35,false)),.faddr 4 (.t 4),.n⟩,⟨(some 37),(some (35,false)),.load false 1 (.t 36),.r⟩,⟨(some 38),(some (35,false)),.call (.c (.fn 152 [])) [(.t 37),(cI 0)],.r⟩,⟨(some 39),(some (35,false)),.faddr 4 (.t 4),.n⟩,⟨(some 40),(some (35,false)),.load false 1 (.t 39),.r⟩,⟨(some 41),(some (35,false)),.lenS (.t 40),.n⟩,⟨(some 42),(some (35,false)),.bin .neq (.t 38) (.t 41),.n⟩,⟨(some 43),(some (30,true)),.pick (.t 35) (cB true) (.t 42),.n⟩,⟨(some 44),(some (26,false)),.pick (.t 30) (.t 43) (cB false),.n⟩,iN 45 (.pick (.t 26) (cB true) (.t 44))] qJw
abbrev quV:=qr [fA 12 0 1,lA 13 1 12,mA 14 3,aA 15 6 13 14,lG 16 6 15,iA 4 (.alloc 6 (.agg [(.str []),(.bool false),(.int .i64 0),(.int .i64 0),(.str []),(.int .i64 0)])),sA 6 4 16] qnW
abbrev qrr:EC:= .seq (.block 1 quV) (.reg [mA 10 3,bC 11 .add 10 1,mA 3 11])
abbrev qvo:=qr [iA 3 (.mov (cI 0))] (.block 0 (.loop (.seq qKJ qrr)))
abbrev ql3:=qr [fA 46 1 1,lG 47 4 46,iA 48 (cl 151 [.t 47]),mA 49 48,gF 50 49 (oF 1 1),gF 51 49 (oG 4 50),gF 52 49 (cl 149 [(.t 51),(cB false),(cB true)]),pO 53 49 52,mA 2 53] .ret
abbrev qez:=qr [iA 1 (.box 6 (.t 0)),iA 2 (.mov (cB false))] (.seq qvo ql3)
abbrev e128:EF:=⟨54,1,[(.inl 2)],qez⟩
theorem qgX:qh Tryz.prog {} Tryz.f128=some e128:=by kernel_rfl
abbrev qkH:=[iA 3 (.box 4 (.t 1)),iA 4 (.mov (cI 0))]
abbrev qiC:=[mA 7 0,lG 8 4 3,iA 9 (cl 101 [(.t 7),(.t 8)]),mA 5 9]
abbrev qBb:=cd 11 (qr [mA 12 5,mA 4 12] .ret) .skip
abbrev qkD:=qr [mA 10 5,bC 11 .geq 10 0] qBb
abbrev qkR:=[fA 13 0 3,lA 14 1 13,fA 15 1 3,lA 16 1 15,iA 17 (.build [(.str []),(.bool false),(.int .i64 0),(.int .i64 0),(.int .i64 0),(.str [])] [(0,1,(.t 14)),(1,1,(.t 16))]),iA 6 (.alloc 6 (.agg [(.str []),(.bool false),(.int .i64 0),(.int .i64 0),(.int .i64 0),(.str [])])),sA 6 6 17]
abbrev qqj:=cd 29 (.reg [mA 30 0,fA 31 3 3,lA 32 1 31,fA 33 0 3,lA 34 1 33,iA 35 (cl 100 [(.t 30),(.t 32),(.t 34)])]) .skip
abbrev qsj:=qr [mA 25 0,fA 26 2 6,lA 27 1 26,iA 28 (cl 130 [(.t 25),(.t 27)]),bC 29 .geq 28 0] qqj
abbrev quW:=qr [fA 20 0 3,lA 21 1 20,iA 22 (.idxS (.t 21) (cI 0)),iA 23 (.conv .i64 (.t 22)),fA 24 2 6,sA 1 24 23] qsj
abbrev qev:=qr [fA 18 1 3,lA 19 1 18] (cd 19 quW .skip)
abbrev qn4:=qr [mA 59 0,nA 60 59,fA 61 0 60,fA 62 0 61,lA 63 1 62,zA 64 63,bC 65 .sub 64 1,mA 4 65] .ret
abbrev qva:=qr [mN 48 0,mN 49 0,nN 50 49,fN 51 5 50,lR 52 1 51,fN 53 1 3,lR 54 1 53,iN 55 (.lit false 1 false (.bool false) 1 [(0,(.t 54))]),⟨(some 56),none,.append true 1 1 (.t 52) (.t 55),.w⟩,nN 57 48,fN 58 5 57,sW 1 58 56] qn4
abbrev VE:=qr [mN 36 0,mN 37 0,nN 38 37,fN 39 0 38,fN 40 0 39,lR 41 1 40,iR 42 (oG 6 6),iN 43 (.lit false 6 true (.agg [(.str []),(.bool false),(.int .i64 0),(.int .i64 0),(.int .i64 0),(.str [])]) 1 [(0,(.t 42))]),⟨(some 44),none,.append true 6 64 (.t 41) (.t 43),.w⟩,nN 45 36,fN 46 0 45,fN 47 0 46,sW 1 47 44] qva
abbrev qqh:=qr qiC (.seq qkD (qr qkR (.seq qev VE)))
abbrev qbl:=qr qkH qqh
abbrev e129:EF:=⟨66,2,[(.inl 4)],qbl⟩
theorem qgG:qh Tryz.prog {mu:=fun t=>[44,56].contains t,cl:=fun r i=>([(9,8,Cls.w),(10,8,Cls.w),(1,2,Cls.b),(7,3,Cls.b),(8,5,Cls.w)].find? fun x=>x.1 == r && x.2.1 == i).map (·.2.2)} Tryz.f129=some e129:=by kernel_rfl
abbrev qNw:=qr [mA 6 5,mA 7 0,nA 8 7,fA 9 0 8,fA 10 0 9,lA 11 1 10,zA 12 11,bA 13 .lss 6 12] (cd 13 .skip (.exit 0))
abbrev qGr:=cd 26 (qr [mA 27 5,mA 4 27] .ret) .skip
abbrev qD1:=qr [mA 16 0,nA 17 16,fA 18 0 17,fA 19 0 18,lA 20 1 19,mA 21 5,aA 22 6 20 21,fA 23 2 22,lA 24 1 23,mA 25 1,bA 26 .eql 24 25] qGr
abbrev qrl:EC:= .seq (.block 1 qD1) (.reg [mA 14 5,bC 15 .add 14 1,mA 5 15])
abbrev qoC:=qr [iA 5 (.mov (cI 3))] (.block 0 (.loop (.seq qNw qrl)))
abbrev qnF:EC:= .seq qoC (qr [iA 4 (.mov (cI (-1)))] .ret)
abbrev qfD:=qr [iA 4 (.mov (cI 0))] qnF
abbrev qX8:EF:=⟨28,2,[(.inl 4)],qfD⟩
theorem qfO:qh Tryz.prog {} Tryz.f130=some qX8:=by kernel_rfl
abbrev qIg:=qr [mA 9 0,lG 10 4 3,iA 11 (cl 129 [(.t 9),(.t 10)]),mA 4 11] .ret
abbrev qLa:=qr [fA 7 1 3,lA 8 1 7] (cd 8 qIg .skip)
abbrev qNx:=qr [mA 18 5,iA 19 (.bin .add (cI 1001) (.t 18)),mA 4 19] .ret
abbrev qoo:=qr [mA 16 5,bC 17 .geq 16 0] (cd 17 qNx .skip)
abbrev qqR:=qr [mA 12 0,fA 13 0 3,lA 14 1 13,iA 15 (cl 102 [(.t 12),(.t 14)]),mA 5 15] qoo
abbrev qvU:=qr [mA 25 0,fA 26 3 3,lA 27 1 26,fA 28 0 3,lA 29 1 28,iA 30 (cl 100 [(.t 25),(.t 27),(.t 29)])] (qr [iA 4 (.mov (cI 0))] .ret)
abbrev qny:=qr [mA 23 6,bC 24 .lss 23 0] (cd 24 qvU .skip)
abbrev qnC:EC:= .seq qny (qr [mA 31 6,mA 4 31] .ret)
abbrev qnw:=qr [mA 20 0,lG 21 4 3,iA 22 (cl 101 [(.t 20),(.t 21)]),mA 6 22] qnC
abbrev qfw:=qr [iA 3 (.box 4 (.t 1)),iA 4 (.mov (cI 0))] (.seq qLa (.seq qqR qnw))
abbrev qYx:EF:=⟨32,2,[(.inl 4)],qfw⟩
theorem qf8:qh Tryz.prog {mu:=fun t=>[].contains t,cl:=fun r i=>([(2,2,Cls.w),(3,3,Cls.b),(6,2,Cls.b),(8,5,Cls.w)].find? fun x=>x.1 == r && x.2.1 == i).map (·.2.2)} Tryz.f131=some qYx:=by kernel_rfl
abbrev qqq:=qr [iA 10 (.mov (cB true))] (qr [iA 11 (.mov (cB true))] (.block 0 (.loop (.block 1 (qr [mA 21 2,mA 22 1,bA 23 .sub 21 22,mA 12 23] (.seq (qr [mA 24 12,bC 25 .leq 24 12] (cd 25 (qr [mA 26 0,mA 27 1,mA 28 2,mA 29 4,iA 30 (cl 153 [(.t 26),(.t 27),(.t 28),(.t 29)])] .ret) .skip)) (.seq (qr [mA 31 3,bC 32 .eql 31 0] (cd 32 (qr [mA 33 0,mA 34 1,mA 35 2,mA 36 4,iA 37 (cl 154 [(.t 33),(.t 34),(.t 35),(.t 36)])] .ret) .skip)) (.seq (qr [mA 38 10,iA 39 (.un .not (.t 38))] (cd 39 (qr [mA 40 0,mA 41 1,mA 42 2,mA 43 4,iA 44 (cl 155 [(.t 40),(.t 41),(.t 42),(.t 43)])] (.reg [mA 45 3,bC 46 .sub 45 1,mA 3 46])) .skip)) (qr [mA 48 0,mA 49 1,mA 50 2,mA 51 4,iA 52 (cl 156 [(.t 48),(.t 49),(.t 50),(.t 51)]),mA 47 52,iA 53 (.ext (.t 47) 0),iA 54 (.ext (.t 47) 1),mA 13 53,mA 14 54] (.seq (qr [mA 55 14,bC 56 .eql 55 2] (cd 56 (qr [mA 57 0,mA 58 1,mA 59 2,mA 60 4,iA 61 (cl 157 [(.t 57),(.t 58),(.t 59),(.t 60)])] (qr [mA 62 2,bC 63 .sub 62 1,mA 64 13,mA 65 1,bA 66 .sub 64 65,bA 67 .sub 63 66,mA 13 67] (.reg [iA 14 (.mov (cI 1))]))) .skip)) (.seq (qr [mA 68 10,mA 69 68,gT 70 69 (oM 11),pA 71 69 70,mA 72 71,gT 73 72 (oM 14),gT 74 72 (.bin .eql (.t 73) (cI 1)),pA 75 72 74] (cd 75 (qr [mA 76 0,mA 77 1,mA 78 2,mA 79 4,iA 80 (cl 158 [(.t 76),(.t 77),(.t 78),(.t 79)])] (cd 80 .ret .skip)) .skip)) (.seq (qr [mN 81 1,iN 82 (.bin .gtr (.t 81) (cI 0)),mN 83 82,⟨(some 84),(some (83,true)),.mov (.t 4),.n⟩,⟨(some 85),(some (83,true)),.mov (.t 0),.n⟩,⟨(some 86),(some (83,true)),.mov (.t 1),.n⟩,⟨(some 87),(some (83,true)),.bin .sub (.t 86) (cI 1),.n⟩,⟨(some 88),(some (83,true)),.iaddr 2 (.t 85) (.t 87),.n⟩,⟨(some 89),(some (83,true)),.load true 2 (.t 88),.r⟩,⟨(some 90),(some (83,true)),.mov (.t 0),.n⟩,⟨(some 91),(some (83,true)),.mov (.t 13),.n⟩,⟨(some 92),(some (83,true)),.iaddr 2 (.t 90) (.t 91),.n⟩,⟨(some 93),(some (83,true)),.load true 2 (.t 92),.r⟩,⟨(some 94),(some (83,true)),.call (.t 84) [(.t 89),(.t 93)],.r⟩,⟨(some 95),(some (83,true)),.bin .lss (.t 94) (cI 0),.n⟩,⟨(some 96),(some (83,true)),.un .not (.t 95),.n⟩,iN 97 (.pick (.t 83) (.t 96) (cB false))] (cd 97 (qr [mA 98 0,mA 99 1,mA 100 2,mA 101 13,mA 102 4,iA 103 (cl 159 [(.t 98),(.t 99),(.t 100),(.t 101),(.t 102)]),mA 15 103] (qr [mA 104 15,mA 1 104] (.exit 1))) .skip)) (qr [mA 106 0,mA 107 1,mA 108 2,mA 109 13,mA 110 4,iA 111 (cl 160 [(.t 106),(.t 107),(.t 108),(.t 109),(.t 110)]),mA 105 111,iA 112 (.ext (.t 105) 0),iA 113 (.ext (.t 105) 1),mA 16 112,mA 17 113] (qr [mA 114 17,mA 11 114] (qr [mA 115 16,mA 116 1,bA 117 .sub 115 116,mA 118 2,mA 119 16,bA 120 .sub 118 119,mA 18 117,mA 19 120] (qr [mA 121 12,bC 122 .quo 121 8,mA 20 122] (qr [mA 123 18,mA 124 19,bA 125 .lss 123 124] (cd 125 (qr [mA 126 18,mA 127 20,bA 128 .geq 126 127,mA 10 128] (qr [mA 129 0,mA 130 1,mA 131 16,mA 132 3,mA 133 4,iA 134 (cl 132 [(.t 129),(.t 130),(.t 131),(.t 132),(.t 133)])] (.reg [mA 135 16,bC 136 .add 135 1,mA 1 136]))) (qr [mA 137 19,mA 138 20,bA 139 .geq 137 138,mA 10 139] (qr [mA 140 0,mA 141 16,bC 142 .add 141 1,mA 143 2,mA 144 3,mA 145 4,iA 146 (cl 132 [(.t 140),(.t 142),(.t 143),(.t 144),(.t 145)])] (.reg [mA 147 16,mA 2 147])))))))))))))))))))))
abbrev qX4:EF:=⟨148,5,[],qqq⟩
theorem qxH:qh Tryz.prog {} Tryz.f132=some qX4:=by kernel_rfl
abbrev qxV:=qr [iA 2 (.mov (cI 0))] (qr [iA 3 (.mov (cI 0))] (.seq (qr [mA 6 0,zA 7 6,iA 8 (.mov (cI 0))] (.block 0 (.loop (qr [bA 9 .lss 8 7] (.seq (cd 9 .skip (.exit 0)) (.seq (.block 1 (qr [aA 10 1 6 8,lA 11 1 10,mA 5 11] (qr [mA 12 5,mA 13 3,bA 14 .neq 12 13] (cd 14 (qr [mA 15 5,mA 2 15] .ret) .skip)))) (.reg [bC 16 .add 8 1,mA 8 16]))))))) (qr [mA 17 3,mA 2 17] .ret)))
abbrev qYf:EF:=⟨18,1,[(.inl 2)],qxV⟩
theorem qtu:qh Tryz.prog {} Tryz.f133=some qYf:=by kernel_rfl
abbrev qwy:=qr [iA 4 (.mov (cI 0))] (qr [mA 7 0,iA 8 (cl 161 [.t 7]),mA 5 8] (qr [mA 9 1,iA 10 (cl 161 [.t 9]),mA 6 10] (.seq (qr [mA 11 5] (cd 11 (.seq (qr [mA 12 6] (cd 12 (qr [iA 4 (.mov (cI 0))] .ret) .skip)) (qr [iA 4 (.mov (cI (-1)))] .ret)) .skip)) (.seq (qr [mA 13 6] (cd 13 (qr [iA 4 (.mov (cI 1))] .ret) .skip)) (.seq (qr [mA 14 0,mA 15 1,bA 16 .lss 14 15] (cd 16 (qr [iA 4 (.mov (cI (-1)))] .ret) .skip)) (.seq (qr [mA 17 0,mA 18 1,bA 19 .gtr 17 18] (cd 19 (qr [iA 4 (.mov (cI 1))] .ret) .skip)) (qr [iA 4 (.mov (cI 0))] .ret)))))))
abbrev qYp:EF:=⟨20,2,[(.inl 4)],qwy⟩
theorem qlC:qh Tryz.prog {} Tryz.f134=some qYp:=by kernel_rfl
abbrev qqP:=qr [mA 8 0,nA 9 8,fA 10 3 9,lA 11 1 10,mA 12 1,iA 13 (cl 162 [(.t 11),(.t 12)]),mA 4 13] (qr [mA 14 0,nA 15 14,fA 16 3 15,lA 17 1 16,mA 18 4,iA 19 (.slc 1 (.t 17) (some (.t 18)) none none),iA 20 (cl 163 [.t 19]),mA 5 20] (qr [mA 21 0,mA 22 0,nA 23 22,fA 24 3 23,lA 25 1 24,mA 26 4,iA 27 (.slc 1 (.t 25) none (some (.t 26)) none),nA 28 21,fA 29 3 28,sA 1 29 27] (.seq (qr [mA 30 5,zA 31 30,iA 32 (.mov (cI 0))] (.block 0 (.loop (qr [bA 33 .lss 32 31] (.seq (cd 33 .skip (.exit 0)) (.seq (.block 1 (qr [aA 34 1 30 32,lA 35 1 34,mA 7 35] (.reg [mN 36 0,nN 37 36,fN 38 4 37,lR 39 1 38,mN 40 7,mN 41 0,nN 42 41,fN 43 5 42,lR 44 1 43,iN 45 (.len (.t 44)),aN 46 1 39 40,sW 1 46 45]))) (.reg [bC 47 .add 32 1,mA 32 47]))))))) (qr [mA 48 5,iA 49 (cl 89 [.t 48])] (.reg [mA 50 0,mA 51 0,nA 52 51,fA 53 5 52,lA 54 1 53,mA 55 5,iA 56 (.lit false 1 false (.sl 1 true []) 1 [(0,(.t 55))]),iA 57 (.append true 1 24 (.t 54) (.t 56)),nA 58 50,fA 59 5 58,sA 1 59 57])))))
abbrev qYB:EF:=⟨60,2,[],qqP⟩
theorem qqm:qh Tryz.prog {mu:=fun t=>[57].contains t} Tryz.f135=some qYB:=by kernel_rfl
abbrev qA6:=cd 31 (qr [iA 4 (.mov (cB false))] .ret) .skip
abbrev qKm:=qr [mA 14 6,bC 15 .lss 14 1000,mA 16 15,gT 17 16 (oL 1 1),gT 18 16 (.un .not (.t 17)),pA 19 16 18,mA 20 19,gF 21 20 (oM 6),gF 22 20 (.bin .geq (.t 21) (cI 1000)),gF 23 20 (oM 22),gT 24 23 (oL 1 2),gT 25 23 (oM 6),gT 26 23 (.bin .sub (.t 25) (cI 1000)),gT 27 23 (.iaddr 1 (.t 24) (.t 26)),gT 28 23 (oL 1 27),gT 29 23 (.un .not (.t 28)),gF 30 20 (.pick (.t 23) (.t 29) (cB false)),pO 31 20 30] qA6
abbrev qso:=qr [aA 12 1 8 10,lA 13 1 12,mA 6 13] qKm
abbrev qvv:EC:= .seq (.block 1 qso) (.reg [bC 32 .add 10 1,mA 10 32])
abbrev qoQ:=qr [bA 11 .lss 10 9] (.seq (cd 11 .skip (.exit 0)) qvv)
abbrev qrC:=qr [fA 7 1 3,lA 8 1 7,zA 9 8,iA 10 (.mov (cI 0))] (.block 0 (.loop qoQ))
abbrev qvk:EC:= .seq qrC (qr [iA 4 (.mov (cB true))] .ret)
abbrev qgv:=qr [iA 3 (.box 6 (.t 0)),iA 4 (.mov (cB false))] qvk
abbrev qX6:EF:=⟨33,3,[(.inl 4)],qgv⟩
theorem qfQ:qh Tryz.prog {} Tryz.f136=some qX6:=by kernel_rfl
abbrev e137:EF:=⟨49,3,[],(qr [mA 8 1,bC 9 .add 8 1,mA 6 9] (.block 0 (.loop (.seq (qr [mA 10 6,mA 11 2,bA 12 .lss 10 11] (cd 12 .skip (.exit 0))) (.seq (.block 1 (qr [mA 15 6,mA 7 15] (.block 2 (.loop (.seq (qr [mN 16 7,mN 17 1,iN 18 (.bin .gtr (.t 16) (.t 17)),mN 19 18,⟨(some 20),(some (19,true)),.mov (.t 0),.n⟩,⟨(some 21),(some (19,true)),.mov (.t 7),.n⟩,⟨(some 22),(some (19,true)),.iaddr 1 (.t 20) (.t 21),.n⟩,⟨(some 23),(some (19,true)),.load false 1 (.t 22),.r⟩,⟨(some 24),(some (19,true)),.mov (.t 0),.n⟩,⟨(some 25),(some (19,true)),.mov (.t 7),.n⟩,⟨(some 26),(some (19,true)),.bin .sub (.t 25) (cI 1),.n⟩,⟨(some 27),(some (19,true)),.iaddr 1 (.t 24) (.t 26),.n⟩,⟨(some 28),(some (19,true)),.load false 1 (.t 27),.r⟩,⟨(some 29),(some (19,true)),.call (.c (.fn 143 [])) [(.t 23),(.t 28)],.r⟩,iN 30 (.pick (.t 19) (.t 29) (cB false))] (cd 30 .skip (.exit 2))) (.seq (.block 3 (.reg [mN 33 0,mN 34 7,mN 35 0,mN 36 7,iN 37 (.bin .sub (.t 36) (cI 1)),mN 38 0,mN 39 7,iN 40 (.bin .sub (.t 39) (cI 1)),aN 41 1 38 40,lR 42 1 41,mN 43 0,mN 44 7,aN 45 1 43 44,lR 46 1 45,aN 47 1 33 34,sW 1 47 42,aN 48 1 35 37,sW 1 48 46])) (.reg [mA 31 7,bC 32 .sub 31 1,mA 7 32]))))))) (.reg [mA 13 6,bC 14 .add 13 1,mA 6 14]))))))⟩
theorem qlD:qh Tryz.prog {} Tryz.f137=some e137:=by kernel_rfl
abbrev e143:EF:=⟨17,2,[(.inl 4)],(qr [iA 4 (.mov (cB false))] (qr [mA 5 0,iA 6 (cl 161 [.t 5]),mA 7 6,gT 8 7 (oM 1),gT 9 7 (cl 161 [.t 8]),gT 10 7 (.un .not (.t 9)),pA 11 7 10,mA 12 11,gF 13 12 (oM 0),gF 14 12 (oM 1),gF 15 12 (.bin .lss (.t 13) (.t 14)),pO 16 12 15,mA 4 16] .ret))⟩
theorem qov:qh Tryz.prog {} Tryz.f143=some e143:=by kernel_rfl
abbrev qt5:=qr [iA 2 (.mov (cI 0))] (.seq (qr [mA 3 0,iA 4 (.bin .geq (.t 3) (.c (.int .u64 4294967296)))] (cd 4 (qr [mA 5 0,iA 6 (.bin .shr (.t 5) (.c (.int .u64 32))),mA 0 6] (.reg [iA 2 (.mov (cI 32))])) .skip)) (.seq (qr [mA 7 0,iA 8 (.bin .geq (.t 7) (.c (.int .u64 65536)))] (cd 8 (qr [mA 9 0,iA 10 (.bin .shr (.t 9) (.c (.int .u64 16))),mA 0 10] (.reg [mA 11 2,bC 12 .add 11 16,mA 2 12])) .skip)) (.seq (qr [mA 13 0,iA 14 (.bin .geq (.t 13) (.c (.int .u64 256)))] (cd 14 (qr [mA 15 0,iA 16 (.bin .shr (.t 15) (.c (.int .u64 8))),mA 0 16] (.reg [mA 17 2,bC 18 .add 17 8,mA 2 18])) .skip)) (qr [mA 19 2,mA 20 0,iA 21 (.conv .u8 (.t 20)),iA 22 (.idxS (.c (.str [0,1,2,2,3,3,3,3,4,4,4,4,4,4,4,4,5,5,5,5,5,5,5,5,5,5,5,5,5,5,5,5,6,6,6,6,6,6,6,6,6,6,6,6,6,6,6,6,6,6,6,6,6,6,6,6,6,6,6,6,6,6,6,6,7,7,7,7,7,7,7,7,7,7,7,7,7,7,7,7,7,7,7,7,7,7,7,7,7,7,7,7,7,7,7,7,7,7,7,7,7,7,7,7,7,7,7,7,7,7,7,7,7,7,7,7,7,7,7,7,7,7,7,7,7,7,7,7,8,8,8,8,8,8,8,8,8,8,8,8,8,8,8,8,8,8,8,8,8,8,8,8,8,8,8,8,8,8,8,8,8,8,8,8,8,8,8,8,8,8,8,8,8,8,8,8,8,8,8,8,8,8,8,8,8,8,8,8,8,8,8,8,8,8,8,8,8,8,8,8,8,8,8,8,8,8,8,8,8,8,8,8,8,8,8,8,8,8,8,8,8,8,8,8,8,8,8,8,8,8,8,8,8,8,8,8,8,8,8,8,8,8,8,8,8,8,8,8,8,8,8,8,8,8,8,8])) (.t 21)),iA 23 (.conv .i64 (.t 22)),bA 24 .add 19 23,mA 2 24] .ret))))
abbrev qX1:EF:=⟨25,1,[(.inl 2)],qt5⟩
theorem qsM:qh Tryz.prog {} Tryz.f147=some qX1:=by kernel_rfl
abbrev qFM:=cd 16 (qr [mA 17 5,mA 4 17] .ret) .skip
abbrev qG6:=qr [mA 11 1,mA 12 0,mA 13 5,aA 14 1 12 13,lA 15 1 14,iA 16 (.call (.t 11) [.t 15])] qFM
abbrev qr1:EC:= .block 1 (qr [mA 10 8,mA 5 10] qG6)
abbrev qsP:EC:= .seq qr1 (.reg [bC 18 .add 8 1,mA 8 18])
abbrev qua:=qr [bA 9 .lss 8 7] (.seq (cd 9 .skip (.exit 0)) qsP)
abbrev qvA:=qr [mA 6 0,zA 7 6,iA 8 (.mov (cI 0))] (.block 0 (.loop qua))
abbrev qqH:EC:= .seq qvA (qr [iA 4 (.mov (cI (-1)))] .ret)
abbrev qey:=qr [iA 4 (.mov (cI 0))] qqH
abbrev qYq:EF:=⟨19,2,[(.inl 4)],qey⟩
theorem qdV:qh Tryz.prog {} Tryz.f148=some qYq:=by kernel_rfl
abbrev qKB:=cd 23 (qr [iA 6 (.mov (cB false))] .ret) .skip
abbrev qyV:=qr [mA 11 2,iA 12 (.un .not (.t 11)),mA 13 12,gF 14 13 (oF 0 3),gF 15 13 (oL 1 14),gF 16 13 (.lenS (.t 15)),gF 17 13 (.bin .neq (.t 16) (cI 1)),pO 18 13 17,mA 19 18,gF 20 19 (oF 2 3),gF 21 19 (oL 1 20),gF 22 19 (.bin .neq (.t 21) (cI 0)),pO 23 19 22] qKB
abbrev qn9:=qr [fA 25 0 3,lA 26 1 25,iA 27 (.idxS (.t 26) (cI 0)),iA 28 (cl 169 [.t 27]),mA 24 28,iA 29 (.ext (.t 24) 0),iA 30 (.ext (.t 24) 1),mA 7 29,mA 8 30] (qr [mA 31 8,mA 6 31] .ret)
abbrev qpQ:=qr [fA 9 1 3,lA 10 1 9] (cd 10 (.seq qyV qn9) .skip)
abbrev qsK:=qr [fA 32 0 3,lA 33 1 32,iA 34 (cl 127 [.t 33]),mA 35 34,gT 36 35 (oF 2 3),gT 37 35 (oL 1 36),gT 38 35 (.bin .eql (.t 37) (cI 0)),gT 39 35 (oM 38),gF 40 39 (oM 1),gF 41 39 (oM 40),gT 42 41 (oF 2 3),gT 43 41 (oL 1 42),gT 44 41 (.bin .geq (.t 43) (cI 1)),gF 45 39 (.pick (.t 41) (.t 44) (cB false)),gF 46 39 (oM 45),gT 47 46 (oF 2 3),gT 48 46 (oL 1 47),gT 49 46 (.bin .leq (.t 48) (cI 50000)),gF 50 39 (.pick (.t 46) (.t 49) (cB false)),gT 51 35 (.pick (.t 39) (cB true) (.t 50)),pA 52 35 51,mA 6 52] .ret
abbrev qfs:=qr [iA 3 (.box 4 (.t 0)),iA 6 (.mov (cB false))] (.seq qpQ qsK)
abbrev qYg:EF:=⟨53,3,[(.inl 6)],qfs⟩
theorem qe2:qh Tryz.prog {} Tryz.f149=some qYg:=by kernel_rfl
abbrev qCw:=qr [mA 6 1,mA 7 5,bA 8 .add 6 7,mA 9 0,iA 10 (.lenS (.t 9)),bA 11 .lss 8 10,mA 12 11,gT 13 12 (oM 0),gT 14 12 (oM 1),gT 15 12 (oM 5),gT 16 12 (.bin .add (.t 14) (.t 15)),gT 17 12 (.idxS (.t 13) (.t 16)),gT 18 12 (cl 170 [.t 17]),gT 19 12 (oM 18),gF 20 19 (oM 5),gF 21 19 (.bin .gtr (.t 20) (cI 0)),gF 22 19 (oM 21),gT 23 22 (oM 0),gT 24 22 (oM 1),gT 25 22 (oM 5),gT 26 22 (.bin .add (.t 24) (.t 25)),gT 27 22 (.idxS (.t 23) (.t 26)),gT 28 22 (cl 171 [.t 27]),gT 29 22 (oM 28),gF 30 29 (oM 0),gF 31 29 (oM 1),gF 32 29 (oM 5),gF 33 29 (.bin .add (.t 31) (.t 32)),gF 34 29 (.idxS (.t 30) (.t 33)),gF 35 29 (.bin .eql (.t 34) (.c (.int .u8 46))),gT 36 22 (.pick (.t 29) (cB true) (.t 35)),gF 37 19 (.pick (.t 22) (.t 36) (cB false)),gT 38 12 (.pick (.t 19) (cB true) (.t 37)),pA 39 12 38] (cd 39 .skip (.exit 0))
abbrev qDc:EC:= .block 1 (.reg [mA 40 5,bC 41 .add 40 1,mA 5 41])
abbrev qxb:EC:= .seq (.block 0 (.loop (.seq qCw qDc))) (qr [mA 42 5,mA 4 42] .ret)
abbrev qea:=qr [iA 4 (.mov (cI 0))] (qr [iA 5 (.mov (cI 0))] qxb)
abbrev qX0:EF:=⟨43,2,[(.inl 4)],qea⟩
theorem qem:qh Tryz.prog {} Tryz.f150=some qX0:=by kernel_rfl
abbrev qS0:=qr [fA 3 0 1,lA 4 1 3,iA 5 (.bin .eql (.t 4) (.c (.str []))),mA 6 5,gT 7 6 (oF 1 1),gT 8 6 (oL 1 7),gT 9 6 (.un .not (.t 8)),pA 10 6 9,mA 11 10,gT 12 11 (oF 2 1),gT 13 11 (oL 1 12),gT 14 11 (.bin .eql (.t 13) (cI 0)),pA 15 11 14,mA 2 15] .ret
abbrev qj7:=qr [iA 1 (.box 4 (.t 0)),iA 2 (.mov (cB false))] qS0
abbrev qYt:EF:=⟨16,1,[(.inl 2)],qj7⟩
theorem qdX:qh Tryz.prog {} Tryz.f151=some qYt:=by kernel_rfl
abbrev qMN:=cd 21 (qr [iA 4 (.mov (cI (-1)))] .ret) .skip
abbrev qJt:=qr [mA 8 1,bC 9 .lss 8 0,mA 10 9,gF 11 10 (oM 1),gF 12 10 (oM 0),gF 13 10 (.lenS (.t 12)),gF 14 10 (.bin .geq (.t 11) (.t 13)),pO 15 10 14,mA 16 15,gF 17 16 (oM 0),gF 18 16 (oM 1),gF 19 16 (.idxS (.t 17) (.t 18)),gF 20 16 (.bin .neq (.t 19) (.c (.int .u8 123))),pO 21 16 20] qMN
abbrev qp9:=qr [mA 23 6,mA 24 0,iA 25 (.lenS (.t 24)),bA 26 .lss 23 25] (cd 26 .skip (.exit 0))
abbrev qnA:=cd 31 (qr [iA 4 (.mov (cI (-1)))] .ret) .skip
abbrev qqg:=cd 34 (qr [mA 35 7,mA 6 35] (.exit 1)) .skip
abbrev quc:=qr [mA 32 7,mA 33 6,bA 34 .gtr 32 33] qqg
abbrev qtB:=cd 39 (.reg [mA 40 5,bC 41 .add 40 1,mA 5 41]) .skip
abbrev qv7:=qr [mA 36 0,mA 37 6,iA 38 (.idxS (.t 36) (.t 37)),iA 39 (.bin .eql (.t 38) (.c (.int .u8 123)))] qtB
abbrev qmc:=cd 45 (.reg [mA 46 5,bC 47 .sub 46 1,mA 5 47]) .skip
abbrev qu8:=qr [mA 42 0,mA 43 6,iA 44 (.idxS (.t 42) (.t 43)),iA 45 (.bin .eql (.t 44) (.c (.int .u8 125)))] qmc
abbrev qqF:=cd 51 (qr [mA 52 6,mA 4 52] .ret) .skip
abbrev qsa:=qr [mA 48 6,bC 49 .add 48 1,mA 6 49] (qr [mA 50 5,bC 51 .eql 50 0] qqF)
abbrev quO:EC:= .seq (qr [mA 30 7,bC 31 .lss 30 0] qnA) (.seq quc (.seq qv7 (.seq qu8 qsa)))
abbrev quB:=qr [mA 27 0,mA 28 6,iA 29 (cl 172 [(.t 27),(.t 28)]),mA 7 29] quO
abbrev qoz:EC:= .block 0 (.loop (.seq qp9 (.block 1 quB)))
abbrev qot:EC:= .seq (qr [mA 22 1,mA 6 22] qoz) (qr [iA 4 (.mov (cI (-1)))] .ret)
abbrev qpx:EC:= .seq qJt (qr [iA 5 (.mov (cI 0))] qot)
abbrev qf2:=qr [iA 4 (.mov (cI 0))] qpx
abbrev e152:EF:=⟨53,2,[(.inl 4)],qf2⟩
theorem qrj:qh Tryz.prog {} Tryz.f152=some e152:=by kernel_rfl
abbrev e153:EF:=⟨53,4,[],(qr [mA 10 1,bC 11 .add 10 1,mA 8 11] (.block 0 (.loop (.seq (qr [mA 12 8,mA 13 2,bA 14 .lss 12 13] (cd 14 .skip (.exit 0))) (.seq (.block 1 (qr [mA 17 8,mA 9 17] (.block 2 (.loop (.seq (qr [mN 18 9,mN 19 1,iN 20 (.bin .gtr (.t 18) (.t 19)),mN 21 20,⟨(some 22),(some (21,true)),.mov (.t 3),.n⟩,⟨(some 23),(some (21,true)),.mov (.t 0),.n⟩,⟨(some 24),(some (21,true)),.mov (.t 9),.n⟩,⟨(some 25),(some (21,true)),.iaddr 2 (.t 23) (.t 24),.n⟩,⟨(some 26),(some (21,true)),.load true 2 (.t 25),.r⟩,⟨(some 27),(some (21,true)),.mov (.t 0),.n⟩,⟨(some 28),(some (21,true)),.mov (.t 9),.n⟩,⟨(some 29),(some (21,true)),.bin .sub (.t 28) (cI 1),.n⟩,⟨(some 30),(some (21,true)),.iaddr 2 (.t 27) (.t 29),.n⟩,⟨(some 31),(some (21,true)),.load true 2 (.t 30),.r⟩,⟨(some 32),(some (21,true)),.call (.t 22) [(.t 26),(.t 31)],.r⟩,⟨(some 33),(some (21,true)),.bin .lss (.t 32) (cI 0),.n⟩,iN 34 (.pick (.t 21) (.t 33) (cB false))] (cd 34 .skip (.exit 2))) (.seq (.block 3 (.reg [mN 37 0,mN 38 9,mN 39 0,mN 40 9,iN 41 (.bin .sub (.t 40) (cI 1)),mN 42 0,mN 43 9,iN 44 (.bin .sub (.t 43) (cI 1)),aN 45 2 42 44,iR 46 (oG 2 45),mN 47 0,mN 48 9,aN 49 2 47 48,iR 50 (oG 2 49),aN 51 2 37 38,sW 2 51 46,aN 52 2 39 41,sW 2 52 50])) (.reg [mA 35 9,bC 36 .sub 35 1,mA 9 36]))))))) (.reg [mA 15 8,bC 16 .add 15 1,mA 8 16]))))))⟩
theorem qxk:qh Tryz.prog {} Tryz.f153=some e153:=by kernel_rfl
abbrev qLt:=qr [iA 2 (.mov (cB false))] (qr [mA 3 0,mA 4 0,bA 5 .neq 3 4,mA 2 5] .ret)
abbrev qYb:EF:=⟨6,1,[(.inl 2)],qLt⟩
theorem qxC:qh Tryz.prog {} Tryz.f161=some qYb:=by kernel_rfl
abbrev qwh:=qr [iA 4 (.mov (cI 0))] (.seq (qr [mA 6 0,zA 7 6,iA 8 (.mov (cI 0))] (.block 0 (.loop (qr [bA 9 .lss 8 7] (.seq (cd 9 .skip (.exit 0)) (.seq (.block 1 (qr [mA 10 8,mA 5 10] (qr [mA 11 1,mA 12 0,mA 13 5,aA 14 1 12 13,lA 15 1 14,bA 16 .eql 11 15] (cd 16 (qr [mA 17 5,mA 4 17] .ret) .skip)))) (.reg [bC 18 .add 8 1,mA 8 18]))))))) (qr [iA 4 (.mov (cI (-1)))] .ret))
abbrev qYd:EF:=⟨19,2,[(.inl 4)],qwh⟩
theorem qwI:qh Tryz.prog {} Tryz.f162=some qYd:=by kernel_rfl
abbrev qDQ:=qr [iA 2 (.mov (.c (.sl 1 true [])))] (.seq (qr [mA 3 0,iA 4 (.eqnil false (.t 3))] (cd 4 (qr [iA 2 (.mov (.c (.sl 1 true [])))] .ret) .skip)) (qr [iA 5 (.lit false 1 false (.int .i64 0) 0 []),mA 6 0,iA 7 (.append true 1 8 (.t 5) (.t 6)),mA 2 7] .ret))
abbrev qX9:EF:=⟨8,1,[(.inl 2)],qDQ⟩
theorem qtG:qh Tryz.prog {mu:=fun t=>[7].contains t} Tryz.f163=some qX9:=by kernel_rfl
abbrev qNL:=qr [iA 2 (.mov (.c (.int .u8 110))),iA 3 (.mov (cB true))] .ret
abbrev qCS:=qr [iA 2 (.mov (.c (.int .u8 116))),iA 3 (.mov (cB true))] .ret
abbrev qp2:=qr [iA 2 (.mov (.c (.int .u8 114))),iA 3 (.mov (cB true))] .ret
abbrev qtN:=cd 11 .skip (.reg [iA 13 (.bin .eql (.t 4) (.c (.int .u8 39))),mA 11 13])
abbrev qp5:=qr [iA 12 (.bin .eql (.t 4) (.c (.int .u8 92))),mA 11 12] qtN
abbrev qnb:=qr [mA 14 0,mA 2 14,iA 3 (.mov (cB true))] .ret
abbrev qtI:=cd 9 qp2 (.seq qp5 (cd 11 qnb .skip))
abbrev qxr:=qr [iA 10 (.bin .eql (.t 4) (.c (.int .u8 13))),mA 9 10] qtI
abbrev qvQ:=qr [iA 8 (.bin .eql (.t 4) (.c (.int .u8 9))),mA 7 8] (cd 7 qCS qxr)
abbrev qwu:=qr [iA 6 (.bin .eql (.t 4) (.c (.int .u8 10))),mA 5 6] (cd 5 qNL qvQ)
abbrev qrR:=qr [mA 15 0,iA 16 (.bin .geq (.t 15) (.c (.int .u8 32))),mA 17 16,gT 18 17 (oM 0),gT 19 17 (.bin .leq (.t 18) (.c (.int .u8 126))),pA 20 17 19,iA 2 (.mov (.c (.int .u8 0))),mA 3 20] .ret
abbrev qqT:EC:= .seq (qr [mA 4 0] (.block 0 qwu)) qrR
abbrev qeP:=qr [iA 2 (.mov (.c (.int .u8 0))),iA 3 (.mov (cB false))] qqT
abbrev e169:EF:=⟨21,1,[(.inl 2),(.inl 3)],qeP⟩
theorem qeu:qh Tryz.prog {} Tryz.f169=some e169:=by kernel_rfl
abbrev qAQ:=qr [mA 3 0,iA 4 (.bin .geq (.t 3) (.c (.int .u8 97))),mA 5 4,gT 6 5 (oM 0),gT 7 5 (.bin .leq (.t 6) (.c (.int .u8 122))),pA 8 5 7,mA 9 8,gF 10 9 (oM 0),gF 11 9 (.bin .geq (.t 10) (.c (.int .u8 65))),gF 12 9 (oM 11),gT 13 12 (oM 0),gT 14 12 (.bin .leq (.t 13) (.c (.int .u8 90))),gF 15 9 (.pick (.t 12) (.t 14) (cB false)),pO 16 9 15,mA 17 16,gF 18 17 (oM 0),gF 19 17 (.bin .eql (.t 18) (.c (.int .u8 95))),pO 20 17 19,mA 2 20] .ret
abbrev qjQ:=qr [iA 2 (.mov (cB false))] qAQ
abbrev e170:EF:=⟨21,1,[(.inl 2)],qjQ⟩
theorem qeW:qh Tryz.prog {} Tryz.f170=some e170:=by kernel_rfl
abbrev qyh:=qr [mA 3 0,iA 4 (.bin .geq (.t 3) (.c (.int .u8 48))),mA 5 4,gT 6 5 (oM 0),gT 7 5 (.bin .leq (.t 6) (.c (.int .u8 57))),pA 8 5 7,mA 2 8] .ret
abbrev qjA:=qr [iA 2 (.mov (cB false))] qyh
abbrev qY1:EF:=⟨9,1,[(.inl 2)],qjA⟩
theorem qsE:qh Tryz.prog {} Tryz.f171=some qY1:=by kernel_rfl
abbrev qOX:=qr [mA 22 5,mA 23 0,iA 24 (.lenS (.t 23)),bA 25 .lss 22 24,mA 26 25,gT 27 26 (oM 0),gT 28 26 (oM 5),gT 29 26 (.idxS (.t 27) (.t 28)),gT 30 26 (.bin .neq (.t 29) (.c (.int .u8 10))),pA 31 26 30] (cd 31 .skip (.exit 1))
abbrev qCA:=qr [mA 41 5,bC 42 .add 41 1,mA 4 42] .ret
abbrev qwW:=qr [mN 34 0,mN 35 5,iN 36 (.idxS (.t 34) (.t 35)),mN 37 0,mN 38 1,iN 39 (.idxS (.t 37) (.t 38)),iN 40 (.bin .eql (.t 36) (.t 39))] (cd 40 qCA .skip)
abbrev qsA:=cd 58 (qr [iA 4 (.mov (cI (-1)))] .ret) .skip
abbrev qtJ:=qr [mA 49 5,mA 50 0,iA 51 (.lenS (.t 50)),bA 52 .lss 49 51,mA 53 52,gT 54 53 (oM 0),gT 55 53 (oM 5),gT 56 53 (.idxS (.t 54) (.t 55)),gT 57 53 (.bin .eql (.t 56) (.c (.int .u8 10))),pA 58 53 57] qsA
abbrev qlP:=qr [mA 47 5,bC 48 .add 47 1,mA 5 48] qtJ
abbrev qn2:=qr [mA 43 0,mA 44 5,iA 45 (.idxS (.t 43) (.t 44)),iA 46 (.bin .eql (.t 45) (.c (.int .u8 92)))] (cd 46 qlP .skip)
abbrev qwA:EC:= .seq (.block 2 (.seq qwW qn2)) (.reg [mA 32 5,bC 33 .add 32 1,mA 5 33])
abbrev qqa:=qr [mA 20 1,bC 21 .add 20 1,mA 5 21] (.block 1 (.loop (.seq qOX qwA)))
abbrev qlM:EC:= .seq qqa (qr [iA 4 (.mov (cI (-1)))] .ret)
abbrev qs7:=qr [mA 66 6,mA 67 0,iA 68 (.lenS (.t 67)),bA 69 .lss 66 68] (cd 69 .skip (.exit 3))
abbrev qlF:=qr [mA 76 6,bC 77 .add 76 1,mA 4 77] .ret
abbrev qsm:=qr [mA 72 0,mA 73 6,iA 74 (.idxS (.t 72) (.t 73)),iA 75 (.bin .eql (.t 74) (.c (.int .u8 96)))] (cd 75 qlF .skip)
abbrev qtn:EC:= .seq (.block 4 qsm) (.reg [mA 70 6,bC 71 .add 70 1,mA 6 71])
abbrev qoj:=qr [mA 64 1,bC 65 .add 64 1,mA 6 65] (.block 3 (.loop (.seq qs7 qtn)))
abbrev qxd:EC:= .seq qoj (qr [iA 4 (.mov (cI (-1)))] .ret)
abbrev qr8:=qr [mA 83 7,mA 84 0,iA 85 (.lenS (.t 84)),bA 86 .lss 83 85,mA 87 86,gT 88 87 (oM 0),gT 89 87 (oM 7),gT 90 87 (.idxS (.t 88) (.t 89)),gT 91 87 (.bin .neq (.t 90) (.c (.int .u8 10))),pA 92 87 91] (cd 92 .skip (.exit 5))
abbrev qs8:EC:= .block 6 (.reg [mA 93 7,bC 94 .add 93 1,mA 7 94])
abbrev qvX:EC:= .seq (.block 5 (.loop (.seq qr8 qs8))) (qr [mA 95 7,mA 4 95] .ret)
abbrev qvT:=qr [mA 102 8,mA 103 0,iA 104 (.lenS (.t 103)),bA 105 .lss 102 104] (cd 105 .skip (.exit 7))
abbrev qm7:=qr [mA 111 8,bC 112 .add 111 2,mA 4 112] .ret
abbrev qrX:=qr [mA 108 0,mA 109 8,iA 110 (cl 177 [(.t 108),(.t 109),(.c (.str [42,47]))])] (cd 110 qm7 .skip)
abbrev qqx:EC:= .seq (.block 8 qrX) (.reg [mA 106 8,bC 107 .add 106 1,mA 8 107])
abbrev qwq:=qr [mA 100 1,bC 101 .add 100 2,mA 8 101] (.block 7 (.loop (.seq qvT qqx)))
abbrev qvz:EC:= .seq qwq (qr [iA 4 (.mov (cI (-1)))] .ret)
abbrev qlw:=qr [mA 97 0,mA 98 1,iA 99 (cl 177 [(.t 97),(.t 98),(.c (.str [47,42]))]),mA 96 99] (cd 96 qvz .skip)
abbrev qnT:=cd 78 (qr [mA 82 1,mA 7 82] qvX) qlw
abbrev qri:=qr [mA 79 0,mA 80 1,iA 81 (cl 177 [(.t 79),(.t 80),(.c (.str [47,47]))]),mA 78 81] qnT
abbrev qrG:=qr [mA 60 0,mA 61 1,iA 62 (.idxS (.t 60) (.t 61)),iA 63 (.bin .eql (.t 62) (.c (.int .u8 96))),mA 59 63] (cd 59 qxd qri)
abbrev qxE:=qr [mA 10 0,mA 11 1,iA 12 (.idxS (.t 10) (.t 11)),iA 13 (.bin .eql (.t 12) (.c (.int .u8 34))),mA 14 13,gF 15 14 (oM 0),gF 16 14 (oM 1),gF 17 14 (.idxS (.t 15) (.t 16)),gF 18 14 (.bin .eql (.t 17) (.c (.int .u8 39))),pO 19 14 18,mA 9 19] (cd 9 qlM qrG)
abbrev qqZ:EC:= .seq (.block 0 qxE) (qr [mA 113 1,mA 4 113] .ret)
abbrev qfd:=qr [iA 4 (.mov (cI 0))] qqZ
abbrev qZk:EF:=⟨114,2,[(.inl 4)],qfd⟩
theorem qxf:qh Tryz.prog {} Tryz.f172=some qZk:=by kernel_rfl
abbrev qFl:=qr [mA 7 0,iA 8 (.lenS (.t 7)),mA 9 1,bA 10 .sub 8 9,mA 11 2,iA 12 (.lenS (.t 11)),bA 13 .geq 10 12,mA 14 13,gT 15 14 (oM 0),gT 16 14 (oM 1),gT 17 14 (oM 1),gT 18 14 (oM 2),gT 19 14 (.lenS (.t 18)),gT 20 14 (.bin .add (.t 17) (.t 19)),gT 21 14 (.slcS (.t 15) (some (.t 16)) (some (.t 20))),gT 22 14 (oM 2),gT 23 14 (.bin .eql (.t 21) (.t 22)),pA 24 14 23,mA 6 24] .ret
abbrev qjK:=qr [iA 6 (.mov (cB false))] qFl
abbrev qZe:EF:=⟨25,3,[(.inl 6)],qjK⟩
theorem qtZ:qh Tryz.prog {} Tryz.f177=some qZe:=by kernel_rfl
end Go.Proofs
