import Derived.Test.YtkcegflhobejmaaGreatDoorXEC
import Derived.Test.YtkcegflhobejmaaGreatDoorProg
import Derived.KernelRfl
import Derived.Lib.TrailingZeros
namespace Go.Proofs
open Go.E
theorem nm_{p:Prop}(h:p:=by kernel_rfl):p:=h
instance:Glob Tryz.prog where
 G:=λg=>if g=0 then .iptr 64 (.agg (Lib.deBruijn64tab.map λ(n:Nat)=>V.int .u8 (n:Int))) 0 else .iptr 0 (.agg []) 0

set_option linter.all false
set_option maxRecDepth 100000
set_option maxHeartbeats 4000000
abbrev zz:List V:=List.replicate 625 (.int .i64 0)
abbrev iA(d:Nat)(o:EOp):Ins:=⟨some d,none,o,.any⟩
abbrev iN(d:Nat)(o:EOp):Ins:=⟨some d,none,o,.n⟩
abbrev iR(d:Nat)(o:EOp):Ins:=⟨some d,none,o,.r⟩
abbrev cI(n:Int):Opd:= .c (.int .i64 n)
abbrev cB(b:Bool):Opd:= .c (.bool b)
abbrev gT(d g:Nat)(o:EOp):Ins:=⟨some d,some (g,true),o,.any⟩
abbrev oM(s:Nat):EOp:= .mov (.t s)
abbrev oL(n s:Nat):EOp:= .load false n (.t s)
abbrev oG(n s:Nat):EOp:= .load true n (.t s)
abbrev oF(n s:Nat):EOp:= .faddr n (.t s)
abbrev mA(d s:Nat):Ins:=iA d (.mov (.t s))
abbrev mN(d s:Nat):Ins:=iN d (.mov (.t s))
abbrev lA(d n s:Nat):Ins:=iA d (.load false n (.t s))
abbrev lR(d n s:Nat):Ins:=iR d (.load false n (.t s))
abbrev lG(d n s:Nat):Ins:=iA d (.load true n (.t s))
abbrev fA(d n s:Nat):Ins:=iA d (.faddr n (.t s))
abbrev fN(d n s:Nat):Ins:=iN d (.faddr n (.t s))
abbrev nA(d s:Nat):Ins:=iA d (.nilck (.t s))
abbrev nN(d s:Nat):Ins:=iN d (.nilck (.t s))
abbrev zA(d s:Nat):Ins:=iA d (.len (.t s))
abbrev sA(n p x:Nat):Ins:=⟨none,none,.store n (.t p) (.t x),.any⟩
abbrev sW(n p x:Nat):Ins:=⟨none,none,.store n (.t p) (.t x),.w⟩
abbrev bA(d:Nat)(o:BinOp)(x y:Nat):Ins:=iA d (.bin o (.t x) (.t y))
abbrev bC(d:Nat)(o:BinOp)(x:Nat)(y:Int):Ins:=iA d (.bin o (.t x) (.c (.int .i64 y)))
abbrev aA(d z x y:Nat):Ins:=iA d (.iaddr z (.t x) (.t y))
abbrev aN(d z x y:Nat):Ins:=iN d (.iaddr z (.t x) (.t y))
abbrev pA(d x y:Nat):Ins:=iA d (.pick (.t x) (.t y) (.c (.bool false)))
abbrev cl(f:Nat)(l:List Opd):EOp:= .call (.c (.fn f [])) l
abbrev qr(l:List Ins)(b:EC):EC:= .seq (.reg l) b
abbrev cd(c:Nat)(a b:EC):EC:= .cond (.t c) a b
theorem dI(n:Nat):Int.ofNat n=(n:Int):=rfl
theorem dJ(n:Nat):Int.negSucc n= -((n+1:Nat):Int):=rfl
theorem dU(n:Nat)(h:n<256):UInt8.ofBitVec (BitVec.ofFin ⟨n,h⟩)=UInt8.ofNat n:=by apply UInt8.toNat_inj.1;rw[UInt8.toNat_ofNat_of_lt' (by simpa using h)];rfl
abbrev dC{α:Type}(x:Option α){y:α}(h:x=some y:=by conv=>(lhs;reduce;try simp only[dI,dJ,dU,Int.cast_ofNat_Int,Nat.reduceAdd,UInt8.reduceOfNat])):α:=y
abbrev dK{α:Type}(x:Option α){y:α}(h:x=some y:=by conv=>(lhs;reduce;try simp only[dI,dJ,dU,Int.cast_ofNat_Int,Nat.reduceAdd,UInt8.reduceOfNat])):α:=y
def ndL:EC->List EC
 |.reg l=>[.reg l]
 |.seq a b=>ndL a++(ndL b++[.seq a b])
 |.cond c a b=>ndL a++(ndL b++[.cond c a b])
 |.block i a=>ndL a++[.block i a]
 |.loop a=>ndL a++[.loop a]
 | _=>[]
abbrev dN(e:EF)(i:Nat):Option EC:=(ndL e.body)[i]?
def ndR:EC->List Ins
 |.reg l=>l
 | _=>[]
abbrev dR(e:EF)(i:Nat):Option (List Ins):=((ndL e.body)[i]?).map ndR
abbrev e9:EF:=dC (qc Tryz.prog {} Tryz.f9)
abbrev qyO:EC:=dK (dN e9 27)
theorem qyg:qc Tryz.prog {} Tryz.f9=some e9:=nm_
abbrev e10:EF:=dC (qc Tryz.prog {} Tryz.f10)
abbrev qsi:EC:=dK (dN e10 11)
theorem quK:qc Tryz.prog {} Tryz.f10=some e10:=nm_
abbrev e11:EF:=dC (qc Tryz.prog {} Tryz.f11)
abbrev qxM:List Ins:=dK (dR e11 0)
abbrev qx2:List Ins:=dK (dR e11 1)
abbrev qxP:EC:=dK (dN e11 5)
abbrev qyf:List Ins:=dK (dR e11 6)
abbrev qji:EC:=dK (dN e11 18)
abbrev qw2:List Ins:=dK (dR e11 19)
abbrev qtZ:List Ins:=dK (dR e11 23)
abbrev qi4:EC:=dK (dN e11 28)
abbrev qwc:EC:=dK (dN e11 32)
abbrev qu0:List Ins:=dK (dR e11 33)
abbrev qwS:EC:=dK (dN e11 37)
abbrev qtV:List Ins:=dK (dR e11 38)
abbrev qgv:EC:=dK (dN e11 52)
abbrev qrE:List Ins:=dK (dR e11 53)
abbrev qww:List Ins:=dK (dR e11 57)
abbrev qgX:EC:=dK (dN e11 62)
abbrev qrY:List Ins:=dK (dR e11 63)
abbrev qvz:List Ins:=dK (dR e11 67)
abbrev qhY:EC:=dK (dN e11 72)
abbrev qtK:List Ins:=dK (dR e11 73)
abbrev qxg:EC:=dK (dN e11 78)
theorem qvR:qc Tryz.prog {} Tryz.f11=some e11:=nm_
abbrev e13:EF:=dC (qc Tryz.prog {} Tryz.f13)
abbrev qvK:EC:=dK (dN e13 13)
theorem qri:qc Tryz.prog {} Tryz.f13=some e13:=nm_
abbrev e15:EF:=dC (qc Tryz.prog {} Tryz.f15)
abbrev quC:EC:=dK (dN e15 36)
theorem qv2:qc Tryz.prog {} Tryz.f15=some e15:=nm_
abbrev e17:EF:=dC (qc Tryz.prog {} Tryz.f17)
abbrev qqX:EC:=dK (dN e17 26)
theorem qwq:qc Tryz.prog {} Tryz.f17=some e17:=nm_
abbrev e18:EF:=dC (qc Tryz.prog {} Tryz.f18)
abbrev qyF:EC:=dK (dN e18 5)
theorem qvS:qc Tryz.prog {} Tryz.f18=some e18:=nm_
abbrev e20:EF:=dC (qc Tryz.prog {} Tryz.f20)
abbrev qyv:EC:=dK (dN e20 5)
theorem qvy:qc Tryz.prog {} Tryz.f20=some e20:=nm_
abbrev e22:EF:=dC (qc Tryz.prog {} Tryz.f22)
abbrev qyH:EC:=dK (dN e22 3)
theorem qs0:qc Tryz.prog {} Tryz.f22=some e22:=nm_
abbrev e24:EF:=dC (qc Tryz.prog {} Tryz.f24)
abbrev qvu:EC:=dK (dN e24 10)
theorem qwk:qc Tryz.prog {} Tryz.f24=some e24:=nm_
abbrev e25:EF:=dC (qc Tryz.prog {} Tryz.f25)
abbrev qrQ:EC:=dK (dN e25 26)
theorem qtG:qc Tryz.prog {} Tryz.f25=some e25:=nm_
abbrev e26:EF:=dC (qc Tryz.prog {mu:=λt=>[].contains t,cl:=λr i=>([(1,5,Cls.b)].find? λx=>x.1 == r && x.2.1 == i).map (·.2.2)} Tryz.f26)
abbrev qyx:EC:=dK (dN e26 3)
theorem qun:qc Tryz.prog {mu:=λt=>[].contains t,cl:=λr i=>([(1,5,Cls.b)].find? λx=>x.1 == r && x.2.1 == i).map (·.2.2)} Tryz.f26=some e26:=nm_
abbrev e28:EF:=dC (qc Tryz.prog {} Tryz.f28)
abbrev qzc:EC:=dK (dN e28 3)
theorem qvs:qc Tryz.prog {} Tryz.f28=some e28:=nm_
abbrev e31:EF:=dC (qc Tryz.prog {mu:=λt=>[].contains t,cl:=λr i=>([(11,3,Cls.b)].find? λx=>x.1 == r && x.2.1 == i).map (·.2.2)} Tryz.f31)
abbrev qsn:EC:=dK (dN e31 54)
theorem qw7:qc Tryz.prog {mu:=λt=>[].contains t,cl:=λr i=>([(11,3,Cls.b)].find? λx=>x.1 == r && x.2.1 == i).map (·.2.2)} Tryz.f31=some e31:=nm_
abbrev e34:EF:=dC (qc Tryz.prog {} Tryz.f34)
abbrev qx8:EC:=dK (dN e34 5)
theorem qss:qc Tryz.prog {} Tryz.f34=some e34:=nm_
abbrev e35:EF:=dC (qc Tryz.prog {mu:=λt=>[15,55].contains t} Tryz.f35)
abbrev qvk:EC:=dK (dN e35 56)
theorem qwz:qc Tryz.prog {mu:=λt=>[15,55].contains t} Tryz.f35=some e35:=nm_
abbrev e36:EF:=dC (qc Tryz.prog {mu:=λt=>[25,99].contains t,cl:=λr i=>([(3,1,Cls.w)].find? λx=>x.1 == r && x.2.1 == i).map (·.2.2)} Tryz.f36)
abbrev qth:List Ins:=dK (dR e36 13)
abbrev qw0:EC:=dK (dN e36 14)
abbrev qum:List Ins:=dK (dR e36 15)
abbrev qre:EC:=dK (dN e36 19)
abbrev qja:EC:=dK (dN e36 36)
abbrev qtN:List Ins:=dK (dR e36 40)
abbrev qwg:EC:=dK (dN e36 79)
theorem qud:qc Tryz.prog {mu:=λt=>[25,99].contains t,cl:=λr i=>([(3,1,Cls.w)].find? λx=>x.1 == r && x.2.1 == i).map (·.2.2)} Tryz.f36=some e36:=nm_
abbrev e37:EF:=dC (qc Tryz.prog {} Tryz.f37)
abbrev qtO:EC:=dK (dN e37 22)
theorem qwb:qc Tryz.prog {} Tryz.f37=some e37:=nm_
abbrev e38:EF:=dC (qc Tryz.prog {} Tryz.f38)
abbrev qrC:EC:=dK (dN e38 20)
theorem qwN:qc Tryz.prog {} Tryz.f38=some e38:=nm_
abbrev e40:EF:=dC (qc Tryz.prog {mu:=λt=>[].contains t,cl:=λr i=>([(6,0,Cls.l 8),(6,4,Cls.l 20),(6,6,Cls.s 8),(5,2,Cls.w)].find? λx=>x.1 == r && x.2.1 == i).map (·.2.2)} Tryz.f40)
abbrev qsh:EC:=dK (dN e40 15)
theorem qsL:qc Tryz.prog {mu:=λt=>[].contains t,cl:=λr i=>([(6,0,Cls.l 8),(6,4,Cls.l 20),(6,6,Cls.s 8),(5,2,Cls.w)].find? λx=>x.1 == r && x.2.1 == i).map (·.2.2)} Tryz.f40=some e40:=nm_
abbrev e41:EF:=dC (qc Tryz.prog {} Tryz.f41)
abbrev qyI:EC:=dK (dN e41 9)
theorem qup:qc Tryz.prog {} Tryz.f41=some e41:=nm_
abbrev e42:EF:=dC (qc Tryz.prog {} Tryz.f42)
abbrev qsI:EC:=dK (dN e42 18)
theorem qq5:qc Tryz.prog {} Tryz.f42=some e42:=nm_
abbrev e43:EF:=dC (qc Tryz.prog {} Tryz.f43)
abbrev qlx:EC:=dK (dN e43 58)
theorem ql3:qc Tryz.prog {} Tryz.f43=some e43:=nm_
abbrev e44:EF:=dC (qc Tryz.prog {} Tryz.f44)
abbrev qyi:EC:=dK (dN e44 9)
theorem qvU:qc Tryz.prog {} Tryz.f44=some e44:=nm_
abbrev e45:EF:=dC (qc Tryz.prog {} Tryz.f45)
abbrev qxN:EC:=dK (dN e45 3)
theorem qxm:qc Tryz.prog {} Tryz.f45=some e45:=nm_
abbrev e50:EF:=dC (qc Tryz.prog {mu:=λt=>[17,87].contains t} Tryz.f50)
abbrev qq9:EC:=dK (dN e50 74)
theorem qus:qc Tryz.prog {mu:=λt=>[17,87].contains t} Tryz.f50=some e50:=nm_
abbrev qx3:=qr [mA 24 22,aA 25 2 20 22,lG 26 2 25,iA 7 (.alloc 2 (.agg [(.int .i64 0),(.int .i64 0)])),mA 6 24,sA 2 7 26] (.reg [mN 27 5,nN 28 27,fN 29 7 28,lR 30 1 29,iR 31 (oG 2 7),mN 32 6,⟨none,none,.mset (.t 30) (.t 31) (.t 32),.w⟩])
abbrev qtU:EC:= .seq (.block 1 qx3) (.reg [bC 33 .add 22 1,mA 22 33])
abbrev qxu:=qr [bA 23 .lss 22 21] (.seq (cd 23 .skip (.exit 0)) qtU)
abbrev qru:=qr [mA 17 5,nA 18 17,fA 19 6 18,lA 20 1 19,zA 21 20,iA 22 (.mov (cI 0))] (.block 0 (.loop qxu))
abbrev qsy:EC:= .seq qru (qr [mA 34 5,mA 4 34] .ret)
abbrev qv5:=qr [iR 8 (oG 5 2),mN 9 1,mN 10 1,iR 11 (cl 15 [.t 10]),⟨(some 12),none,.mkmap,.a⟩,iR 13 (oG 5 2),iR 14 (cl 88 [.t 13]),iN 15 (.build [(.sl 6 true []),(.sl 2 true []),(.sl 6 true []),(.str []),(.str []),(.sl 2 true []),(.sl 2 true []),.nilmap,(.sl 1 true [])] [(0,5,(.t 8)),(5,1,(.t 9)),(6,1,(.t 11)),(7,1,(.t 12)),(8,1,(.t 14))]),⟨(some 16),none,.box 9 (.t 15),.a⟩,mN 5 16] qsy
abbrev ql0:=qr [iA 2 (.box 5 (.t 0)),iA 4 (.mov (.c .nilp))] qv5
abbrev e51:EF:=⟨35,2,[(.inl 4)],ql0⟩
theorem quI:qc Tryz.prog {} Tryz.f51=some e51:=nm_
abbrev e52:EF:=dC (qc Tryz.prog {mu:=λt=>[14].contains t} Tryz.f52)
abbrev quM:EC:=dK (dN e52 24)
theorem qxf:qc Tryz.prog {mu:=λt=>[14].contains t} Tryz.f52=some e52:=nm_
abbrev qyK:=cd 21 (.reg [mA 22 5,iA 23 (.lit false 1 false (.int .i64 0) 1 [(0,(cI 0))]),iA 24 (.append true 1 8 (.t 22) (.t 23)),mA 5 24]) .skip
abbrev qyp:=qr [fA 18 0 6,lA 19 1 18,iA 20 (.build [(.int .i64 0),(.int .i64 0)] [(0,1,(cI 0)),(1,1,(cI 1))]),iA 21 (cl 92 [(.t 19),(.t 20)])] qyK
abbrev qwC:=cd 34 (.reg [mA 35 5,fA 36 0 8,lA 37 1 36,iA 38 (.lit false 1 false (.int .i64 0) 1 [(0,(.t 37))]),iA 39 (.append true 1 8 (.t 35) (.t 38)),mA 5 39]) .skip
abbrev qvE:=qr [fA 32 0 8,lA 33 1 32,bC 34 .lss 33 1000] qwC
abbrev qu8:=qr [aA 30 2 26 28,lG 31 2 30,iA 8 (.alloc 2 (.agg [(.int .i64 0),(.int .i64 0)])),sA 2 8 31] qvE
abbrev qt3:EC:= .seq (.block 1 qu8) (.reg [bC 40 .add 28 1,mA 28 40])
abbrev qvZ:=qr [bA 29 .lss 28 27] (.seq (cd 29 .skip (.exit 0)) qt3)
abbrev qsw:=qr [fA 25 1 6,lA 26 1 25,zA 27 26,iA 28 (.mov (cI 0))] (.block 0 (.loop qvZ))
abbrev qgz:EC:= .seq qsw (qr [mA 41 5,mA 4 41] .ret)
abbrev qlJ:EC:= .seq qyp qgz
abbrev qlT:=qr [mN 9 0,nN 10 9,fN 11 5 10,lR 12 1 11,mN 13 0,iR 14 (oG 2 3),⟨(some 15),none,.call (.c (.fn 91 [])) [(.t 13),(.t 14)],.b⟩,aN 16 2 12 15,iR 17 (oG 2 16),⟨(some 6),none,.alloc 2 (.agg [(.sl 2 true []),(.sl 2 true [])]),.a⟩,sW 2 6 17] qlJ
abbrev qlB:=qr [iA 5 (.mov (.c (.sl 1 true [])))] qlT
abbrev qjz:=qr [iA 3 (.box 2 (.t 1)),iA 4 (.mov (.c (.sl 1 true [])))] qlB
abbrev e53:EF:=⟨42,2,[(.inl 4)],qjz⟩
theorem qv8:qc Tryz.prog {mu:=λt=>[24,39].contains t,cl:=λr i=>([(2,6,Cls.b)].find? λx=>x.1 == r && x.2.1 == i).map (·.2.2)} Tryz.f53=some e53:=nm_
abbrev qxY:=cd 38 (.reg [mN 39 5,mN 40 0,nN 41 40,fN 42 7 41,lR 43 1 42,mN 44 6,fN 45 0 8,lR 46 1 45,iN 47 (.build [(.int .i64 0),(.int .i64 0)] [(0,1,(.t 44)),(1,1,(.t 46))]),iN 48 (.mget false (.t 43) (.t 47)),iN 49 (.lit false 1 false (.int .i64 0) 1 [(0,(.t 48))]),⟨(some 50),none,.append true 1 8 (.t 39) (.t 49),.w⟩,mN 5 50]) .skip
abbrev qvb:=qr [fN 25 0 8,lR 26 1 25,iN 27 (.bin .geq (.t 26) (cI 1000)),mN 28 27,⟨(some 29),(some (28,true)),.mov (.t 0),.n⟩,⟨(some 30),(some (28,true)),.nilck (.t 29),.n⟩,⟨(some 31),(some (28,true)),.faddr 8 (.t 30),.n⟩,⟨(some 32),(some (28,true)),.load false 1 (.t 31),.r⟩,⟨(some 33),(some (28,true)),.faddr 0 (.t 8),.n⟩,⟨(some 34),(some (28,true)),.load false 1 (.t 33),.r⟩,⟨(some 35),(some (28,true)),.bin .sub (.t 34) (cI 1000),.n⟩,⟨(some 36),(some (28,true)),.iaddr 1 (.t 32) (.t 35),.n⟩,⟨(some 37),(some (28,true)),.load false 1 (.t 36),.r⟩,iN 38 (.pick (.t 28) (.t 37) (cB false))] qxY
abbrev quu:=qr [aA 23 2 19 21,lG 24 2 23,iA 8 (.alloc 2 (.agg [(.int .i64 0),(.int .i64 0)])),sA 2 8 24] qvb
abbrev quZ:EC:= .seq (.block 1 quu) (.reg [bC 51 .add 21 1,mA 21 51])
abbrev qvx:=qr [bA 22 .lss 21 20] (.seq (cd 22 .skip (.exit 0)) quZ)
abbrev qvM:=qr [mA 12 0,nA 13 12,fA 14 5 13,lA 15 1 14,mA 16 6,aA 17 2 15 16,fA 18 1 17,lA 19 1 18,zA 20 19,iA 21 (.mov (cI 0))] (.block 0 (.loop qvx))
abbrev qtT:EC:= .seq qvM (qr [mA 52 5,mA 4 52] .ret)
abbrev qvP:=qr [mA 9 0,lG 10 2 3,iA 11 (cl 91 [(.t 9),(.t 10)]),mA 6 11] qtT
abbrev qrl:=qr [iA 5 (.mov (.c (.sl 1 true [])))] qvP
abbrev qlU:=qr [iA 3 (.box 2 (.t 1)),iA 4 (.mov (.c (.sl 1 true [])))] qrl
abbrev e56:EF:=⟨53,2,[(.inl 4)],qlU⟩
theorem qwd:qc Tryz.prog {mu:=λt=>[50].contains t,cl:=λr i=>([(7,11,Cls.w),(2,2,Cls.b)].find? λx=>x.1 == r && x.2.1 == i).map (·.2.2)} Tryz.f56=some e56:=nm_
abbrev qul:=qr [fA 40 0 7,lA 41 1 40,iA 42 (.bin .add (cI 1000) (.t 41)),fA 43 1 5,lA 44 1 43,bA 45 .neq 42 44] (cd 45 (.exit 3) .skip)
abbrev qxe:=cd 76 (.reg [mA 77 3,mA 78 11,mA 79 3,mA 80 11,aA 81 1 79 80,lA 82 1 81,mA 83 4,iA 84 (.lit false 1 false (.int .i64 0) 1 [(0,(.t 83))]),iA 85 (.append true 1 8 (.t 82) (.t 84)),aA 86 1 77 78,sA 1 86 85]) .skip
abbrev qtf:=qr [mA 67 12,mA 68 67,gT 69 68 (oM 0),gT 70 68 (oF 1 7),gT 71 68 (oL 1 70),gT 72 68 (oM 9),gT 73 68 (.bin .add (.t 72) (cI 1)),gT 74 68 (.slc 1 (.t 71) (some (.t 73)) none none),gT 75 68 (cl 93 [(.t 69),(.t 74)]),pA 76 68 75] qxe
abbrev qsH:=qr [mA 57 0,nA 58 57,fA 59 7 58,lA 60 1 59,mA 61 8,mA 62 10,iA 63 (.build [(.int .i64 0),(.int .i64 0)] [(0,1,(.t 61)),(1,1,(.t 62))]),iA 64 (.mget true (.t 60) (.t 63)),mA 56 64,iA 65 (.ext (.t 56) 0),iA 66 (.ext (.t 56) 1),mA 11 65,mA 12 66] qtf
abbrev qwF:EC:= .seq qsH (.reg [mA 87 0,nA 88 87,fA 89 5 88,lA 90 1 89,mA 91 8,mA 92 10,iA 93 (cl 94 [(.t 90),(.t 91),(.t 92)]),mA 8 93])
abbrev qr6:=qr [mA 53 51,aA 54 1 49 51,lA 55 1 54,mA 9 53,mA 10 55] qwF
abbrev qxv:EC:= .seq (.block 5 qr6) (.reg [bC 94 .add 51 1,mA 51 94])
abbrev qq7:=qr [bA 52 .lss 51 50] (.seq (cd 52 .skip (.exit 4)) qxv)
abbrev qry:=qr [fA 48 1 7,lA 49 1 48,zA 50 49,iA 51 (.mov (cI 0))] (.block 4 (.loop qq7))
abbrev qwh:=qr [fA 46 0 5,lA 47 1 46,mA 8 47] qry
abbrev qt2:=qr [aA 38 6 34 36,lG 39 6 38,iA 7 (.alloc 6 (.agg [(.int .i64 0),(.sl 1 true []),(.int .i64 0),(.str []),(.sl 1 true []),(.int .i64 0)])),sA 6 7 39] (.seq qul qwh)
abbrev qrn:EC:= .seq (.block 3 qt2) (.reg [bC 95 .add 36 1,mA 36 95])
abbrev qrs:=qr [bA 37 .lss 36 35] (.seq (cd 37 .skip (.exit 2)) qrn)
abbrev qv3:=qr [mA 30 0,nA 31 30,fA 32 0 31,fA 33 2 32,lA 34 1 33,zA 35 34,iA 36 (.mov (cI 0))] (.block 2 (.loop qrs))
abbrev qwU:=qr [mA 27 25,aA 28 2 23 25,lG 29 2 28,iA 5 (.alloc 2 (.agg [(.int .i64 0),(.int .i64 0)])),mA 4 27,sA 2 5 29] qv3
abbrev qsv:EC:= .seq (.block 1 qwU) (.reg [bC 96 .add 25 1,mA 25 96])
abbrev qrV:=qr [bA 26 .lss 25 24] (.seq (cd 26 .skip (.exit 0)) qsv)
abbrev qtg:=qr [mA 20 0,nA 21 20,fA 22 6 21,lA 23 1 22,zA 24 23,iA 25 (.mov (cI 0))] (.block 0 (.loop qrV))
abbrev qvF:=qr [mA 102 3,mA 103 13,aA 104 1 102 103,lA 105 1 104,iA 106 (cl 89 [.t 105])] (.reg [mA 107 3,mA 108 13,mA 109 3,mA 110 13,aA 111 1 109 110,lA 112 1 111,iA 113 (cl 90 [.t 112]),aA 114 1 107 108,sA 1 114 113])
abbrev qw3:EC:= .block 7 (qr [mA 101 99,mA 13 101] qvF)
abbrev qsR:EC:= .seq qw3 (.reg [bC 115 .add 99 1,mA 99 115])
abbrev quj:=qr [bA 100 .lss 99 98] (.seq (cd 100 .skip (.exit 6)) qsR)
abbrev qxA:=qr [mA 97 3,zA 98 97,iA 99 (.mov (cI 0))] (.block 6 (.loop quj))
abbrev qwA:EC:= .seq qxA (qr [mA 116 3,mA 2 116] .ret)
abbrev qvJ:=qr [mA 14 0,nA 15 14,fA 16 6 15,lA 17 1 16,zA 18 17,iA 19 (.mksl true 1 24 (.sl 1 true []) (.t 18) (.t 18)),mA 3 19] (.seq qtg qwA)
abbrev qlH:=qr [iA 2 (.mov (.c (.sl 1 true [])))] qvJ
abbrev e59:EF:=⟨117,1,[(.inl 2)],qlH⟩
theorem qtq:qc Tryz.prog {mu:=λt=>[19,85].contains t} Tryz.f59=some e59:=nm_
abbrev e62:EF:=dC (qc Tryz.prog {} Tryz.f62)
abbrev quO:EC:=dK (dN e62 29)
theorem quL:qc Tryz.prog {} Tryz.f62=some e62:=nm_
abbrev e63:EF:=dC (qc Tryz.prog {} Tryz.f63)
abbrev qyU:EC:=dK (dN e63 3)
theorem qq1:qc Tryz.prog {} Tryz.f63=some e63:=nm_
abbrev e65:EF:=dC (qc Tryz.prog {} Tryz.f65)
abbrev quV:EC:=dK (dN e65 23)
theorem qrj:qc Tryz.prog {} Tryz.f65=some e65:=nm_
abbrev e66:EF:=dC (qc Tryz.prog {} Tryz.f66)
abbrev qua:EC:=dK (dN e66 18)
theorem qsV:qc Tryz.prog {} Tryz.f66=some e66:=nm_
abbrev e67:EF:=dC (qc Tryz.prog {} Tryz.f67)
abbrev qs5:EC:=dK (dN e67 23)
theorem qtI:qc Tryz.prog {} Tryz.f67=some e67:=nm_
abbrev e68:EF:=dC (qc Tryz.prog {} Tryz.f68)
abbrev qwL:EC:=dK (dN e68 29)
theorem qt0:qc Tryz.prog {} Tryz.f68=some e68:=nm_
abbrev e70:EF:=dC (qc Tryz.prog {mu:=λt=>[30,37].contains t,cl:=λr i=>([(48,4,Cls.l 26),(48,8,Cls.l 26),(48,12,Cls.l 26),(48,13,Cls.s 10),(76,3,Cls.l 9),(76,5,Cls.l 9),(76,9,Cls.s 26),(76,13,Cls.s 26),(16,7,Cls.w),(18,13,Cls.w),(24,4,Cls.b),(25,5,Cls.w),(26,3,Cls.b),(35,11,Cls.b),(36,5,Cls.w),(39,3,Cls.b),(46,16,Cls.w),(54,3,Cls.b)].find? λx=>x.1 == r && x.2.1 == i).map (·.2.2)} Tryz.f70)
abbrev qxR:List Ins:=dK (dR e70 0)
abbrev qxL:EC:=dK (dN e70 5)
abbrev qxQ:List Ins:=dK (dR e70 6)
abbrev qyE:List Ins:=dK (dR e70 7)
abbrev qx1:List Ins:=dK (dR e70 8)
abbrev qwe:EC:=dK (dN e70 12)
abbrev qwV:List Ins:=dK (dR e70 13)
abbrev qs6:EC:=dK (dN e70 17)
abbrev qdT:EC:=dK (dN e70 40)
abbrev qws:List Ins:=dK (dR e70 44)
abbrev qe1:EC:=dK (dN e70 49)
abbrev qsB:EC:=dK (dN e70 53)
abbrev quY:List Ins:=dK (dR e70 54)
abbrev quS:EC:=dK (dN e70 58)
abbrev qej:EC:=dK (dN e70 62)
abbrev qwD:List Ins:=dK (dR e70 66)
abbrev qe6:EC:=dK (dN e70 71)
abbrev qva:EC:=dK (dN e70 75)
abbrev qdZ:EC:=dK (dN e70 92)
abbrev qwt:List Ins:=dK (dR e70 94)
abbrev qfj:EC:=dK (dN e70 99)
abbrev qaU:EC:=dK (dN e70 103)
abbrev qbi:List Ins:=dK (dR e70 104)
abbrev qm4:EC:=dK (dN e70 108)
abbrev qai:EC:=dK (dN e70 120)
abbrev qnu:List Ins:=dK (dR e70 122)
abbrev qaD:EC:=dK (dN e70 127)
abbrev Yw:EC:=dK (dN e70 132)
abbrev Yo:List Ins:=dK (dR e70 133)
abbrev QE:EC:=dK (dN e70 154)
abbrev QR:EC:=dK (dN e70 166)
abbrev Zz:List Ins:=dK (dR e70 167)
abbrev vF:EC:=dK (dN e70 184)
abbrev vI:List Ins:=dK (dR e70 185)
abbrev xL:EC:=dK (dN e70 197)
abbrev Qi:EC:=dK (dN e70 202)
abbrev kX:List Ins:=dK (dR e70 203)
abbrev kZ:List Ins:=dK (dR e70 204)
abbrev qnK:EC:=dK (dN e70 226)
theorem quE:qc Tryz.prog {mu:=λt=>[30,37].contains t,cl:=λr i=>([(48,4,Cls.l 26),(48,8,Cls.l 26),(48,12,Cls.l 26),(48,13,Cls.s 10),(76,3,Cls.l 9),(76,5,Cls.l 9),(76,9,Cls.s 26),(76,13,Cls.s 26),(16,7,Cls.w),(18,13,Cls.w),(24,4,Cls.b),(25,5,Cls.w),(26,3,Cls.b),(35,11,Cls.b),(36,5,Cls.w),(39,3,Cls.b),(46,16,Cls.w),(54,3,Cls.b)].find? λx=>x.1 == r && x.2.1 == i).map (·.2.2)} Tryz.f70=some e70:=nm_
abbrev e71:EF:=dC (qc Tryz.prog {} Tryz.f71)
abbrev qrK:EC:=dK (dN e71 35)
theorem quN:qc Tryz.prog {} Tryz.f71=some e71:=nm_
abbrev e72:EF:=dC (qc Tryz.prog {mu:=λt=>[24,29,72].contains t} Tryz.f72)
abbrev qtX:EC:=dK (dN e72 64)
theorem qtv:qc Tryz.prog {mu:=λt=>[24,29,72].contains t} Tryz.f72=some e72:=nm_
abbrev e73:EF:=dC (qc Tryz.prog {} Tryz.f73)
abbrev qvf:EC:=dK (dN e73 25)
theorem qtH:qc Tryz.prog {} Tryz.f73=some e73:=nm_
abbrev e74:EF:=dC (qc Tryz.prog {} Tryz.f74)
abbrev qy1:EC:=dK (dN e74 9)
theorem qwl:qc Tryz.prog {} Tryz.f74=some e74:=nm_
abbrev e75:EF:=dC (qc Tryz.prog {mu:=λt=>[9,12,15].contains t,cl:=λr i=>([(11,2,Cls.w)].find? λx=>x.1 == r && x.2.1 == i).map (·.2.2)} Tryz.f75)
abbrev qrN:EC:=dK (dN e75 38)
theorem qr4:qc Tryz.prog {mu:=λt=>[9,12,15].contains t,cl:=λr i=>([(11,2,Cls.w)].find? λx=>x.1 == r && x.2.1 == i).map (·.2.2)} Tryz.f75=some e75:=nm_
abbrev e76:EF:=dC (qc Tryz.prog {mu:=λt=>[14,30,32].contains t} Tryz.f76)
abbrev quX:EC:=dK (dN e76 66)
theorem qwu:qc Tryz.prog {mu:=λt=>[14,30,32].contains t} Tryz.f76=some e76:=nm_
abbrev e77:EF:=dC (qc Tryz.prog {mu:=λt=>[14].contains t} Tryz.f77)
abbrev qtc:EC:=dK (dN e77 69)
theorem qwa:qc Tryz.prog {mu:=λt=>[14].contains t} Tryz.f77=some e77:=nm_

abbrev e78:EF:=dC (qc Tryz.prog {mu:=λt=>[].contains t,cl:=λr i=>([(26,1,Cls.l 8),(26,17,Cls.v 8)].find? λx=>x.1 == r && x.2.1 == i).map (·.2.2)} Tryz.f78)
abbrev qyj:List Ins:=dK (dR e78 0)
abbrev qx4:List Ins:=dK (dR e78 1)
abbrev qyb:EC:=dK (dN e78 6)
abbrev qsG:EC:=dK (dN e78 13)
abbrev qxt:List Ins:=dK (dR e78 14)
abbrev qtd:List Ins:=dK (dR e78 15)
abbrev qjA:EC:=dK (dN e78 51)
abbrev qgQ:EC:=dK (dN e78 70)
abbrev qvT:EC:=dK (dN e78 76)
theorem qug:qc Tryz.prog {mu:=λt=>[].contains t,cl:=λr i=>([(26,1,Cls.l 8),(26,17,Cls.v 8)].find? λx=>x.1 == r && x.2.1 == i).map (·.2.2)} Tryz.f78=some e78:=nm_
abbrev e79:EF:=dC (qc Tryz.prog {} Tryz.f79)
abbrev que:EC:=dK (dN e79 20)
theorem qxs:qc Tryz.prog {} Tryz.f79=some e79:=nm_
abbrev e80:EF:=dC (qc Tryz.prog {} Tryz.f80)
abbrev qyd:EC:=dK (dN e80 3)
theorem qw4:qc Tryz.prog {} Tryz.f80=some e80:=nm_
abbrev e81:EF:=dC (qc Tryz.prog {} Tryz.f81)
abbrev qsS:EC:=dK (dN e81 26)
theorem qtB:qc Tryz.prog {} Tryz.f81=some e81:=nm_
abbrev e83:EF:=dC (qc Tryz.prog {} Tryz.f83)
abbrev qw6:EC:=dK (dN e83 31)
theorem qr0:qc Tryz.prog {} Tryz.f83=some e83:=nm_
abbrev e84:EF:=dC (qc Tryz.prog {} Tryz.f84)
abbrev qsa:EC:=dK (dN e84 49)
theorem qsE:qc Tryz.prog {} Tryz.f84=some e84:=nm_
abbrev e85:EF:=dC (qc Tryz.prog {} Tryz.f85)
abbrev qyo:EC:=dK (dN e85 9)
theorem qsm:qc Tryz.prog {} Tryz.f85=some e85:=nm_
abbrev e86:EF:=dC (qc Tryz.prog {} Tryz.f86)
abbrev qu5:EC:=dK (dN e86 25)
theorem qwp:qc Tryz.prog {} Tryz.f86=some e86:=nm_
abbrev e87:EF:=dC (qc Tryz.prog {} Tryz.f87)
abbrev qr1:EC:=dK (dN e87 20)
theorem quB:qc Tryz.prog {} Tryz.f87=some e87:=nm_
abbrev e88:EF:=dC (qc Tryz.prog {} Tryz.f88)
abbrev qy2:EC:=dK (dN e88 3)
theorem qwO:qc Tryz.prog {} Tryz.f88=some e88:=nm_
abbrev e90:EF:=dC (qc Tryz.prog {} Tryz.f90)
abbrev qtP:EC:=dK (dN e90 48)
theorem qrH:qc Tryz.prog {} Tryz.f90=some e90:=nm_
abbrev e91:EF:=dC (qc Tryz.prog {} Tryz.f91)
abbrev qxV:EC:=dK (dN e91 3)
theorem qsO:qc Tryz.prog {} Tryz.f91=some e91:=nm_
abbrev e92:EF:=dC (qc Tryz.prog {} Tryz.f92)
abbrev qzd:EC:=dK (dN e92 3)
theorem quG:qc Tryz.prog {} Tryz.f92=some e92:=nm_
abbrev e93:EF:=dC (qc Tryz.prog {} Tryz.f93)
abbrev qx9:EC:=dK (dN e93 3)
theorem qvt:qc Tryz.prog {} Tryz.f93=some e93:=nm_
abbrev e94:EF:=dC (qc Tryz.prog {} Tryz.f94)
abbrev qu2:EC:=dK (dN e94 22)
theorem qwy:qc Tryz.prog {} Tryz.f94=some e94:=nm_
abbrev e95:EF:=dC (qc Tryz.prog {} Tryz.f95)
abbrev qr3:EC:=dK (dN e95 24)
theorem qs4:qc Tryz.prog {} Tryz.f95=some e95:=nm_
abbrev e96:EF:=dC (qc Tryz.prog {} Tryz.f96)
abbrev qyB:EC:=dK (dN e96 3)
theorem qrG:qc Tryz.prog {} Tryz.f96=some e96:=nm_
abbrev qyR:=cd 4 (qr [iA 2 (.mov (cI 64))] .ret) .skip
abbrev qy8:=qr [mA 3 0,iA 4 (.bin .eql (.t 3) (.c (.int .u64 0)))] qyR
abbrev qyy:=qr [mA 5 0,mA 6 0,iA 7 (.un .neg (.t 6)),bA 8 .and 5 7,iA 9 (.bin .mul (.t 8) (.c (.int .u64 285870213051353865))),iA 10 (.bin .shr (.t 9) (.c (.int .u64 58))),iA 11 (.iaddrA 64 1 (.c (Glob.G Tryz.prog 0)) (.t 10)),lA 12 1 11,iA 13 (.conv .i64 (.t 12)),mA 2 13] .ret
abbrev quU:=qr [iA 2 (.mov (cI 0))] (.seq qy8 qyy)
abbrev e97:EF:=⟨14,1,[(.inl 2)],quU⟩
theorem qub:qc Tryz.prog {} Tryz.f97=some e97:=nm_
abbrev e98:EF:=dC (qc Tryz.prog {} Tryz.f98)
abbrev quy:EC:=dK (dN e98 73)
theorem quA:qc Tryz.prog {} Tryz.f98=some e98:=nm_
abbrev e99:EF:=dC (qc Tryz.prog {mu:=λt=>[].contains t,cl:=λr i=>([(12,5,Cls.l 26),(12,7,Cls.l 8),(12,11,Cls.s 13),(12,14,Cls.s 13),(2,3,Cls.b),(6,5,Cls.w),(7,2,Cls.w),(11,5,Cls.w),(14,15,Cls.b),(15,5,Cls.w),(20,5,Cls.w)].find? λx=>x.1 == r && x.2.1 == i).map (·.2.2)} Tryz.f99)
abbrev qza:List Ins:=dK (dR e99 0)
abbrev qvC:EC:=dK (dN e99 14)
abbrev qxw:List Ins:=dK (dR e99 15)
abbrev qsZ:List Ins:=dK (dR e99 16)
abbrev qeZ:EC:=dK (dN e99 25)
abbrev qsW:List Ins:=dK (dR e99 26)
abbrev qxd:EC:=dK (dN e99 30)
abbrev Kz:EC:=dK (dN e99 33)
abbrev qdR:EC:=dK (dN e99 36)
abbrev qev:EC:=dK (dN e99 45)
abbrev qvi:EC:=dK (dN e99 51)
theorem qvW:qc Tryz.prog {mu:=λt=>[].contains t,cl:=λr i=>([(12,5,Cls.l 26),(12,7,Cls.l 8),(12,11,Cls.s 13),(12,14,Cls.s 13),(2,3,Cls.b),(6,5,Cls.w),(7,2,Cls.w),(11,5,Cls.w),(14,15,Cls.b),(15,5,Cls.w),(20,5,Cls.w)].find? λx=>x.1 == r && x.2.1 == i).map (·.2.2)} Tryz.f99=some e99:=nm_
abbrev e100:EF:=dC (qc Tryz.prog {} Tryz.f100)
abbrev qvh:EC:=dK (dN e100 3)
theorem qmd:qc Tryz.prog {} Tryz.f100=some e100:=nm_
abbrev qzA:EF:=dC (qc Tryz.prog {} Tryz.f101)
abbrev qnN:EC:=dK (dN qzA 20)
theorem qqM:qc Tryz.prog {} Tryz.f101=some qzA:=nm_
abbrev qzt:EF:=dC (qc Tryz.prog {} Tryz.f102)
abbrev qqq:EC:=dK (dN qzt 20)
theorem qqI:qc Tryz.prog {} Tryz.f102=some qzt:=nm_
abbrev qbU:EF:=dC (qc Tryz.prog {mu:=λt=>[].contains t,cl:=λr i=>([(12,1,Cls.l 13),(12,3,Cls.l 13),(12,5,Cls.s 12),(12,7,Cls.s 12),(10,1,Cls.l 12),(10,5,Cls.v 12),(1,2,Cls.b),(20,8,Cls.b),(21,3,Cls.w),(22,7,Cls.w)].find? λx=>x.1 == r && x.2.1 == i).map (·.2.2)} Tryz.f103)
abbrev qvD:List Ins:=dK (dR qbU 0)
abbrev quD:List Ins:=dK (dR qbU 1)
abbrev qvw:EC:=dK (dN qbU 5)
abbrev qtE:List Ins:=dK (dR qbU 6)
abbrev qrJ:List Ins:=dK (dR qbU 7)
abbrev qfi:List Ins:=dK (dR qbU 8)
abbrev qvG:List Ins:=dK (dR qbU 9)
abbrev qbc:List Ins:=dK (dR qbU 10)
abbrev qaR:EC:=dK (dN qbU 15)
abbrev qqb:List Ins:=dK (dR qbU 23)
abbrev qaQ:EC:=dK (dN qbU 28)
abbrev qaL:EC:=dK (dN qbU 43)
abbrev qbg:EC:=dK (dN qbU 53)
abbrev qak:EC:=dK (dN qbU 56)
abbrev qpm:EC:=dK (dN qbU 61)
theorem qqf:qc Tryz.prog {mu:=λt=>[].contains t,cl:=λr i=>([(12,1,Cls.l 13),(12,3,Cls.l 13),(12,5,Cls.s 12),(12,7,Cls.s 12),(10,1,Cls.l 12),(10,5,Cls.v 12),(1,2,Cls.b),(20,8,Cls.b),(21,3,Cls.w),(22,7,Cls.w)].find? λx=>x.1 == r && x.2.1 == i).map (·.2.2)} Tryz.f103=some qbU:=nm_
abbrev qzH:EF:=dC (qc Tryz.prog {} Tryz.f104)
abbrev qnU:EC:=dK (dN qzH 20)
theorem qnG:qc Tryz.prog {} Tryz.f104=some qzH:=nm_
abbrev qzJ:EF:=dC (qc Tryz.prog {} Tryz.f105)
abbrev qmL:EC:=dK (dN qzJ 29)
theorem qp4:qc Tryz.prog {} Tryz.f105=some qzJ:=nm_
abbrev qzQ:EF:=dC (qc Tryz.prog {} Tryz.f106)
abbrev quh:EC:=dK (dN qzQ 3)
theorem qmO:qc Tryz.prog {} Tryz.f106=some qzQ:=nm_
abbrev qzs:EF:=dC (qc Tryz.prog {} Tryz.f107)
abbrev qv0:EC:=dK (dN qzs 9)
theorem qob:qc Tryz.prog {} Tryz.f107=some qzs:=nm_
abbrev qvq:=cd 8 (qr [mA 9 0,mA 2 9] .ret) .skip
abbrev qt9:=qr [mA 6 0,zA 7 6,bC 8 .lss 7 2] qvq
abbrev quf:=qr [mA 10 3,mA 11 0,zA 12 11,bA 13 .lss 10 12] (cd 13 .skip (.exit 0))
abbrev qnA:=qr [mA 29 5,mA 30 4,zA 31 30,bA 32 .lss 29 31] (cd 32 .skip (.exit 2))
abbrev qp8:=qr [mA 45 0,mA 46 3,mA 47 4,mA 48 5,aA 49 2 47 48,lG 50 2 49,aA 51 2 45 46,sA 2 51 50] (.reg [mA 52 3,bC 53 .add 52 1,mA 3 53])
abbrev qng:=qr [mN 35 4,mN 36 5,aN 37 2 35 36,iR 38 (oG 2 37),mN 39 4,mN 40 5,iN 41 (.bin .sub (.t 40) (cI 1)),aN 42 2 39 41,iR 43 (oG 2 42),iN 44 (.eqagg true [1,1] (.t 38) (.t 43))] (cd 44 qp8 .skip)
abbrev qqm:EC:= .seq (.block 3 qng) (.reg [mA 33 5,bC 34 .add 33 1,mA 5 34])
abbrev qmK:=qr [iA 5 (.mov (cI 1))] (.block 2 (.loop (.seq qnA qqm)))
abbrev qpR:=qr [mA 57 0,mA 58 3,iA 59 (.slc 2 (.t 57) none (some (.t 58)) none),mA 2 59] .ret
abbrev qqk:=qr [mA 54 0,mA 55 3,iA 56 (.slc 2 (.t 54) (some (.t 55)) none none),⟨none,none,.clear 0 .undef (.t 56),.any⟩] qpR
abbrev qpM:=qr [mA 26 0,mA 27 3,iA 28 (.slc 2 (.t 26) (some (.t 27)) none none),mA 4 28] (.seq qmK qqk)
abbrev qmm:=qr [mN 16 0,mN 17 3,aN 18 2 16 17,iR 19 (oG 2 18),mN 20 0,mN 21 3,iN 22 (.bin .sub (.t 21) (cI 1)),aN 23 2 20 22,iR 24 (oG 2 23),iN 25 (.eqagg false [1,1] (.t 19) (.t 24))] (cd 25 qpM .skip)
abbrev qno:EC:= .seq (.block 1 qmm) (.reg [mA 14 3,bC 15 .add 14 1,mA 3 15])
abbrev qpS:=qr [iA 3 (.mov (cI 1))] (.block 0 (.loop (.seq quf qno)))
abbrev qpo:EC:= .seq qpS (qr [mA 60 0,mA 2 60] .ret)
abbrev qiv:=qr [iA 2 (.mov (.c (.sl 2 true [])))] (.seq qt9 qpo)
abbrev qz4:EF:=⟨61,1,[(.inl 2)],qiv⟩
theorem qpA:qc Tryz.prog {} Tryz.f110=some qz4:=nm_
abbrev qzE:EF:=dC (qc Tryz.prog {mu:=λt=>[7].contains t} Tryz.f111)
abbrev qw8:EC:=dK (dN qzE 9)
theorem qog:qc Tryz.prog {mu:=λt=>[7].contains t} Tryz.f111=some qzE:=nm_
abbrev qzj:EF:=dC (qc Tryz.prog {} Tryz.f112)
abbrev qm5:EC:=dK (dN qzj 22)
theorem qnW:qc Tryz.prog {} Tryz.f112=some qzj:=nm_
abbrev qzh:EF:=dC (qc Tryz.prog {} Tryz.f113)
abbrev qxr:EC:=dK (dN qzh 3)
theorem qmU:qc Tryz.prog {} Tryz.f113=some qzh:=nm_
abbrev qu7:=cd 10 (qr [iA 4 (.mov (cB false))] .ret) .skip
abbrev qrT:=qr [mA 6 0,zA 7 6,mA 8 1,zA 9 8,bA 10 .neq 7 9] qu7
abbrev qov:=cd 24 (qr [iA 4 (.mov (cB false))] .ret) .skip
abbrev qp5:=qr [mN 16 0,mN 17 5,aN 18 2 16 17,iR 19 (oG 2 18),mN 20 1,mN 21 5,aN 22 2 20 21,iR 23 (oG 2 22),iN 24 (.eqagg true [1,1] (.t 19) (.t 23))] qov
abbrev qny:EC:= .block 1 (qr [mA 15 13,mA 5 15] qp5)
abbrev qmh:EC:= .seq qny (.reg [bC 25 .add 13 1,mA 13 25])
abbrev qo1:=qr [bA 14 .lss 13 12] (.seq (cd 14 .skip (.exit 0)) qmh)
abbrev qqw:=qr [mA 11 0,zA 12 11,iA 13 (.mov (cI 0))] (.block 0 (.loop qo1))
abbrev qoh:EC:= .seq qqw (qr [iA 4 (.mov (cB true))] .ret)
abbrev qiX:=qr [iA 4 (.mov (cB false))] (.seq qrT qoh)
abbrev qz0:EF:=⟨26,2,[(.inl 4)],qiX⟩
theorem qp6:qc Tryz.prog {} Tryz.f114=some qz0:=nm_
abbrev e115:EF:=dC (qc Tryz.prog {mu:=λt=>[40].contains t,cl:=λr i=>([(8,2,Cls.w),(14,2,Cls.w)].find? λx=>x.1 == r && x.2.1 == i).map (·.2.2)} Tryz.f115)
abbrev qn7:EC:=dK (dN e115 37)
theorem qnC:qc Tryz.prog {mu:=λt=>[40].contains t,cl:=λr i=>([(8,2,Cls.w),(14,2,Cls.w)].find? λx=>x.1 == r && x.2.1 == i).map (·.2.2)} Tryz.f115=some e115:=nm_
abbrev e116:EF:=dC (qc Tryz.prog {} Tryz.f116)
abbrev qmQ:EC:=dK (dN e116 21)
theorem qpf:qc Tryz.prog {} Tryz.f116=some e116:=nm_
abbrev qsC:=qr [mN 9 5,iN 10 (.bin .gtr (.t 9) (cI 0)),mN 11 10,⟨(some 12),(some (11,true)),.mov (.t 0),.n⟩,⟨(some 13),(some (11,true)),.mov (.t 5),.n⟩,⟨(some 14),(some (11,true)),.bin .sub (.t 13) (cI 1),.n⟩,⟨(some 15),(some (11,true)),.iaddr 2 (.t 12) (.t 14),.n⟩,⟨(some 16),(some (11,true)),.faddr 0 (.t 15),.n⟩,⟨(some 17),(some (11,true)),.load false 1 (.t 16),.r⟩,⟨(some 18),(some (11,true)),.faddr 0 (.t 3),.n⟩,⟨(some 19),(some (11,true)),.load false 1 (.t 18),.r⟩,⟨(some 20),(some (11,true)),.bin .gtr (.t 17) (.t 19),.n⟩,⟨(some 21),(some (11,true)),.mov (.t 20),.n⟩,⟨(some 22),(some (21,false)),.mov (.t 0),.n⟩,⟨(some 23),(some (21,false)),.mov (.t 5),.n⟩,⟨(some 24),(some (21,false)),.bin .sub (.t 23) (cI 1),.n⟩,⟨(some 25),(some (21,false)),.iaddr 2 (.t 22) (.t 24),.n⟩,⟨(some 26),(some (21,false)),.faddr 0 (.t 25),.n⟩,⟨(some 27),(some (21,false)),.load false 1 (.t 26),.r⟩,⟨(some 28),(some (21,false)),.faddr 0 (.t 3),.n⟩,⟨(some 29),(some (21,false)),.load false 1 (.t 28),.r⟩,⟨(some 30),(some (21,false)),.bin .eql (.t 27) (.t 29),.n⟩,⟨(some 31),(some (21,false)),.mov (.t 30),.n⟩,⟨(some 32),(some (31,true)),.mov (.t 0),.n⟩,⟨(some 33),(some (31,true)),.mov (.t 5),.n⟩,⟨(some 34),(some (31,true)),.bin .sub (.t 33) (cI 1),.n⟩,⟨(some 35),(some (31,true)),.iaddr 2 (.t 32) (.t 34),.n⟩,⟨(some 36),(some (31,true)),.faddr 1 (.t 35),.n⟩,⟨(some 37),(some (31,true)),.load false 1 (.t 36),.r⟩,⟨(some 38),(some (31,true)),.faddr 1 (.t 3),.n⟩,⟨(some 39),(some (31,true)),.load false 1 (.t 38),.r⟩,⟨(some 40),(some (31,true)),.bin .gtr (.t 37) (.t 39),.n⟩,⟨(some 41),(some (21,false)),.pick (.t 31) (.t 40) (cB false),.n⟩,⟨(some 42),(some (11,true)),.pick (.t 21) (cB true) (.t 41),.n⟩,iN 43 (.pick (.t 11) (.t 42) (cB false))] (cd 43 .skip (.exit 0))
abbrev qro:EC:= .block 1 (.reg [mA 44 5,bC 45 .sub 44 1,mA 5 45])
abbrev qmz:=cd 56 (qr [mA 57 0,mA 4 57] .ret) .skip
abbrev qpF:=qr [mN 46 5,iN 47 (.bin .gtr (.t 46) (cI 0)),mN 48 47,⟨(some 49),(some (48,true)),.mov (.t 0),.n⟩,⟨(some 50),(some (48,true)),.mov (.t 5),.n⟩,⟨(some 51),(some (48,true)),.bin .sub (.t 50) (cI 1),.n⟩,⟨(some 52),(some (48,true)),.iaddr 2 (.t 49) (.t 51),.n⟩,⟨(some 53),(some (48,true)),.load true 2 (.t 52),.r⟩,⟨(some 54),(some (48,true)),.load true 2 (.t 3),.r⟩,⟨(some 55),(some (48,true)),.eqagg false [1,1] (.t 53) (.t 54),.n⟩,iN 56 (.pick (.t 48) (.t 55) (cB false))] qmz
abbrev qpk:=qr [mN 63 6,iR 64 (oG 2 3),iN 65 (.lit false 2 true (.agg [(.int .i64 0),(.int .i64 0)]) 1 [(0,(.t 64))]),⟨(some 66),none,.append false 2 16 (.t 63) (.t 65),.t⟩,mN 67 0,mN 68 5,iN 69 (.slc 2 (.t 67) (some (.t 68)) none none),⟨(some 70),none,.append false 2 16 (.t 66) (.t 69),.t⟩,mN 4 70] .ret
abbrev qqx:=qr [iA 58 (.lit false 2 true (.agg [(.int .i64 0),(.int .i64 0)]) 0 []),mA 59 0,mA 60 5,iA 61 (.slc 2 (.t 59) none (some (.t 60)) none),iA 62 (.append false 2 16 (.t 58) (.t 61)),mA 6 62] qpk
abbrev qmg:EC:= .seq (.block 0 (.loop (.seq qsC qro))) (.seq qpF qqx)
abbrev qhN:=qr [iA 3 (.box 2 (.t 1)),iA 4 (.mov (.c (.sl 2 true [])))] (qr [mA 7 0,zA 8 7,mA 5 8] qmg)
abbrev e117:EF:=⟨71,2,[(.inl 4)],qhN⟩
theorem qmD:qc Tryz.prog {} Tryz.f117=some e117:=nm_
abbrev e118:EF:=dC (qc Tryz.prog {} Tryz.f118)
abbrev qxc:EC:=dK (dN e118 3)
theorem qnS:qc Tryz.prog {} Tryz.f118=some e118:=nm_
abbrev qsN:=cd 10 (qr [iA 4 (.mov (cB false))] .ret) .skip
abbrev qwQ:=qr [mA 6 0,zA 7 6,mA 8 1,zA 9 8,bA 10 .neq 7 9] qsN
abbrev qsj:=qr [mA 11 5,mA 12 0,zA 13 12,bA 14 .lss 11 13] (cd 14 .skip (.exit 0))
abbrev qqv:=cd 25 (qr [iA 4 (.mov (cB false))] .ret) .skip
abbrev qp9:=qr [mN 17 0,mN 18 5,aN 19 2 17 18,iR 20 (oG 2 19),mN 21 1,mN 22 5,aN 23 2 21 22,iR 24 (oG 2 23),iN 25 (.eqagg true [1,1] (.t 20) (.t 24))] qqv
abbrev qoV:EC:= .seq (.block 1 qp9) (.reg [mA 15 5,bC 16 .add 15 1,mA 5 16])
abbrev qmP:=qr [iA 5 (.mov (cI 0))] (.block 0 (.loop (.seq qsj qoV)))
abbrev qoa:EC:= .seq qmP (qr [iA 4 (.mov (cB true))] .ret)
abbrev qhn:=qr [iA 4 (.mov (cB false))] (.seq qwQ qoa)
abbrev e119:EF:=⟨26,2,[(.inl 4)],qhn⟩
theorem qoA:qc Tryz.prog {} Tryz.f119=some e119:=nm_
abbrev e120:EF:=dC (qc Tryz.prog {mu:=λt=>[13].contains t} Tryz.f120)
abbrev qmS:EC:=dK (dN e120 36)
theorem qoU:qc Tryz.prog {mu:=λt=>[13].contains t} Tryz.f120=some e120:=nm_
abbrev qsp:=cd 16 (qr [mA 17 5,mA 4 17] .ret) .skip
abbrev qwY:=qr [iR 11 (oG 2 3),mN 12 0,mN 13 5,aN 14 2 12 13,iR 15 (oG 2 14),iN 16 (.eqagg false [1,1] (.t 11) (.t 15))] qsp
abbrev qox:EC:= .block 1 (qr [mA 10 8,mA 5 10] qwY)
abbrev qmG:EC:= .seq qox (.reg [bC 18 .add 8 1,mA 8 18])
abbrev qoX:=qr [bA 9 .lss 8 7] (.seq (cd 9 .skip (.exit 0)) qmG)
abbrev qnj:=qr [mA 6 0,zA 7 6,iA 8 (.mov (cI 0))] (.block 0 (.loop qoX))
abbrev qon:EC:= .seq qnj (qr [iA 4 (.mov (cI (-1)))] .ret)
abbrev qjc:=qr [iA 3 (.box 2 (.t 1)),iA 4 (.mov (cI 0))] qon
abbrev qAf:EF:=⟨19,2,[(.inl 4)],qjc⟩
theorem qnI:qc Tryz.prog {} Tryz.f123=some qAf:=nm_
abbrev qzU:EF:=dC (qc Tryz.prog {} Tryz.f124)
abbrev quH:EC:=dK (dN qzU 3)
theorem qpH:qc Tryz.prog {} Tryz.f124=some qzU:=nm_
abbrev e125:EF:=dC (qc Tryz.prog {} Tryz.f125)
abbrev qwn:EC:=dK (dN e125 3)
theorem qnh:qc Tryz.prog {} Tryz.f125=some e125:=nm_
abbrev e126:EF:=dC (qc Tryz.prog {} Tryz.f126)
abbrev qps:EC:=dK (dN e126 26)
theorem qnD:qc Tryz.prog {} Tryz.f126=some e126:=nm_
abbrev e127:EF:=dC (qc Tryz.prog {} Tryz.f127)
abbrev qv4:EC:=dK (dN e127 3)
theorem qmn:qc Tryz.prog {} Tryz.f127=some e127:=nm_
abbrev e128:EF:=dC (qc Tryz.prog {} Tryz.f128)
abbrev qoZ:EC:=dK (dN e128 22)
theorem qpB:qc Tryz.prog {} Tryz.f128=some e128:=nm_
abbrev e129:EF:=dC (qc Tryz.prog {mu:=λt=>[44,56].contains t,cl:=λr i=>([(9,8,Cls.w),(10,8,Cls.w),(1,2,Cls.b),(7,3,Cls.b),(8,5,Cls.w)].find? λx=>x.1 == r && x.2.1 == i).map (·.2.2)} Tryz.f129)
abbrev quR:List Ins:=dK (dR e129 0)
abbrev qrp:List Ins:=dK (dR e129 1)
abbrev qu1:EC:=dK (dN e129 6)
abbrev qrU:List Ins:=dK (dR e129 7)
abbrev qqo:EC:=dK (dN e129 16)
abbrev qds:EC:=dK (dN e129 22)
abbrev qi2:EC:=dK (dN e129 27)
theorem qne:qc Tryz.prog {mu:=λt=>[44,56].contains t,cl:=λr i=>([(9,8,Cls.w),(10,8,Cls.w),(1,2,Cls.b),(7,3,Cls.b),(8,5,Cls.w)].find? λx=>x.1 == r && x.2.1 == i).map (·.2.2)} Tryz.f129=some e129:=nm_
abbrev qzr:EF:=dC (qc Tryz.prog {} Tryz.f130)
abbrev qqe:EC:=dK (dN qzr 20)
theorem qpb:qc Tryz.prog {} Tryz.f130=some qzr:=nm_
abbrev qzw:EF:=dC (qc Tryz.prog {mu:=λt=>[].contains t,cl:=λr i=>([(2,2,Cls.w),(3,3,Cls.b),(6,2,Cls.b),(8,5,Cls.w)].find? λx=>x.1 == r && x.2.1 == i).map (·.2.2)} Tryz.f131)
abbrev qnH:EC:=dK (dN qzw 27)
theorem qpJ:qc Tryz.prog {mu:=λt=>[].contains t,cl:=λr i=>([(2,2,Cls.w),(3,3,Cls.b),(6,2,Cls.b),(8,5,Cls.w)].find? λx=>x.1 == r && x.2.1 == i).map (·.2.2)} Tryz.f131=some qzw:=nm_
abbrev qzD:EF:=dC (qc Tryz.prog {mu:=λt=>[57].contains t} Tryz.f135)
abbrev qqa:EC:=dK (dN qzD 23)
theorem qqF:qc Tryz.prog {mu:=λt=>[57].contains t} Tryz.f135=some qzD:=nm_
abbrev qzy:EF:=dC (qc Tryz.prog {} Tryz.f136)
abbrev qnQ:EC:=dK (dN qzy 22)
theorem qpE:qc Tryz.prog {} Tryz.f136=some qzy:=nm_
abbrev qzY:EF:=dC (qc Tryz.prog {} Tryz.f148)
abbrev qqE:EC:=dK (dN qzY 22)
theorem qnd:qc Tryz.prog {} Tryz.f148=some qzY:=nm_
abbrev qzo:EF:=dC (qc Tryz.prog {} Tryz.f149)
abbrev qpQ:EC:=dK (dN qzo 17)
theorem qpP:qc Tryz.prog {} Tryz.f149=some qzo:=nm_
abbrev qzS:EF:=dC (qc Tryz.prog {} Tryz.f150)
abbrev qpU:EC:=dK (dN qzS 14)
theorem qqz:qc Tryz.prog {} Tryz.f150=some qzS:=nm_
abbrev qzp:EF:=dC (qc Tryz.prog {} Tryz.f151)
abbrev qq4:EC:=dK (dN qzp 3)
theorem qqK:qc Tryz.prog {} Tryz.f151=some qzp:=nm_
abbrev e152:EF:=dC (qc Tryz.prog {} Tryz.f152)
abbrev qmo:EC:=dK (dN e152 52)
theorem qoK:qc Tryz.prog {} Tryz.f152=some e152:=nm_
abbrev qzG:EF:=dC (qc Tryz.prog {} Tryz.f162)
abbrev qnx:EC:=dK (dN qzG 22)
theorem qpL:qc Tryz.prog {} Tryz.f162=some qzG:=nm_
abbrev e169:EF:=dC (qc Tryz.prog {} Tryz.f169)
abbrev qpj:EC:=dK (dN e169 30)
theorem qph:qc Tryz.prog {} Tryz.f169=some e169:=nm_
abbrev e170:EF:=dC (qc Tryz.prog {} Tryz.f170)
abbrev qw5:EC:=dK (dN e170 3)
theorem qn1:qc Tryz.prog {} Tryz.f170=some e170:=nm_
abbrev qzB:EF:=dC (qc Tryz.prog {} Tryz.f171)
abbrev qwG:EC:=dK (dN qzB 3)
theorem qpK:qc Tryz.prog {} Tryz.f171=some qzB:=nm_
abbrev qzN:EF:=dC (qc Tryz.prog {} Tryz.f172)
abbrev qqd:EC:=dK (dN qzN 98)
theorem qnO:qc Tryz.prog {} Tryz.f172=some qzN:=nm_
abbrev qzi:EF:=dC (qc Tryz.prog {} Tryz.f177)
abbrev qrg:EC:=dK (dN qzi 3)
theorem qpx:qc Tryz.prog {} Tryz.f177=some qzi:=nm_

end Go.Proofs
