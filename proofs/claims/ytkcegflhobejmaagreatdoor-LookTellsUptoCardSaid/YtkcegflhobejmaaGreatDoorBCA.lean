import Derived.Test.YtkcegflhobejmaaGreatDoorXEC
import Derived.Test.YtkcegflhobejmaaGreatDoorProg
import Derived.KernelRfl
import Derived.Lib.TrailingZeros
namespace Go.Proofs
open Go.E
theorem nm_{p:Prop}(h:p:=by kernel_rfl):p:=h
instance:Glob Tryz.prog where
 G:=λg=>if g=0 then .iptr 64 (.agg (Lib.deBruijn64tab.map λ(n:Nat)=>V.int .u8 (n:Int))) 0 else .iptr 0 (.agg []) 0

set_option linter.all false
set_option maxRecDepth 100000
set_option maxHeartbeats 4000000
abbrev zz:List V:=List.replicate 625 (.int .i64 0)
abbrev iA(d:Nat)(o:EOp):Ins:=⟨some d,none,o,.any⟩
abbrev iN(d:Nat)(o:EOp):Ins:=⟨some d,none,o,.n⟩
abbrev iR(d:Nat)(o:EOp):Ins:=⟨some d,none,o,.r⟩
abbrev cI(n:Int):Opd:= .c (.int .i64 n)
abbrev cB(b:Bool):Opd:= .c (.bool b)
abbrev gT(d g:Nat)(o:EOp):Ins:=⟨some d,some (g,true),o,.any⟩
abbrev oM(s:Nat):EOp:= .mov (.t s)
abbrev oL(n s:Nat):EOp:= .load false n (.t s)
abbrev oG(n s:Nat):EOp:= .load true n (.t s)
abbrev oF(n s:Nat):EOp:= .faddr n (.t s)
abbrev mA(d s:Nat):Ins:=iA d (.mov (.t s))
abbrev mN(d s:Nat):Ins:=iN d (.mov (.t s))
abbrev lA(d n s:Nat):Ins:=iA d (.load false n (.t s))
abbrev lR(d n s:Nat):Ins:=iR d (.load false n (.t s))
abbrev lG(d n s:Nat):Ins:=iA d (.load true n (.t s))
abbrev fA(d n s:Nat):Ins:=iA d (.faddr n (.t s))
abbrev fN(d n s:Nat):Ins:=iN d (.faddr n (.t s))
abbrev nA(d s:Nat):Ins:=iA d (.nilck (.t s))
abbrev nN(d s:Nat):Ins:=iN d (.nilck (.t s))
abbrev zA(d s:Nat):Ins:=iA d (.len (.t s))
abbrev sA(n p x:Nat):Ins:=⟨none,none,.store n (.t p) (.t x),.any⟩
abbrev sW(n p x:Nat):Ins:=⟨none,none,.store n (.t p) (.t x),.w⟩
abbrev bA(d:Nat)(o:BinOp)(x y:Nat):Ins:=iA d (.bin o (.t x) (.t y))
abbrev bC(d:Nat)(o:BinOp)(x:Nat)(y:Int):Ins:=iA d (.bin o (.t x) (.c (.int .i64 y)))
abbrev aA(d z x y:Nat):Ins:=iA d (.iaddr z (.t x) (.t y))
abbrev aN(d z x y:Nat):Ins:=iN d (.iaddr z (.t x) (.t y))
abbrev pA(d x y:Nat):Ins:=iA d (.pick (.t x) (.t y) (.c (.bool false)))
abbrev cl(f:Nat)(l:List Opd):EOp:= .call (.c (.fn f [])) l
abbrev qr(l:List Ins)(b:EC):EC:= .seq (.reg l) b
abbrev cd(c:Nat)(a b:EC):EC:= .cond (.t c) a b
theorem dI(n:Nat):Int.ofNat n=(n:Int):=rfl
theorem dJ(n:Nat):Int.negSucc n= -((n+1:Nat):Int):=rfl
theorem dU(n:Nat)(h:n<256):UInt8.ofBitVec (BitVec.ofFin ⟨n,h⟩)=UInt8.ofNat n:=by apply UInt8.toNat_inj.1;rw[UInt8.toNat_ofNat_of_lt' (by simpa using h)];rfl
abbrev dC{α:Type}(x:Option α){y:α}(h:x=some y:=by conv=>(lhs;reduce;try simp only[dI,dJ,dU,Int.cast_ofNat_Int,Nat.reduceAdd,UInt8.reduceOfNat])):α:=y
abbrev dK{α:Type}(x:Option α){y:α}(h:x=some y:=by conv=>(lhs;reduce;try simp only[dI,dJ,dU,Int.cast_ofNat_Int,Nat.reduceAdd,UInt8.reduceOfNat])):α:=y
def ndL:EC->List EC
 |.reg l=>[.reg l]
 |.seq a b=>ndL a++(ndL b++[.seq a b])
 |.cond c a b=>ndL a++(ndL b++[.cond c a b])
 |.block i a=>ndL a++[.block i a]
 |.loop a=>ndL a++[.loop a]
 | _=>[]
abbrev dN(e:EF)(i:Nat):Option EC:=(ndL e.body)[i]?
def ndR:EC->List Ins
 |.reg l=>l
 | _=>[]
abbrev dR(e:EF)(i:Nat):Option (List Ins):=((ndL e.body)[i]?).map ndR
abbrev e5:EF:=dC (qd Tryz.prog {} Tryz.f5)
abbrev qxV:EC:=dK (dN e5 30)
theorem qxL:qd Tryz.prog {} Tryz.f5=some e5:=nm_
abbrev e10:EF:=dC (qd Tryz.prog {} Tryz.f10)
abbrev qw3:EC:=dK (dN e10 11)
theorem qxo:qd Tryz.prog {} Tryz.f10=some e10:=nm_
abbrev e11:EF:=dC (qd Tryz.prog {} Tryz.f11)
abbrev qxY:List Ins:=dK (dR e11 0)
abbrev qx2:List Ins:=dK (dR e11 1)
abbrev qyP:EC:=dK (dN e11 5)
abbrev qyM:List Ins:=dK (dR e11 6)
abbrev qhg:EC:=dK (dN e11 18)
abbrev qtY:List Ins:=dK (dR e11 19)
abbrev qrs:List Ins:=dK (dR e11 23)
abbrev qiJ:EC:=dK (dN e11 28)
abbrev qtp:EC:=dK (dN e11 32)
abbrev qvK:List Ins:=dK (dR e11 33)
abbrev qqI:EC:=dK (dN e11 37)
abbrev qrt:List Ins:=dK (dR e11 38)
abbrev qjh:EC:=dK (dN e11 52)
abbrev qr2:List Ins:=dK (dR e11 53)
abbrev qs1:List Ins:=dK (dR e11 57)
abbrev qhq:EC:=dK (dN e11 62)
abbrev qxb:List Ins:=dK (dR e11 63)
abbrev qws:List Ins:=dK (dR e11 67)
abbrev qgQ:EC:=dK (dN e11 72)
abbrev qsh:List Ins:=dK (dR e11 73)
abbrev qwp:EC:=dK (dN e11 78)
theorem qtN:qd Tryz.prog {} Tryz.f11=some e11:=nm_
abbrev e12:EF:=dC (qd Tryz.prog {mu:=λt=>[23,35].contains t,cl:=λr i=>([(7,6,Cls.w)].find? λx=>x.1 == r && x.2.1 == i).map (·.2.2)} Tryz.f12)
abbrev qxM:List Ins:=dK (dR e12 0)
abbrev qxH:List Ins:=dK (dR e12 1)
abbrev qyB:List Ins:=dK (dR e12 2)
abbrev qyN:List Ins:=dK (dR e12 3)
abbrev qwD:EC:=dK (dN e12 15)
abbrev quQ:EC:=dK (dN e12 19)
abbrev qwX:EC:=dK (dN e12 22)
abbrev qsr:List Ins:=dK (dR e12 23)
abbrev qtR:List Ins:=dK (dR e12 24)
abbrev qww:List Ins:=dK (dR e12 25)
abbrev qiH:EC:=dK (dN e12 46)
abbrev qhu:EC:=dK (dN e12 50)
abbrev qg0:EC:=dK (dN e12 53)
abbrev qvb:List Ins:=dK (dR e12 61)
abbrev qeD:EC:=dK (dN e12 66)
abbrev qdZ:EC:=dK (dN e12 81)
abbrev qjC:List Ins:=dK (dR e12 82)
abbrev qr0:EC:=dK (dN e12 90)
theorem qtH:qd Tryz.prog {mu:=λt=>[23,35].contains t,cl:=λr i=>([(7,6,Cls.w)].find? λx=>x.1 == r && x.2.1 == i).map (·.2.2)} Tryz.f12=some e12:=nm_
abbrev e13:EF:=dC (qd Tryz.prog {} Tryz.f13)
abbrev quI:EC:=dK (dN e13 13)
theorem qsa:qd Tryz.prog {} Tryz.f13=some e13:=nm_
abbrev e15:EF:=dC (qd Tryz.prog {} Tryz.f15)
abbrev qt5:EC:=dK (dN e15 36)
theorem qqC:qd Tryz.prog {} Tryz.f15=some e15:=nm_
abbrev e16:EF:=dC (qd Tryz.prog {} Tryz.f16)
abbrev qsK:EC:=dK (dN e16 32)
theorem qq3:qd Tryz.prog {} Tryz.f16=some e16:=nm_
abbrev e17:EF:=dC (qd Tryz.prog {} Tryz.f17)
abbrev qwL:EC:=dK (dN e17 26)
theorem qrT:qd Tryz.prog {} Tryz.f17=some e17:=nm_
abbrev e18:EF:=dC (qd Tryz.prog {} Tryz.f18)
abbrev qxv:EC:=dK (dN e18 5)
theorem qqJ:qd Tryz.prog {} Tryz.f18=some e18:=nm_
abbrev e20:EF:=dC (qd Tryz.prog {} Tryz.f20)
abbrev qyE:EC:=dK (dN e20 5)
theorem qtq:qd Tryz.prog {} Tryz.f20=some e20:=nm_
abbrev e21:EF:=dC (qd Tryz.prog {} Tryz.f21)
abbrev qwY:EC:=dK (dN e21 44)
theorem qsT:qd Tryz.prog {} Tryz.f21=some e21:=nm_
abbrev e22:EF:=dC (qd Tryz.prog {} Tryz.f22)
abbrev qx8:EC:=dK (dN e22 3)
theorem qvV:qd Tryz.prog {} Tryz.f22=some e22:=nm_
abbrev e23:EF:=dC (qd Tryz.prog {mu:=λt=>[20].contains t} Tryz.f23)
abbrev qv0:EC:=dK (dN e23 64)
theorem qrc:qd Tryz.prog {mu:=λt=>[20].contains t} Tryz.f23=some e23:=nm_
abbrev e24:EF:=dC (qd Tryz.prog {} Tryz.f24)
abbrev qqU:EC:=dK (dN e24 10)
theorem qt6:qd Tryz.prog {} Tryz.f24=some e24:=nm_
abbrev e25:EF:=dC (qd Tryz.prog {} Tryz.f25)
abbrev quV:EC:=dK (dN e25 26)
theorem quZ:qd Tryz.prog {} Tryz.f25=some e25:=nm_
abbrev e26:EF:=dC (qd Tryz.prog {mu:=λt=>[].contains t,cl:=λr i=>([(1,5,Cls.b)].find? λx=>x.1 == r && x.2.1 == i).map (·.2.2)} Tryz.f26)
abbrev qxz:EC:=dK (dN e26 3)
theorem quk:qd Tryz.prog {mu:=λt=>[].contains t,cl:=λr i=>([(1,5,Cls.b)].find? λx=>x.1 == r && x.2.1 == i).map (·.2.2)} Tryz.f26=some e26:=nm_
abbrev e27:EF:=dC (qd Tryz.prog {} Tryz.f27)
abbrev qvE:EC:=dK (dN e27 29)
theorem qsc:qd Tryz.prog {} Tryz.f27=some e27:=nm_
abbrev e28:EF:=dC (qd Tryz.prog {} Tryz.f28)
abbrev qyg:EC:=dK (dN e28 3)
theorem qtS:qd Tryz.prog {} Tryz.f28=some e28:=nm_
abbrev e29:EF:=dC (qd Tryz.prog {mu:=λt=>[].contains t,cl:=λr i=>([(1,1,Cls.k 10),(1,2,Cls.l 10),(1,5,Cls.k 10),(1,6,Cls.l 10),(1,9,Cls.k 10)].find? λx=>x.1 == r && x.2.1 == i).map (·.2.2)} Tryz.f29)
abbrev qx3:EC:=dK (dN e29 3)
theorem qrY:qd Tryz.prog {mu:=λt=>[].contains t,cl:=λr i=>([(1,1,Cls.k 10),(1,2,Cls.l 10),(1,5,Cls.k 10),(1,6,Cls.l 10),(1,9,Cls.k 10)].find? λx=>x.1 == r && x.2.1 == i).map (·.2.2)} Tryz.f29=some e29:=nm_
abbrev e30:EF:=dC (qd Tryz.prog {} Tryz.f30)
abbrev qvl:EC:=dK (dN e30 26)
theorem qwZ:qd Tryz.prog {} Tryz.f30=some e30:=nm_
abbrev e31:EF:=dC (qd Tryz.prog {mu:=λt=>[].contains t,cl:=λr i=>([(11,3,Cls.b)].find? λx=>x.1 == r && x.2.1 == i).map (·.2.2)} Tryz.f31)
abbrev qs9:EC:=dK (dN e31 54)
theorem qxa:qd Tryz.prog {mu:=λt=>[].contains t,cl:=λr i=>([(11,3,Cls.b)].find? λx=>x.1 == r && x.2.1 == i).map (·.2.2)} Tryz.f31=some e31:=nm_
abbrev e32:EF:=dC (qd Tryz.prog {} Tryz.f32)
abbrev qrm:EC:=dK (dN e32 61)
theorem qwd:qd Tryz.prog {} Tryz.f32=some e32:=nm_
abbrev e34:EF:=dC (qd Tryz.prog {} Tryz.f34)
abbrev qxI:EC:=dK (dN e34 5)
theorem qqG:qd Tryz.prog {} Tryz.f34=some e34:=nm_
abbrev e36:EF:=dC (qd Tryz.prog {mu:=λt=>[25,99].contains t,cl:=λr i=>([(3,1,Cls.w)].find? λx=>x.1 == r && x.2.1 == i).map (·.2.2)} Tryz.f36)
abbrev qwW:List Ins:=dK (dR e36 13)
abbrev qwN:EC:=dK (dN e36 14)
abbrev qvs:List Ins:=dK (dR e36 15)
abbrev qvX:EC:=dK (dN e36 19)
abbrev qgD:EC:=dK (dN e36 36)
abbrev quf:List Ins:=dK (dR e36 40)
abbrev qvY:EC:=dK (dN e36 79)
theorem qrA:qd Tryz.prog {mu:=λt=>[25,99].contains t,cl:=λr i=>([(3,1,Cls.w)].find? λx=>x.1 == r && x.2.1 == i).map (·.2.2)} Tryz.f36=some e36:=nm_
abbrev e37:EF:=dC (qd Tryz.prog {} Tryz.f37)
abbrev qvG:EC:=dK (dN e37 22)
theorem qqE:qd Tryz.prog {} Tryz.f37=some e37:=nm_
abbrev e38:EF:=dC (qd Tryz.prog {} Tryz.f38)
abbrev qrz:EC:=dK (dN e38 20)
theorem qwM:qd Tryz.prog {} Tryz.f38=some e38:=nm_
abbrev e44:EF:=dC (qd Tryz.prog {} Tryz.f44)
abbrev qxx:EC:=dK (dN e44 9)
theorem qtm:qd Tryz.prog {} Tryz.f44=some e44:=nm_
abbrev e45:EF:=dC (qd Tryz.prog {} Tryz.f45)
abbrev qyh:EC:=dK (dN e45 3)
theorem qwR:qd Tryz.prog {} Tryz.f45=some e45:=nm_
abbrev e46:EF:=dC (qd Tryz.prog {mu:=λt=>[57].contains t} Tryz.f46)
abbrev qqS:EC:=dK (dN e46 32)
theorem qr8:qd Tryz.prog {mu:=λt=>[57].contains t} Tryz.f46=some e46:=nm_
abbrev e47:EF:=dC (qd Tryz.prog {} Tryz.f47)
abbrev qxT:EC:=dK (dN e47 3)
theorem quH:qd Tryz.prog {} Tryz.f47=some e47:=nm_
abbrev e48:EF:=dC (qd Tryz.prog {} Tryz.f48)
abbrev qrU:EC:=dK (dN e48 17)
theorem qtK:qd Tryz.prog {} Tryz.f48=some e48:=nm_
abbrev e49:EF:=dC (qd Tryz.prog {} Tryz.f49)
abbrev qx4:EC:=dK (dN e49 3)
theorem qur:qd Tryz.prog {} Tryz.f49=some e49:=nm_
abbrev e50:EF:=dC (qd Tryz.prog {mu:=λt=>[17,87].contains t} Tryz.f50)
abbrev qsR:EC:=dK (dN e50 74)
theorem qsz:qd Tryz.prog {mu:=λt=>[17,87].contains t} Tryz.f50=some e50:=nm_
abbrev qx1:=qr [mA 24 22,aA 25 2 20 22,lG 26 2 25,iA 7 (.alloc 2 (.agg [(.int .i64 0),(.int .i64 0)])),mA 6 24,sA 2 7 26] (.reg [mN 27 5,nN 28 27,fN 29 7 28,lR 30 1 29,iR 31 (oG 2 7),mN 32 6,⟨none,none,.mset (.t 30) (.t 31) (.t 32),.w⟩])
abbrev qrZ:EC:= .seq (.block 1 qx1) (.reg [bC 33 .add 22 1,mA 22 33])
abbrev qwV:=qr [bA 23 .lss 22 21] (.seq (cd 23 .skip (.exit 0)) qrZ)
abbrev qtT:=qr [mA 17 5,nA 18 17,fA 19 6 18,lA 20 1 19,zA 21 20,iA 22 (.mov (cI 0))] (.block 0 (.loop qwV))
abbrev qtk:EC:= .seq qtT (qr [mA 34 5,mA 4 34] .ret)
abbrev quN:=qr [iR 8 (oG 5 2),mN 9 1,mN 10 1,iR 11 (cl 15 [.t 10]),⟨(some 12),none,.mkmap,.a⟩,iR 13 (oG 5 2),iR 14 (cl 88 [.t 13]),iN 15 (.build [(.sl 6 true []),(.sl 2 true []),(.sl 6 true []),(.str []),(.str []),(.sl 2 true []),(.sl 2 true []),.nilmap,(.sl 1 true [])] [(0,5,(.t 8)),(5,1,(.t 9)),(6,1,(.t 11)),(7,1,(.t 12)),(8,1,(.t 14))]),⟨(some 16),none,.box 9 (.t 15),.a⟩,mN 5 16] qtk
abbrev qlO:=qr [iA 2 (.box 5 (.t 0)),iA 4 (.mov (.c .nilp))] quN
abbrev e51:EF:=⟨35,2,[(.inl 4)],qlO⟩
theorem qsQ:qd Tryz.prog {} Tryz.f51=some e51:=nm_
abbrev e52:EF:=dC (qd Tryz.prog {mu:=λt=>[14].contains t} Tryz.f52)
abbrev qvC:EC:=dK (dN e52 24)
theorem qq7:qd Tryz.prog {mu:=λt=>[14].contains t} Tryz.f52=some e52:=nm_
abbrev qyJ:=cd 21 (.reg [mA 22 5,iA 23 (.lit false 1 false (.int .i64 0) 1 [(0,(cI 0))]),iA 24 (.append true 1 8 (.t 22) (.t 23)),mA 5 24]) .skip
abbrev qxS:=qr [fA 18 0 6,lA 19 1 18,iA 20 (.build [(.int .i64 0),(.int .i64 0)] [(0,1,(cI 0)),(1,1,(cI 1))]),iA 21 (cl 92 [(.t 19),(.t 20)])] qyJ
abbrev qun:=cd 34 (.reg [mA 35 5,fA 36 0 8,lA 37 1 36,iA 38 (.lit false 1 false (.int .i64 0) 1 [(0,(.t 37))]),iA 39 (.append true 1 8 (.t 35) (.t 38)),mA 5 39]) .skip
abbrev qrB:=qr [fA 32 0 8,lA 33 1 32,bC 34 .lss 33 1000] qun
abbrev qu3:=qr [aA 30 2 26 28,lG 31 2 30,iA 8 (.alloc 2 (.agg [(.int .i64 0),(.int .i64 0)])),sA 2 8 31] qrB
abbrev qsO:EC:= .seq (.block 1 qu3) (.reg [bC 40 .add 28 1,mA 28 40])
abbrev qtP:=qr [bA 29 .lss 28 27] (.seq (cd 29 .skip (.exit 0)) qsO)
abbrev qt0:=qr [fA 25 1 6,lA 26 1 25,zA 27 26,iA 28 (.mov (cI 0))] (.block 0 (.loop qtP))
abbrev qjy:EC:= .seq qt0 (qr [mA 41 5,mA 4 41] .ret)
abbrev qlq:EC:= .seq qxS qjy
abbrev qlM:=qr [mN 9 0,nN 10 9,fN 11 5 10,lR 12 1 11,mN 13 0,iR 14 (oG 2 3),⟨(some 15),none,.call (.c (.fn 91 [])) [(.t 13),(.t 14)],.b⟩,aN 16 2 12 15,iR 17 (oG 2 16),⟨(some 6),none,.alloc 2 (.agg [(.sl 2 true []),(.sl 2 true [])]),.a⟩,sW 2 6 17] qlq
abbrev qlL:=qr [iA 5 (.mov (.c (.sl 1 true [])))] qlM
abbrev qii:=qr [iA 3 (.box 2 (.t 1)),iA 4 (.mov (.c (.sl 1 true [])))] qlL
abbrev e53:EF:=⟨42,2,[(.inl 4)],qii⟩
theorem qqz:qd Tryz.prog {mu:=λt=>[24,39].contains t,cl:=λr i=>([(2,6,Cls.b)].find? λx=>x.1 == r && x.2.1 == i).map (·.2.2)} Tryz.f53=some e53:=nm_
abbrev e54:EF:=dC (qd Tryz.prog {} Tryz.f54)
abbrev qra:EC:=dK (dN e54 20)
theorem qsA:qd Tryz.prog {} Tryz.f54=some e54:=nm_
abbrev e55:EF:=dC (qd Tryz.prog {} Tryz.f55)
abbrev qtG:EC:=dK (dN e55 20)
theorem qrg:qd Tryz.prog {} Tryz.f55=some e55:=nm_
abbrev qyk:=cd 38 (.reg [mN 39 5,mN 40 0,nN 41 40,fN 42 7 41,lR 43 1 42,mN 44 6,fN 45 0 8,lR 46 1 45,iN 47 (.build [(.int .i64 0),(.int .i64 0)] [(0,1,(.t 44)),(1,1,(.t 46))]),iN 48 (.mget false (.t 43) (.t 47)),iN 49 (.lit false 1 false (.int .i64 0) 1 [(0,(.t 48))]),⟨(some 50),none,.append true 1 8 (.t 39) (.t 49),.w⟩,mN 5 50]) .skip
abbrev qvL:=qr [fN 25 0 8,lR 26 1 25,iN 27 (.bin .geq (.t 26) (cI 1000)),mN 28 27,⟨(some 29),(some (28,true)),.mov (.t 0),.n⟩,⟨(some 30),(some (28,true)),.nilck (.t 29),.n⟩,⟨(some 31),(some (28,true)),.faddr 8 (.t 30),.n⟩,⟨(some 32),(some (28,true)),.load false 1 (.t 31),.r⟩,⟨(some 33),(some (28,true)),.faddr 0 (.t 8),.n⟩,⟨(some 34),(some (28,true)),.load false 1 (.t 33),.r⟩,⟨(some 35),(some (28,true)),.bin .sub (.t 34) (cI 1000),.n⟩,⟨(some 36),(some (28,true)),.iaddr 1 (.t 32) (.t 35),.n⟩,⟨(some 37),(some (28,true)),.load false 1 (.t 36),.r⟩,iN 38 (.pick (.t 28) (.t 37) (cB false))] qyk
abbrev qw1:=qr [aA 23 2 19 21,lG 24 2 23,iA 8 (.alloc 2 (.agg [(.int .i64 0),(.int .i64 0)])),sA 2 8 24] qvL
abbrev qvW:EC:= .seq (.block 1 qw1) (.reg [bC 51 .add 21 1,mA 21 51])
abbrev qvP:=qr [bA 22 .lss 21 20] (.seq (cd 22 .skip (.exit 0)) qvW)
abbrev qts:=qr [mA 12 0,nA 13 12,fA 14 5 13,lA 15 1 14,mA 16 6,aA 17 2 15 16,fA 18 1 17,lA 19 1 18,zA 20 19,iA 21 (.mov (cI 0))] (.block 0 (.loop qvP))
abbrev qqQ:EC:= .seq qts (qr [mA 52 5,mA 4 52] .ret)
abbrev qxd:=qr [mA 9 0,lG 10 2 3,iA 11 (cl 91 [(.t 9),(.t 10)]),mA 6 11] qqQ
abbrev qxh:=qr [iA 5 (.mov (.c (.sl 1 true [])))] qxd
abbrev qlB:=qr [iA 3 (.box 2 (.t 1)),iA 4 (.mov (.c (.sl 1 true [])))] qxh
abbrev e56:EF:=⟨53,2,[(.inl 4)],qlB⟩
theorem qwE:qd Tryz.prog {mu:=λt=>[50].contains t,cl:=λr i=>([(7,11,Cls.w),(2,2,Cls.b)].find? λx=>x.1 == r && x.2.1 == i).map (·.2.2)} Tryz.f56=some e56:=nm_
abbrev e57:EF:=dC (qd Tryz.prog {mu:=λt=>[10].contains t} Tryz.f57)
abbrev qvT:EC:=dK (dN e57 36)
theorem qwu:qd Tryz.prog {mu:=λt=>[10].contains t} Tryz.f57=some e57:=nm_
abbrev e58:EF:=dC (qd Tryz.prog {} Tryz.f58)
abbrev qwS:EC:=dK (dN e58 20)
theorem qvD:qd Tryz.prog {} Tryz.f58=some e58:=nm_
abbrev qqV:=qr [fA 40 0 7,lA 41 1 40,iA 42 (.bin .add (cI 1000) (.t 41)),fA 43 1 5,lA 44 1 43,bA 45 .neq 42 44] (cd 45 (.exit 3) .skip)
abbrev qwa:=cd 76 (.reg [mA 77 3,mA 78 11,mA 79 3,mA 80 11,aA 81 1 79 80,lA 82 1 81,mA 83 4,iA 84 (.lit false 1 false (.int .i64 0) 1 [(0,(.t 83))]),iA 85 (.append true 1 8 (.t 82) (.t 84)),aA 86 1 77 78,sA 1 86 85]) .skip
abbrev qrn:=qr [mA 67 12,mA 68 67,gT 69 68 (oM 0),gT 70 68 (oF 1 7),gT 71 68 (oL 1 70),gT 72 68 (oM 9),gT 73 68 (.bin .add (.t 72) (cI 1)),gT 74 68 (.slc 1 (.t 71) (some (.t 73)) none none),gT 75 68 (cl 93 [(.t 69),(.t 74)]),pA 76 68 75] qwa
abbrev qwP:=qr [mA 57 0,nA 58 57,fA 59 7 58,lA 60 1 59,mA 61 8,mA 62 10,iA 63 (.build [(.int .i64 0),(.int .i64 0)] [(0,1,(.t 61)),(1,1,(.t 62))]),iA 64 (.mget true (.t 60) (.t 63)),mA 56 64,iA 65 (.ext (.t 56) 0),iA 66 (.ext (.t 56) 1),mA 11 65,mA 12 66] qrn
abbrev qub:EC:= .seq qwP (.reg [mA 87 0,nA 88 87,fA 89 5 88,lA 90 1 89,mA 91 8,mA 92 10,iA 93 (cl 94 [(.t 90),(.t 91),(.t 92)]),mA 8 93])
abbrev qwg:=qr [mA 53 51,aA 54 1 49 51,lA 55 1 54,mA 9 53,mA 10 55] qub
abbrev quw:EC:= .seq (.block 5 qwg) (.reg [bC 94 .add 51 1,mA 51 94])
abbrev qty:=qr [bA 52 .lss 51 50] (.seq (cd 52 .skip (.exit 4)) quw)
abbrev qs4:=qr [fA 48 1 7,lA 49 1 48,zA 50 49,iA 51 (.mov (cI 0))] (.block 4 (.loop qty))
abbrev qud:=qr [fA 46 0 5,lA 47 1 46,mA 8 47] qs4
abbrev qu2:=qr [aA 38 6 34 36,lG 39 6 38,iA 7 (.alloc 6 (.agg [(.int .i64 0),(.sl 1 true []),(.int .i64 0),(.str []),(.sl 1 true []),(.int .i64 0)])),sA 6 7 39] (.seq qqV qud)
abbrev qvw:EC:= .seq (.block 3 qu2) (.reg [bC 95 .add 36 1,mA 36 95])
abbrev qrR:=qr [bA 37 .lss 36 35] (.seq (cd 37 .skip (.exit 2)) qvw)
abbrev qri:=qr [mA 30 0,nA 31 30,fA 32 0 31,fA 33 2 32,lA 34 1 33,zA 35 34,iA 36 (.mov (cI 0))] (.block 2 (.loop qrR))
abbrev qvy:=qr [mA 27 25,aA 28 2 23 25,lG 29 2 28,iA 5 (.alloc 2 (.agg [(.int .i64 0),(.int .i64 0)])),mA 4 27,sA 2 5 29] qri
abbrev qsB:EC:= .seq (.block 1 qvy) (.reg [bC 96 .add 25 1,mA 25 96])
abbrev qs2:=qr [bA 26 .lss 25 24] (.seq (cd 26 .skip (.exit 0)) qsB)
abbrev qtF:=qr [mA 20 0,nA 21 20,fA 22 6 21,lA 23 1 22,zA 24 23,iA 25 (.mov (cI 0))] (.block 0 (.loop qs2))
abbrev qwO:=qr [mA 102 3,mA 103 13,aA 104 1 102 103,lA 105 1 104,iA 106 (cl 89 [.t 105])] (.reg [mA 107 3,mA 108 13,mA 109 3,mA 110 13,aA 111 1 109 110,lA 112 1 111,iA 113 (cl 90 [.t 112]),aA 114 1 107 108,sA 1 114 113])
abbrev qqF:EC:= .block 7 (qr [mA 101 99,mA 13 101] qwO)
abbrev quy:EC:= .seq qqF (.reg [bC 115 .add 99 1,mA 99 115])
abbrev quq:=qr [bA 100 .lss 99 98] (.seq (cd 100 .skip (.exit 6)) quy)
abbrev quY:=qr [mA 97 3,zA 98 97,iA 99 (.mov (cI 0))] (.block 6 (.loop quq))
abbrev qvz:EC:= .seq quY (qr [mA 116 3,mA 2 116] .ret)
abbrev qv8:=qr [mA 14 0,nA 15 14,fA 16 6 15,lA 17 1 16,zA 18 17,iA 19 (.mksl true 1 24 (.sl 1 true []) (.t 18) (.t 18)),mA 3 19] (.seq qtF qvz)
abbrev qlH:=qr [iA 2 (.mov (.c (.sl 1 true [])))] qv8
abbrev e59:EF:=⟨117,1,[(.inl 2)],qlH⟩
theorem quD:qd Tryz.prog {mu:=λt=>[19,85].contains t} Tryz.f59=some e59:=nm_
abbrev e60:EF:=dC (qd Tryz.prog {} Tryz.f60)
abbrev qvm:EC:=dK (dN e60 20)
theorem quc:qd Tryz.prog {} Tryz.f60=some e60:=nm_
abbrev e61:EF:=dC (qd Tryz.prog {} Tryz.f61)
abbrev qtL:EC:=dK (dN e61 16)
theorem qrv:qd Tryz.prog {} Tryz.f61=some e61:=nm_
abbrev e62:EF:=dC (qd Tryz.prog {} Tryz.f62)
abbrev qve:EC:=dK (dN e62 29)
theorem qwy:qd Tryz.prog {} Tryz.f62=some e62:=nm_
abbrev e63:EF:=dC (qd Tryz.prog {} Tryz.f63)
abbrev qxW:EC:=dK (dN e63 3)
theorem qu9:qd Tryz.prog {} Tryz.f63=some e63:=nm_
abbrev e64:EF:=dC (qd Tryz.prog {} Tryz.f64)
abbrev qre:EC:=dK (dN e64 55)
theorem qrO:qd Tryz.prog {} Tryz.f64=some e64:=nm_
abbrev e65:EF:=dC (qd Tryz.prog {} Tryz.f65)
abbrev qqA:EC:=dK (dN e65 23)
theorem qq6:qd Tryz.prog {} Tryz.f65=some e65:=nm_
abbrev e66:EF:=dC (qd Tryz.prog {} Tryz.f66)
abbrev qwq:EC:=dK (dN e66 18)
theorem qqR:qd Tryz.prog {} Tryz.f66=some e66:=nm_
abbrev e67:EF:=dC (qd Tryz.prog {} Tryz.f67)
abbrev qrk:EC:=dK (dN e67 23)
theorem qwi:qd Tryz.prog {} Tryz.f67=some e67:=nm_
abbrev e68:EF:=dC (qd Tryz.prog {} Tryz.f68)
abbrev qsU:EC:=dK (dN e68 29)
theorem qui:qd Tryz.prog {} Tryz.f68=some e68:=nm_
abbrev e69:EF:=dC (qd Tryz.prog {} Tryz.f69)
abbrev qta:EC:=dK (dN e69 23)
theorem qqO:qd Tryz.prog {} Tryz.f69=some e69:=nm_
abbrev e70:EF:=dC (qd Tryz.prog {mu:=λt=>[30,37].contains t,cl:=λr i=>([(48,4,Cls.l 26),(48,8,Cls.l 26),(48,12,Cls.l 26),(48,13,Cls.s 10),(76,3,Cls.l 9),(76,5,Cls.l 9),(76,9,Cls.s 26),(76,13,Cls.s 26),(16,7,Cls.w),(18,13,Cls.w),(24,4,Cls.b),(25,5,Cls.w),(26,3,Cls.b),(35,11,Cls.b),(36,5,Cls.w),(39,3,Cls.b),(46,16,Cls.w),(54,3,Cls.b)].find? λx=>x.1 == r && x.2.1 == i).map (·.2.2)} Tryz.f70)
abbrev qym:List Ins:=dK (dR e70 0)
abbrev qyL:EC:=dK (dN e70 5)
abbrev qyT:List Ins:=dK (dR e70 6)
abbrev qya:List Ins:=dK (dR e70 7)
abbrev qyw:List Ins:=dK (dR e70 8)
abbrev qsm:EC:=dK (dN e70 12)
abbrev qt2:List Ins:=dK (dR e70 13)
abbrev qtZ:EC:=dK (dN e70 17)
abbrev qej:EC:=dK (dN e70 40)
abbrev qtO:List Ins:=dK (dR e70 44)
abbrev qfb:EC:=dK (dN e70 49)
abbrev qwU:EC:=dK (dN e70 53)
abbrev qxm:List Ins:=dK (dR e70 54)
abbrev qva:EC:=dK (dN e70 58)
abbrev qfu:EC:=dK (dN e70 62)
abbrev qsY:List Ins:=dK (dR e70 66)
abbrev qeI:EC:=dK (dN e70 71)
abbrev quK:EC:=dK (dN e70 75)
abbrev qeU:EC:=dK (dN e70 92)
abbrev qrq:List Ins:=dK (dR e70 94)
abbrev qe0:EC:=dK (dN e70 99)
abbrev qav:EC:=dK (dN e70 103)
abbrev qaS:List Ins:=dK (dR e70 104)
abbrev qnJ:EC:=dK (dN e70 108)
abbrev qaH:EC:=dK (dN e70 120)
abbrev qoW:List Ins:=dK (dR e70 122)
abbrev qa1:EC:=dK (dN e70 127)
abbrev Vt:EC:=dK (dN e70 132)
abbrev YJ:List Ins:=dK (dR e70 133)
abbrev QJ:EC:=dK (dN e70 154)
abbrev QL:EC:=dK (dN e70 166)
abbrev Jq:List Ins:=dK (dR e70 167)
abbrev vF:EC:=dK (dN e70 184)
abbrev vH:List Ins:=dK (dR e70 185)
abbrev xU:EC:=dK (dN e70 197)
abbrev Qo:EC:=dK (dN e70 202)
abbrev Qa:List Ins:=dK (dR e70 203)
abbrev Qj:List Ins:=dK (dR e70 204)
abbrev qmg:EC:=dK (dN e70 226)
theorem qxq:qd Tryz.prog {mu:=λt=>[30,37].contains t,cl:=λr i=>([(48,4,Cls.l 26),(48,8,Cls.l 26),(48,12,Cls.l 26),(48,13,Cls.s 10),(76,3,Cls.l 9),(76,5,Cls.l 9),(76,9,Cls.s 26),(76,13,Cls.s 26),(16,7,Cls.w),(18,13,Cls.w),(24,4,Cls.b),(25,5,Cls.w),(26,3,Cls.b),(35,11,Cls.b),(36,5,Cls.w),(39,3,Cls.b),(46,16,Cls.w),(54,3,Cls.b)].find? λx=>x.1 == r && x.2.1 == i).map (·.2.2)} Tryz.f70=some e70:=nm_

abbrev e72:EF:=dC (qd Tryz.prog {mu:=λt=>[24,29,72].contains t} Tryz.f72)
abbrev qsu:EC:=dK (dN e72 64)
theorem qrI:qd Tryz.prog {mu:=λt=>[24,29,72].contains t} Tryz.f72=some e72:=nm_
abbrev e75:EF:=dC (qd Tryz.prog {mu:=λt=>[9,12,15].contains t,cl:=λr i=>([(11,2,Cls.w)].find? λx=>x.1 == r && x.2.1 == i).map (·.2.2)} Tryz.f75)
abbrev qv1:EC:=dK (dN e75 38)
theorem qvF:qd Tryz.prog {mu:=λt=>[9,12,15].contains t,cl:=λr i=>([(11,2,Cls.w)].find? λx=>x.1 == r && x.2.1 == i).map (·.2.2)} Tryz.f75=some e75:=nm_
abbrev e82:EF:=dC (qd Tryz.prog {} Tryz.f82)
abbrev qyW:EC:=dK (dN e82 3)
theorem qqB:qd Tryz.prog {} Tryz.f82=some e82:=nm_
abbrev e83:EF:=dC (qd Tryz.prog {} Tryz.f83)
abbrev qqL:EC:=dK (dN e83 31)
theorem qvh:qd Tryz.prog {} Tryz.f83=some e83:=nm_
abbrev e84:EF:=dC (qd Tryz.prog {} Tryz.f84)
abbrev quj:EC:=dK (dN e84 49)
theorem qsD:qd Tryz.prog {} Tryz.f84=some e84:=nm_
abbrev e85:EF:=dC (qd Tryz.prog {} Tryz.f85)
abbrev qyH:EC:=dK (dN e85 9)
theorem qsv:qd Tryz.prog {} Tryz.f85=some e85:=nm_
abbrev e86:EF:=dC (qd Tryz.prog {} Tryz.f86)
abbrev qv6:EC:=dK (dN e86 25)
theorem qtf:qd Tryz.prog {} Tryz.f86=some e86:=nm_
abbrev e87:EF:=dC (qd Tryz.prog {} Tryz.f87)
abbrev qsw:EC:=dK (dN e87 20)
theorem qtg:qd Tryz.prog {} Tryz.f87=some e87:=nm_
abbrev e88:EF:=dC (qd Tryz.prog {} Tryz.f88)
abbrev qyc:EC:=dK (dN e88 3)
theorem qxk:qd Tryz.prog {} Tryz.f88=some e88:=nm_
abbrev e90:EF:=dC (qd Tryz.prog {} Tryz.f90)
abbrev qvg:EC:=dK (dN e90 48)
theorem qtD:qd Tryz.prog {} Tryz.f90=some e90:=nm_
abbrev e91:EF:=dC (qd Tryz.prog {} Tryz.f91)
abbrev qyj:EC:=dK (dN e91 3)
theorem quJ:qd Tryz.prog {} Tryz.f91=some e91:=nm_
abbrev e92:EF:=dC (qd Tryz.prog {} Tryz.f92)
abbrev qyu:EC:=dK (dN e92 3)
theorem qrP:qd Tryz.prog {} Tryz.f92=some e92:=nm_
abbrev e93:EF:=dC (qd Tryz.prog {} Tryz.f93)
abbrev qxy:EC:=dK (dN e93 3)
theorem qqW:qd Tryz.prog {} Tryz.f93=some e93:=nm_
abbrev e94:EF:=dC (qd Tryz.prog {} Tryz.f94)
abbrev qse:EC:=dK (dN e94 22)
theorem qrM:qd Tryz.prog {} Tryz.f94=some e94:=nm_
abbrev e95:EF:=dC (qd Tryz.prog {} Tryz.f95)
abbrev qvQ:EC:=dK (dN e95 24)
theorem qsp:qd Tryz.prog {} Tryz.f95=some e95:=nm_
abbrev e96:EF:=dC (qd Tryz.prog {} Tryz.f96)
abbrev qyK:EC:=dK (dN e96 3)
theorem qs8:qd Tryz.prog {} Tryz.f96=some e96:=nm_
abbrev qyX:=cd 4 (qr [iA 2 (.mov (cI 64))] .ret) .skip
abbrev qyQ:=qr [mA 3 0,iA 4 (.bin .eql (.t 3) (.c (.int .u64 0)))] qyX
abbrev qyo:=qr [mA 5 0,mA 6 0,iA 7 (.un .neg (.t 6)),bA 8 .and 5 7,iA 9 (.bin .mul (.t 8) (.c (.int .u64 285870213051353865))),iA 10 (.bin .shr (.t 9) (.c (.int .u64 58))),iA 11 (.iaddrA 64 1 (.c (Glob.G Tryz.prog 0)) (.t 10)),lA 12 1 11,iA 13 (.conv .i64 (.t 12)),mA 2 13] .ret
abbrev qsP:=qr [iA 2 (.mov (cI 0))] (.seq qyQ qyo)
abbrev e97:EF:=⟨14,1,[(.inl 2)],qsP⟩
theorem qwj:qd Tryz.prog {} Tryz.f97=some e97:=nm_
abbrev e98:EF:=dC (qd Tryz.prog {} Tryz.f98)
abbrev qv2:EC:=dK (dN e98 73)
theorem qvc:qd Tryz.prog {} Tryz.f98=some e98:=nm_
abbrev e99:EF:=dC (qd Tryz.prog {mu:=λt=>[].contains t,cl:=λr i=>([(12,5,Cls.l 26),(12,7,Cls.l 8),(12,11,Cls.s 13),(12,14,Cls.s 13),(2,3,Cls.b),(6,5,Cls.w),(7,2,Cls.w),(11,5,Cls.w),(14,15,Cls.b),(15,5,Cls.w),(20,5,Cls.w)].find? λx=>x.1 == r && x.2.1 == i).map (·.2.2)} Tryz.f99)
abbrev qxU:List Ins:=dK (dR e99 0)
abbrev qs6:EC:=dK (dN e99 14)
abbrev qtM:List Ins:=dK (dR e99 15)
abbrev qsJ:List Ins:=dK (dR e99 16)
abbrev qef:EC:=dK (dN e99 25)
abbrev qwF:List Ins:=dK (dR e99 26)
abbrev quG:EC:=dK (dN e99 30)
abbrev KM:EC:=dK (dN e99 33)
abbrev qfv:EC:=dK (dN e99 36)
abbrev qe7:EC:=dK (dN e99 45)
abbrev qxl:EC:=dK (dN e99 51)
theorem qtx:qd Tryz.prog {mu:=λt=>[].contains t,cl:=λr i=>([(12,5,Cls.l 26),(12,7,Cls.l 8),(12,11,Cls.s 13),(12,14,Cls.s 13),(2,3,Cls.b),(6,5,Cls.w),(7,2,Cls.w),(11,5,Cls.w),(14,15,Cls.b),(15,5,Cls.w),(20,5,Cls.w)].find? λx=>x.1 == r && x.2.1 == i).map (·.2.2)} Tryz.f99=some e99:=nm_
abbrev e100:EF:=dC (qd Tryz.prog {} Tryz.f100)
abbrev qvi:EC:=dK (dN e100 3)
theorem ql1:qd Tryz.prog {} Tryz.f100=some e100:=nm_
abbrev qzv:EF:=dC (qd Tryz.prog {} Tryz.f101)
abbrev qob:EC:=dK (dN qzv 20)
theorem ql7:qd Tryz.prog {} Tryz.f101=some qzv:=nm_
abbrev qy6:EF:=dC (qd Tryz.prog {} Tryz.f102)
abbrev qqm:EC:=dK (dN qy6 20)
theorem qoT:qd Tryz.prog {} Tryz.f102=some qy6:=nm_
abbrev qbw:EF:=dC (qd Tryz.prog {mu:=λt=>[].contains t,cl:=λr i=>([(12,1,Cls.l 13),(12,3,Cls.l 13),(12,5,Cls.s 12),(12,7,Cls.s 12),(10,1,Cls.l 12),(10,5,Cls.v 12),(1,2,Cls.b),(20,8,Cls.b),(21,3,Cls.w),(22,7,Cls.w)].find? λx=>x.1 == r && x.2.1 == i).map (·.2.2)} Tryz.f103)
abbrev qrH:List Ins:=dK (dR qbw 0)
abbrev qsW:List Ins:=dK (dR qbw 1)
abbrev qq8:EC:=dK (dN qbw 5)
abbrev qrD:List Ins:=dK (dR qbw 6)
abbrev qv7:List Ins:=dK (dR qbw 7)
abbrev qd9:List Ins:=dK (dR qbw 8)
abbrev qry:List Ins:=dK (dR qbw 9)
abbrev qaC:List Ins:=dK (dR qbw 10)
abbrev qaZ:EC:=dK (dN qbw 15)
abbrev qpo:List Ins:=dK (dR qbw 23)
abbrev qbf:EC:=dK (dN qbw 28)
abbrev qaB:EC:=dK (dN qbw 43)
abbrev qaA:EC:=dK (dN qbw 53)
abbrev qbg:EC:=dK (dN qbw 56)
abbrev qmM:EC:=dK (dN qbw 61)
theorem qpJ:qd Tryz.prog {mu:=λt=>[].contains t,cl:=λr i=>([(12,1,Cls.l 13),(12,3,Cls.l 13),(12,5,Cls.s 12),(12,7,Cls.s 12),(10,1,Cls.l 12),(10,5,Cls.v 12),(1,2,Cls.b),(20,8,Cls.b),(21,3,Cls.w),(22,7,Cls.w)].find? λx=>x.1 == r && x.2.1 == i).map (·.2.2)} Tryz.f103=some qbw:=nm_
abbrev qzA:EF:=dC (qd Tryz.prog {} Tryz.f104)
abbrev qmb:EC:=dK (dN qzA 20)
theorem qne:qd Tryz.prog {} Tryz.f104=some qzA:=nm_
abbrev qy4:EF:=dC (qd Tryz.prog {} Tryz.f105)
abbrev qoz:EC:=dK (dN qy4 29)
theorem qmG:qd Tryz.prog {} Tryz.f105=some qy4:=nm_
abbrev qzb:EF:=dC (qd Tryz.prog {} Tryz.f106)
abbrev qvt:EC:=dK (dN qzb 3)
theorem qnc:qd Tryz.prog {} Tryz.f106=some qzb:=nm_
abbrev qyZ:EF:=dC (qd Tryz.prog {} Tryz.f107)
abbrev qrX:EC:=dK (dN qyZ 9)
theorem qni:qd Tryz.prog {} Tryz.f107=some qyZ:=nm_
abbrev qrp:=cd 8 (qr [mA 9 0,mA 2 9] .ret) .skip
abbrev qwo:=qr [mA 6 0,zA 7 6,bC 8 .lss 7 2] qrp
abbrev qt8:=qr [mA 10 3,mA 11 0,zA 12 11,bA 13 .lss 10 12] (cd 13 .skip (.exit 0))
abbrev qoO:=qr [mA 29 5,mA 30 4,zA 31 30,bA 32 .lss 29 31] (cd 32 .skip (.exit 2))
abbrev qqh:=qr [mA 45 0,mA 46 3,mA 47 4,mA 48 5,aA 49 2 47 48,lG 50 2 49,aA 51 2 45 46,sA 2 51 50] (.reg [mA 52 3,bC 53 .add 52 1,mA 3 53])
abbrev qnj:=qr [mN 35 4,mN 36 5,aN 37 2 35 36,iR 38 (oG 2 37),mN 39 4,mN 40 5,iN 41 (.bin .sub (.t 40) (cI 1)),aN 42 2 39 41,iR 43 (oG 2 42),iN 44 (.eqagg true [1,1] (.t 38) (.t 43))] (cd 44 qqh .skip)
abbrev qpc:EC:= .seq (.block 3 qnj) (.reg [mA 33 5,bC 34 .add 33 1,mA 5 34])
abbrev qnT:=qr [iA 5 (.mov (cI 1))] (.block 2 (.loop (.seq qoO qpc)))
abbrev qqa:=qr [mA 57 0,mA 58 3,iA 59 (.slc 2 (.t 57) none (some (.t 58)) none),mA 2 59] .ret
abbrev qn1:=qr [mA 54 0,mA 55 3,iA 56 (.slc 2 (.t 54) (some (.t 55)) none none),⟨none,none,.clear 0 .undef (.t 56),.any⟩] qqa
abbrev qqf:=qr [mA 26 0,mA 27 3,iA 28 (.slc 2 (.t 26) (some (.t 27)) none none),mA 4 28] (.seq qnT qn1)
abbrev qp5:=qr [mN 16 0,mN 17 3,aN 18 2 16 17,iR 19 (oG 2 18),mN 20 0,mN 21 3,iN 22 (.bin .sub (.t 21) (cI 1)),aN 23 2 20 22,iR 24 (oG 2 23),iN 25 (.eqagg false [1,1] (.t 19) (.t 24))] (cd 25 qqf .skip)
abbrev qpq:EC:= .seq (.block 1 qp5) (.reg [mA 14 3,bC 15 .add 14 1,mA 3 15])
abbrev qpd:=qr [iA 3 (.mov (cI 1))] (.block 0 (.loop (.seq qt8 qpq)))
abbrev qn5:EC:= .seq qpd (qr [mA 60 0,mA 2 60] .ret)
abbrev qiF:=qr [iA 2 (.mov (.c (.sl 2 true [])))] (.seq qwo qn5)
abbrev qzH:EF:=⟨61,1,[(.inl 2)],qiF⟩
theorem qmr:qd Tryz.prog {} Tryz.f110=some qzH:=nm_
abbrev e115:EF:=dC (qd Tryz.prog {mu:=λt=>[40].contains t,cl:=λr i=>([(8,2,Cls.w),(14,2,Cls.w)].find? λx=>x.1 == r && x.2.1 == i).map (·.2.2)} Tryz.f115)
abbrev qnQ:EC:=dK (dN e115 37)
theorem qoJ:qd Tryz.prog {mu:=λt=>[40].contains t,cl:=λr i=>([(8,2,Cls.w),(14,2,Cls.w)].find? λx=>x.1 == r && x.2.1 == i).map (·.2.2)} Tryz.f115=some e115:=nm_
abbrev e116:EF:=dC (qd Tryz.prog {} Tryz.f116)
abbrev qql:EC:=dK (dN e116 21)
theorem qnG:qd Tryz.prog {} Tryz.f116=some e116:=nm_
abbrev qvp:=qr [mN 9 5,iN 10 (.bin .gtr (.t 9) (cI 0)),mN 11 10,⟨(some 12),(some (11,true)),.mov (.t 0),.n⟩,⟨(some 13),(some (11,true)),.mov (.t 5),.n⟩,⟨(some 14),(some (11,true)),.bin .sub (.t 13) (cI 1),.n⟩,⟨(some 15),(some (11,true)),.iaddr 2 (.t 12) (.t 14),.n⟩,⟨(some 16),(some (11,true)),.faddr 0 (.t 15),.n⟩,⟨(some 17),(some (11,true)),.load false 1 (.t 16),.r⟩,⟨(some 18),(some (11,true)),.faddr 0 (.t 3),.n⟩,⟨(some 19),(some (11,true)),.load false 1 (.t 18),.r⟩,⟨(some 20),(some (11,true)),.bin .gtr (.t 17) (.t 19),.n⟩,⟨(some 21),(some (11,true)),.mov (.t 20),.n⟩,⟨(some 22),(some (21,false)),.mov (.t 0),.n⟩,⟨(some 23),(some (21,false)),.mov (.t 5),.n⟩,⟨(some 24),(some (21,false)),.bin .sub (.t 23) (cI 1),.n⟩,⟨(some 25),(some (21,false)),.iaddr 2 (.t 22) (.t 24),.n⟩,⟨(some 26),(some (21,false)),.faddr 0 (.t 25),.n⟩,⟨(some 27),(some (21,false)),.load false 1 (.t 26),.r⟩,⟨(some 28),(some (21,false)),.faddr 0 (.t 3),.n⟩,⟨(some 29),(some (21,false)),.load false 1 (.t 28),.r⟩,⟨(some 30),(some (21,false)),.bin .eql (.t 27) (.t 29),.n⟩,⟨(some 31),(some (21,false)),.mov (.t 30),.n⟩,⟨(some 32),(some (31,true)),.mov (.t 0),.n⟩,⟨(some 33),(some (31,true)),.mov (.t 5),.n⟩,⟨(some 34),(some (31,true)),.bin .sub (.t 33) (cI 1),.n⟩,⟨(some 35),(some (31,true)),.iaddr 2 (.t 32) (.t 34),.n⟩,⟨(some 36),(some (31,true)),.faddr 1 (.t 35),.n⟩,⟨(some 37),(some (31,true)),.load false 1 (.t 36),.r⟩,⟨(some 38),(some (31,true)),.faddr 1 (.t 3),.n⟩,⟨(some 39),(some (31,true)),.load false 1 (.t 38),.r⟩,⟨(some 40),(some (31,true)),.bin .gtr (.t 37) (.t 39),.n⟩,⟨(some 41),(some (21,false)),.pick (.t 31) (.t 40) (cB false),.n⟩,⟨(some 42),(some (11,true)),.pick (.t 21) (cB true) (.t 41),.n⟩,iN 43 (.pick (.t 11) (.t 42) (cB false))] (cd 43 .skip (.exit 0))
abbrev qrF:EC:= .block 1 (.reg [mA 44 5,bC 45 .sub 44 1,mA 5 45])
abbrev qor:=cd 56 (qr [mA 57 0,mA 4 57] .ret) .skip
abbrev ql5:=qr [mN 46 5,iN 47 (.bin .gtr (.t 46) (cI 0)),mN 48 47,⟨(some 49),(some (48,true)),.mov (.t 0),.n⟩,⟨(some 50),(some (48,true)),.mov (.t 5),.n⟩,⟨(some 51),(some (48,true)),.bin .sub (.t 50) (cI 1),.n⟩,⟨(some 52),(some (48,true)),.iaddr 2 (.t 49) (.t 51),.n⟩,⟨(some 53),(some (48,true)),.load true 2 (.t 52),.r⟩,⟨(some 54),(some (48,true)),.load true 2 (.t 3),.r⟩,⟨(some 55),(some (48,true)),.eqagg false [1,1] (.t 53) (.t 54),.n⟩,iN 56 (.pick (.t 48) (.t 55) (cB false))] qor
abbrev qoh:=qr [mN 63 6,iR 64 (oG 2 3),iN 65 (.lit false 2 true (.agg [(.int .i64 0),(.int .i64 0)]) 1 [(0,(.t 64))]),⟨(some 66),none,.append false 2 16 (.t 63) (.t 65),.t⟩,mN 67 0,mN 68 5,iN 69 (.slc 2 (.t 67) (some (.t 68)) none none),⟨(some 70),none,.append false 2 16 (.t 66) (.t 69),.t⟩,mN 4 70] .ret
abbrev qpD:=qr [iA 58 (.lit false 2 true (.agg [(.int .i64 0),(.int .i64 0)]) 0 []),mA 59 0,mA 60 5,iA 61 (.slc 2 (.t 59) none (some (.t 60)) none),iA 62 (.append false 2 16 (.t 58) (.t 61)),mA 6 62] qoh
abbrev qoj:EC:= .seq (.block 0 (.loop (.seq qvp qrF))) (.seq ql5 qpD)
abbrev qgE:=qr [iA 3 (.box 2 (.t 1)),iA 4 (.mov (.c (.sl 2 true [])))] (qr [mA 7 0,zA 8 7,mA 5 8] qoj)
abbrev e117:EF:=⟨71,2,[(.inl 4)],qgE⟩
theorem qmV:qd Tryz.prog {} Tryz.f117=some e117:=nm_
abbrev e118:EF:=dC (qd Tryz.prog {} Tryz.f118)
abbrev qw9:EC:=dK (dN e118 3)
theorem qpI:qd Tryz.prog {} Tryz.f118=some e118:=nm_
abbrev qr7:=cd 10 (qr [iA 4 (.mov (cB false))] .ret) .skip
abbrev qtr:=qr [mA 6 0,zA 7 6,mA 8 1,zA 9 8,bA 10 .neq 7 9] qr7
abbrev qtV:=qr [mA 11 5,mA 12 0,zA 13 12,bA 14 .lss 11 13] (cd 14 .skip (.exit 0))
abbrev qnK:=cd 25 (qr [iA 4 (.mov (cB false))] .ret) .skip
abbrev qoa:=qr [mN 17 0,mN 18 5,aN 19 2 17 18,iR 20 (oG 2 19),mN 21 1,mN 22 5,aN 23 2 21 22,iR 24 (oG 2 23),iN 25 (.eqagg true [1,1] (.t 20) (.t 24))] qnK
abbrev qoY:EC:= .seq (.block 1 qoa) (.reg [mA 15 5,bC 16 .add 15 1,mA 5 16])
abbrev qon:=qr [iA 5 (.mov (cI 0))] (.block 0 (.loop (.seq qtV qoY)))
abbrev qqp:EC:= .seq qon (qr [iA 4 (.mov (cB true))] .ret)
abbrev qjv:=qr [iA 4 (.mov (cB false))] (.seq qtr qqp)
abbrev e119:EF:=⟨26,2,[(.inl 4)],qjv⟩
theorem qmm:qd Tryz.prog {} Tryz.f119=some e119:=nm_
abbrev e120:EF:=dC (qd Tryz.prog {mu:=λt=>[13].contains t} Tryz.f120)
abbrev qmk:EC:=dK (dN e120 36)
theorem qpL:qd Tryz.prog {mu:=λt=>[13].contains t} Tryz.f120=some e120:=nm_
abbrev quL:=cd 16 (qr [mA 17 5,mA 4 17] .ret) .skip
abbrev qrG:=qr [iR 11 (oG 2 3),mN 12 0,mN 13 5,aN 14 2 12 13,iR 15 (oG 2 14),iN 16 (.eqagg false [1,1] (.t 11) (.t 15))] quL
abbrev qmx:EC:= .block 1 (qr [mA 10 8,mA 5 10] qrG)
abbrev qo8:EC:= .seq qmx (.reg [bC 18 .add 8 1,mA 8 18])
abbrev qm6:=qr [bA 9 .lss 8 7] (.seq (cd 9 .skip (.exit 0)) qo8)
abbrev qow:=qr [mA 6 0,zA 7 6,iA 8 (.mov (cI 0))] (.block 0 (.loop qm6))
abbrev qnS:EC:= .seq qow (qr [iA 4 (.mov (cI (-1)))] .ret)
abbrev qh4:=qr [iA 3 (.box 2 (.t 1)),iA 4 (.mov (cI 0))] qnS
abbrev qzR:EF:=⟨19,2,[(.inl 4)],qh4⟩
theorem qpY:qd Tryz.prog {} Tryz.f123=some qzR:=nm_
abbrev qzo:EF:=dC (qd Tryz.prog {} Tryz.f124)
abbrev qrl:EC:=dK (dN qzo 3)
theorem qnW:qd Tryz.prog {} Tryz.f124=some qzo:=nm_
abbrev e125:EF:=dC (qd Tryz.prog {} Tryz.f125)
abbrev qsk:EC:=dK (dN e125 3)
theorem qqq:qd Tryz.prog {} Tryz.f125=some e125:=nm_
abbrev e126:EF:=dC (qd Tryz.prog {} Tryz.f126)
abbrev qoH:EC:=dK (dN e126 26)
theorem qpK:qd Tryz.prog {} Tryz.f126=some e126:=nm_
abbrev e127:EF:=dC (qd Tryz.prog {} Tryz.f127)
abbrev qwH:EC:=dK (dN e127 3)
theorem qnd:qd Tryz.prog {} Tryz.f127=some e127:=nm_
abbrev e128:EF:=dC (qd Tryz.prog {} Tryz.f128)
abbrev qns:EC:=dK (dN e128 22)
theorem qmL:qd Tryz.prog {} Tryz.f128=some e128:=nm_
abbrev e129:EF:=dC (qd Tryz.prog {mu:=λt=>[44,56].contains t,cl:=λr i=>([(9,8,Cls.w),(10,8,Cls.w),(1,2,Cls.b),(7,3,Cls.b),(8,5,Cls.w)].find? λx=>x.1 == r && x.2.1 == i).map (·.2.2)} Tryz.f129)
abbrev qto:List Ins:=dK (dR e129 0)
abbrev quC:List Ins:=dK (dR e129 1)
abbrev qq2:EC:=dK (dN e129 6)
abbrev qrW:List Ins:=dK (dR e129 7)
abbrev qnz:EC:=dK (dN e129 16)
abbrev qds:EC:=dK (dN e129 22)
abbrev qg6:EC:=dK (dN e129 27)
theorem qmW:qd Tryz.prog {mu:=λt=>[44,56].contains t,cl:=λr i=>([(9,8,Cls.w),(10,8,Cls.w),(1,2,Cls.b),(7,3,Cls.b),(8,5,Cls.w)].find? λx=>x.1 == r && x.2.1 == i).map (·.2.2)} Tryz.f129=some e129:=nm_
abbrev qy1:EF:=dC (qd Tryz.prog {} Tryz.f130)
abbrev qmn:EC:=dK (dN qy1 20)
theorem qpn:qd Tryz.prog {} Tryz.f130=some qy1:=nm_
abbrev qy8:EF:=dC (qd Tryz.prog {mu:=λt=>[].contains t,cl:=λr i=>([(2,2,Cls.w),(3,3,Cls.b),(6,2,Cls.b),(8,5,Cls.w)].find? λx=>x.1 == r && x.2.1 == i).map (·.2.2)} Tryz.f131)
abbrev qnN:EC:=dK (dN qy8 27)
theorem qp6:qd Tryz.prog {mu:=λt=>[].contains t,cl:=λr i=>([(2,2,Cls.w),(3,3,Cls.b),(6,2,Cls.b),(8,5,Cls.w)].find? λx=>x.1 == r && x.2.1 == i).map (·.2.2)} Tryz.f131=some qy8:=nm_
abbrev qzt:EF:=dC (qd Tryz.prog {mu:=λt=>[57].contains t} Tryz.f135)
abbrev qmJ:EC:=dK (dN qzt 23)
theorem qmT:qd Tryz.prog {mu:=λt=>[57].contains t} Tryz.f135=some qzt:=nm_
abbrev qzi:EF:=dC (qd Tryz.prog {} Tryz.f136)
abbrev qoZ:EC:=dK (dN qzi 22)
theorem qoA:qd Tryz.prog {} Tryz.f136=some qzi:=nm_
abbrev qzj:EF:=dC (qd Tryz.prog {} Tryz.f148)
abbrev qnA:EC:=dK (dN qzj 22)
theorem qpg:qd Tryz.prog {} Tryz.f148=some qzj:=nm_
abbrev qzx:EF:=dC (qd Tryz.prog {} Tryz.f149)
abbrev ql3:EC:=dK (dN qzx 17)
theorem qo3:qd Tryz.prog {} Tryz.f149=some qzx:=nm_
abbrev qza:EF:=dC (qd Tryz.prog {} Tryz.f150)
abbrev qpS:EC:=dK (dN qza 14)
theorem qmU:qd Tryz.prog {} Tryz.f150=some qza:=nm_
abbrev qzw:EF:=dC (qd Tryz.prog {} Tryz.f151)
abbrev qsG:EC:=dK (dN qzw 3)
theorem qn8:qd Tryz.prog {} Tryz.f151=some qzw:=nm_
abbrev e152:EF:=dC (qd Tryz.prog {} Tryz.f152)
abbrev qpl:EC:=dK (dN e152 52)
theorem qqg:qd Tryz.prog {} Tryz.f152=some e152:=nm_
abbrev qy7:EF:=dC (qd Tryz.prog {} Tryz.f162)
abbrev qp7:EC:=dK (dN qy7 22)
theorem qpj:qd Tryz.prog {} Tryz.f162=some qy7:=nm_
abbrev e169:EF:=dC (qd Tryz.prog {} Tryz.f169)
abbrev qnP:EC:=dK (dN e169 30)
theorem qma:qd Tryz.prog {} Tryz.f169=some e169:=nm_
abbrev e170:EF:=dC (qd Tryz.prog {} Tryz.f170)
abbrev qsx:EC:=dK (dN e170 3)
theorem qmY:qd Tryz.prog {} Tryz.f170=some e170:=nm_
abbrev qzs:EF:=dC (qd Tryz.prog {} Tryz.f171)
abbrev qw7:EC:=dK (dN qzs 3)
theorem qm7:qd Tryz.prog {} Tryz.f171=some qzs:=nm_
abbrev qzm:EF:=dC (qd Tryz.prog {} Tryz.f172)
abbrev qp3:EC:=dK (dN qzm 98)
theorem qnC:qd Tryz.prog {} Tryz.f172=some qzm:=nm_
abbrev qzl:EF:=dC (qd Tryz.prog {} Tryz.f177)
abbrev qvq:EC:=dK (dN qzl 3)
theorem qm1:qd Tryz.prog {} Tryz.f177=some qzl:=nm_

abbrev qr6:=cd 14 .skip (.exit 0)
abbrev qvj:=qr [mA 11 5,mA 12 3,zA 13 12,bA 14 .lss 11 13] qr6
abbrev qpU:=cd 34 (.reg [mA 35 6,iA 36 (.lit false 1 false (.int .i64 0) 1 [(0,(cI 0))]),iA 37 (.append false 1 8 (.t 35) (.t 36)),mA 6 37]) .skip
abbrev qpX:=qr [mA 29 0,mA 30 7,aA 31 2 29 30,fA 32 0 31,lA 33 1 32,iA 34 (cl 55 [.t 33])] qpU
abbrev qom:=cd 45 .skip (.exit 2)
abbrev qo4:=qr [mA 38 8,mA 39 0,mA 40 7,aA 41 2 39 40,fA 42 1 41,lA 43 1 42,zA 44 43,bA 45 .lss 38 44] qom
abbrev qqd:=cd 57 (.reg [mA 58 6,mA 59 0,mA 60 7,aA 61 2 59 60,fA 62 1 61,lA 63 1 62,mA 64 8,aA 65 2 63 64,fA 66 0 65,lA 67 1 66,iA 68 (cl 37 [(.t 58),(.t 67)]),mA 6 68]) .skip
abbrev qms:=qr [mA 48 0,mA 49 7,aA 50 2 48 49,fA 51 1 50,lA 52 1 51,mA 53 8,aA 54 2 52 53,fA 55 0 54,lA 56 1 55,bC 57 .lss 56 1000] qqd
abbrev qpx:EC:= .block 3 qms
abbrev qo0:EC:= .seq qpx (.reg [mA 46 8,bC 47 .add 46 1,mA 8 47])
abbrev qnq:EC:= .seq qo4 qo0
abbrev qoE:EC:= .loop qnq
abbrev qp2:EC:= .block 2 qoE
abbrev qmK:=qr [iA 8 (.mov (cI 0))] qp2
abbrev qdT:EC:= .seq qmK (.reg [mA 69 4,mA 70 6,iA 71 (.lit false 1 false (.sl 1 true []) 1 [(0,(.t 70))]),iA 72 (.append true 1 24 (.t 69) (.t 71)),mA 4 72])
abbrev qhG:EC:= .seq qpX qdT
abbrev qgA:=qr [mN 17 0,mN 18 3,mN 19 5,aN 20 2 18 19,fN 21 0 20,lR 22 1 21,mN 23 3,mN 24 5,aN 25 2 23 24,fN 26 1 25,lR 27 1 26,iR 28 (cl 54 [(.t 17),(.t 22),(.t 27)]),mN 7 28] qhG
abbrev qhv:=qr [iA 6 (.mov (.c (.sl 1 true [])))] qgA
abbrev qhb:EC:= .block 1 qhv
abbrev qjD:EC:= .seq qhb (.reg [mA 15 5,bC 16 .add 15 1,mA 5 16])
abbrev qiI:EC:= .seq qvj qjD
abbrev qpB:EC:= .loop qiI
abbrev qpm:EC:= .block 0 qpB
abbrev qqi:=qr [iA 5 (.mov (cI 0))] qpm
abbrev qnI:=qr [mA 73 4,mA 2 73] .ret
abbrev qnb:EC:= .seq qqi qnI
abbrev qmQ:=qr [iA 4 (.mov (.c (.sl 1 true [])))] qnb
abbrev qn9:=qr [mA 9 0,iA 10 (cl 16 [.t 9]),mA 3 10] qmQ
abbrev qgJ:=qr [iA 2 (.mov (.c (.sl 1 true [])))] qn9
abbrev qzI:EF:=⟨74,1,[(.inl 2)],qgJ⟩
theorem qpF:qd Tryz.prog {mu:=λt=>[72].contains t} Tryz.f19=some qzI:=nm_
end Go.Proofs
