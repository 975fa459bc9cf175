import Derived.Test.YtkcegflhobejmaaGreatDoorXEC
import Derived.Test.YtkcegflhobejmaaGreatDoorProg
import Derived.KernelRfl
import Derived.Lib.TrailingZeros
namespace Go.Proofs
open Go.E
theorem nm_{p:Prop}(h:p:=by kernel_rfl):p:=h
instance:Glob Tryz.prog where
 G:=λg=>if g=0 then .iptr 64 (.agg (Lib.deBruijn64tab.map λ(n:Nat)=>V.int .u8 (n:Int))) 0 else .iptr 0 (.agg []) 0

set_option linter.all false
set_option maxRecDepth 100000
set_option maxHeartbeats 4000000
abbrev zz:List V:=List.replicate 625 (.int .i64 0)
abbrev iA(d:Nat)(o:EOp):Ins:=⟨some d,none,o,.any⟩
abbrev iN(d:Nat)(o:EOp):Ins:=⟨some d,none,o,.n⟩
abbrev iR(d:Nat)(o:EOp):Ins:=⟨some d,none,o,.r⟩
abbrev cI(n:Int):Opd:= .c (.int .i64 n)
abbrev cB(b:Bool):Opd:= .c (.bool b)
abbrev gT(d g:Nat)(o:EOp):Ins:=⟨some d,some (g,true),o,.any⟩
abbrev oM(s:Nat):EOp:= .mov (.t s)
abbrev oL(n s:Nat):EOp:= .load false n (.t s)
abbrev oG(n s:Nat):EOp:= .load true n (.t s)
abbrev oF(n s:Nat):EOp:= .faddr n (.t s)
abbrev mA(d s:Nat):Ins:=iA d (.mov (.t s))
abbrev mN(d s:Nat):Ins:=iN d (.mov (.t s))
abbrev lA(d n s:Nat):Ins:=iA d (.load false n (.t s))
abbrev lR(d n s:Nat):Ins:=iR d (.load false n (.t s))
abbrev lG(d n s:Nat):Ins:=iA d (.load true n (.t s))
abbrev fA(d n s:Nat):Ins:=iA d (.faddr n (.t s))
abbrev fN(d n s:Nat):Ins:=iN d (.faddr n (.t s))
abbrev nA(d s:Nat):Ins:=iA d (.nilck (.t s))
abbrev nN(d s:Nat):Ins:=iN d (.nilck (.t s))
abbrev zA(d s:Nat):Ins:=iA d (.len (.t s))
abbrev sA(n p x:Nat):Ins:=⟨none,none,.store n (.t p) (.t x),.any⟩
abbrev sW(n p x:Nat):Ins:=⟨none,none,.store n (.t p) (.t x),.w⟩
abbrev bA(d:Nat)(o:BinOp)(x y:Nat):Ins:=iA d (.bin o (.t x) (.t y))
abbrev bC(d:Nat)(o:BinOp)(x:Nat)(y:Int):Ins:=iA d (.bin o (.t x) (.c (.int .i64 y)))
abbrev aA(d z x y:Nat):Ins:=iA d (.iaddr z (.t x) (.t y))
abbrev aN(d z x y:Nat):Ins:=iN d (.iaddr z (.t x) (.t y))
abbrev pA(d x y:Nat):Ins:=iA d (.pick (.t x) (.t y) (.c (.bool false)))
abbrev cl(f:Nat)(l:List Opd):EOp:= .call (.c (.fn f [])) l
abbrev qr(l:List Ins)(b:EC):EC:= .seq (.reg l) b
abbrev cd(c:Nat)(a b:EC):EC:= .cond (.t c) a b
theorem dI(n:Nat):Int.ofNat n=(n:Int):=rfl
theorem dJ(n:Nat):Int.negSucc n= -((n+1:Nat):Int):=rfl
theorem dU(n:Nat)(h:n<256):UInt8.ofBitVec (BitVec.ofFin ⟨n,h⟩)=UInt8.ofNat n:=by apply UInt8.toNat_inj.1;rw[UInt8.toNat_ofNat_of_lt' (by simpa using h)];rfl
abbrev dC{α:Type}(x:Option α){y:α}(h:x=some y:=by conv=>(lhs;reduce;try simp only[dI,dJ,dU,Int.cast_ofNat_Int,Nat.reduceAdd,UInt8.reduceOfNat])):α:=y
abbrev dK{α:Type}(x:Option α){y:α}(h:x=some y:=by conv=>(lhs;reduce;try simp only[dI,dJ,dU,Int.cast_ofNat_Int,Nat.reduceAdd,UInt8.reduceOfNat])):α:=y
def ndL:EC->List EC
 |.reg l=>[.reg l]
 |.seq a b=>ndL a++(ndL b++[.seq a b])
 |.cond c a b=>ndL a++(ndL b++[.cond c a b])
 |.block i a=>ndL a++[.block i a]
 |.loop a=>ndL a++[.loop a]
 | _=>[]
abbrev dN(e:EF)(i:Nat):Option EC:=(ndL e.body)[i]?
def ndR:EC->List Ins
 |.reg l=>l
 | _=>[]
abbrev dR(e:EF)(i:Nat):Option (List Ins):=((ndL e.body)[i]?).map ndR
abbrev e8:EF:=dC (qd Tryz.prog {} Tryz.f8)
abbrev qxx:EC:=dK (dN e8 59)
theorem qxV:qd Tryz.prog {} Tryz.f8=some e8:=by kernel_rfl
abbrev e10:EF:=dC (qd Tryz.prog {} Tryz.f10)
abbrev qr2:EC:=dK (dN e10 11)
theorem qt9:qd Tryz.prog {} Tryz.f10=some e10:=by kernel_rfl
abbrev e12:EF:=dC (qd Tryz.prog {mu:=λt=>[23,35].contains t,cl:=λr i=>([(7,6,Cls.w)].find? λx=>x.1 == r && x.2.1 == i).map (·.2.2)} Tryz.f12)
abbrev qxE:List Ins:=dK (dR e12 0)
abbrev qxl:List Ins:=dK (dR e12 1)
abbrev qxa:List Ins:=dK (dR e12 2)
abbrev qwT:List Ins:=dK (dR e12 3)
abbrev qsL:EC:=dK (dN e12 15)
abbrev qsI:EC:=dK (dN e12 19)
abbrev qua:EC:=dK (dN e12 22)
abbrev qwo:List Ins:=dK (dR e12 23)
abbrev qvL:List Ins:=dK (dR e12 24)
abbrev qtE:List Ins:=dK (dR e12 25)
abbrev qhk:EC:=dK (dN e12 46)
abbrev qgA:EC:=dK (dN e12 50)
abbrev qhG:EC:=dK (dN e12 53)
abbrev qs4:List Ins:=dK (dR e12 61)
abbrev qfx:EC:=dK (dN e12 66)
abbrev qeq:EC:=dK (dN e12 81)
abbrev qid:List Ins:=dK (dR e12 82)
abbrev qvv:EC:=dK (dN e12 90)
theorem qvc:qd Tryz.prog {mu:=λt=>[23,35].contains t,cl:=λr i=>([(7,6,Cls.w)].find? λx=>x.1 == r && x.2.1 == i).map (·.2.2)} Tryz.f12=some e12:=by kernel_rfl
abbrev e13:EF:=dC (qd Tryz.prog {} Tryz.f13)
abbrev qri:EC:=dK (dN e13 13)
theorem qqR:qd Tryz.prog {} Tryz.f13=some e13:=by kernel_rfl
abbrev e15:EF:=dC (qd Tryz.prog {} Tryz.f15)
abbrev qsf:EC:=dK (dN e15 36)
theorem qqA:qd Tryz.prog {} Tryz.f15=some e15:=by kernel_rfl
abbrev e17:EF:=dC (qd Tryz.prog {} Tryz.f17)
abbrev qsZ:EC:=dK (dN e17 26)
theorem qrm:qd Tryz.prog {} Tryz.f17=some e17:=by kernel_rfl
abbrev e18:EF:=dC (qd Tryz.prog {} Tryz.f18)
abbrev qxC:EC:=dK (dN e18 5)
theorem qwd:qd Tryz.prog {} Tryz.f18=some e18:=by kernel_rfl
abbrev e20:EF:=dC (qd Tryz.prog {} Tryz.f20)
abbrev qxw:EC:=dK (dN e20 5)
theorem qtI:qd Tryz.prog {} Tryz.f20=some e20:=by kernel_rfl
abbrev e22:EF:=dC (qd Tryz.prog {} Tryz.f22)
abbrev qxR:EC:=dK (dN e22 3)
theorem qu7:qd Tryz.prog {} Tryz.f22=some e22:=by kernel_rfl
abbrev e24:EF:=dC (qd Tryz.prog {} Tryz.f24)
abbrev qsh:EC:=dK (dN e24 10)
theorem qqS:qd Tryz.prog {} Tryz.f24=some e24:=by kernel_rfl
abbrev e25:EF:=dC (qd Tryz.prog {} Tryz.f25)
abbrev qrd:EC:=dK (dN e25 26)
theorem qqX:qd Tryz.prog {} Tryz.f25=some e25:=by kernel_rfl
abbrev e26:EF:=dC (qd Tryz.prog {mu:=λt=>[].contains t,cl:=λr i=>([(1,5,Cls.b)].find? λx=>x.1 == r && x.2.1 == i).map (·.2.2)} Tryz.f26)
abbrev qxQ:EC:=dK (dN e26 3)
theorem qwa:qd Tryz.prog {mu:=λt=>[].contains t,cl:=λr i=>([(1,5,Cls.b)].find? λx=>x.1 == r && x.2.1 == i).map (·.2.2)} Tryz.f26=some e26:=by kernel_rfl
abbrev e28:EF:=dC (qd Tryz.prog {} Tryz.f28)
abbrev qxN:EC:=dK (dN e28 3)
theorem qs0:qd Tryz.prog {} Tryz.f28=some e28:=by kernel_rfl
abbrev e31:EF:=dC (qd Tryz.prog {mu:=λt=>[].contains t,cl:=λr i=>([(11,3,Cls.b)].find? λx=>x.1 == r && x.2.1 == i).map (·.2.2)} Tryz.f31)
abbrev qsb:EC:=dK (dN e31 54)
theorem qvO:qd Tryz.prog {mu:=λt=>[].contains t,cl:=λr i=>([(11,3,Cls.b)].find? λx=>x.1 == r && x.2.1 == i).map (·.2.2)} Tryz.f31=some e31:=by kernel_rfl
abbrev e34:EF:=dC (qd Tryz.prog {} Tryz.f34)
abbrev qxS:EC:=dK (dN e34 5)
theorem qwl:qd Tryz.prog {} Tryz.f34=some e34:=by kernel_rfl
abbrev e35:EF:=dC (qd Tryz.prog {mu:=λt=>[15,55].contains t} Tryz.f35)
abbrev qrc:EC:=dK (dN e35 56)
theorem qq5:qd Tryz.prog {mu:=λt=>[15,55].contains t} Tryz.f35=some e35:=by kernel_rfl
abbrev e36:EF:=dC (qd Tryz.prog {mu:=λt=>[25,99].contains t,cl:=λr i=>([(3,1,Cls.w)].find? λx=>x.1 == r && x.2.1 == i).map (·.2.2)} Tryz.f36)
abbrev qqB:List Ins:=dK (dR e36 13)
abbrev qto:EC:=dK (dN e36 14)
abbrev qwe:List Ins:=dK (dR e36 15)
abbrev qsn:EC:=dK (dN e36 19)
abbrev qil:EC:=dK (dN e36 36)
abbrev qrC:List Ins:=dK (dR e36 40)
abbrev qqY:EC:=dK (dN e36 79)
theorem qvC:qd Tryz.prog {mu:=λt=>[25,99].contains t,cl:=λr i=>([(3,1,Cls.w)].find? λx=>x.1 == r && x.2.1 == i).map (·.2.2)} Tryz.f36=some e36:=by kernel_rfl
abbrev e37:EF:=dC (qd Tryz.prog {} Tryz.f37)
abbrev quQ:EC:=dK (dN e37 22)
theorem qrK:qd Tryz.prog {} Tryz.f37=some e37:=by kernel_rfl
abbrev e38:EF:=dC (qd Tryz.prog {} Tryz.f38)
abbrev qu1:EC:=dK (dN e38 20)
theorem quz:qd Tryz.prog {} Tryz.f38=some e38:=by kernel_rfl
abbrev e39:EF:=dC (qd Tryz.prog {} Tryz.f39)
abbrev qrB:EC:=dK (dN e39 29)
theorem qtO:qd Tryz.prog {} Tryz.f39=some e39:=by kernel_rfl
abbrev e46:EF:=dC (qd Tryz.prog {mu:=λt=>[57].contains t} Tryz.f46)
abbrev qts:EC:=dK (dN e46 32)
theorem qrR:qd Tryz.prog {mu:=λt=>[57].contains t} Tryz.f46=some e46:=by kernel_rfl
abbrev e47:EF:=dC (qd Tryz.prog {} Tryz.f47)
abbrev qxm:EC:=dK (dN e47 3)
theorem qq1:qd Tryz.prog {} Tryz.f47=some e47:=by kernel_rfl
abbrev e48:EF:=dC (qd Tryz.prog {} Tryz.f48)
abbrev qub:EC:=dK (dN e48 17)
theorem qug:qd Tryz.prog {} Tryz.f48=some e48:=by kernel_rfl
abbrev e49:EF:=dC (qd Tryz.prog {} Tryz.f49)
abbrev qw5:EC:=dK (dN e49 3)
theorem qrS:qd Tryz.prog {} Tryz.f49=some e49:=by kernel_rfl
abbrev e50:EF:=dC (qd Tryz.prog {mu:=λt=>[17,87].contains t} Tryz.f50)
abbrev quR:EC:=dK (dN e50 74)
theorem qur:qd Tryz.prog {mu:=λt=>[17,87].contains t} Tryz.f50=some e50:=by kernel_rfl
abbrev qxM:=qr [mA 24 22,aA 25 2 20 22,lG 26 2 25,iA 7 (.alloc 2 (.agg [(.int .i64 0),(.int .i64 0)])),mA 6 24,sA 2 7 26] (.reg [mN 27 5,nN 28 27,fN 29 7 28,lR 30 1 29,iR 31 (oG 2 7),mN 32 6,⟨none,none,.mset (.t 30) (.t 31) (.t 32),.w⟩])
abbrev quG:EC:= .seq (.block 1 qxM) (.reg [bC 33 .add 22 1,mA 22 33])
abbrev qvd:=qr [bA 23 .lss 22 21] (.seq (cd 23 .skip (.exit 0)) quG)
abbrev qvw:=qr [mA 17 5,nA 18 17,fA 19 6 18,lA 20 1 19,zA 21 20,iA 22 (.mov (cI 0))] (.block 0 (.loop qvd))
abbrev qt8:EC:= .seq qvw (qr [mA 34 5,mA 4 34] .ret)
abbrev quD:=qr [iR 8 (oG 5 2),mN 9 1,mN 10 1,iR 11 (cl 15 [.t 10]),⟨(some 12),none,.mkmap,.a⟩,iR 13 (oG 5 2),iR 14 (cl 88 [.t 13]),iN 15 (.build [(.sl 6 true []),(.sl 2 true []),(.sl 6 true []),(.str []),(.str []),(.sl 2 true []),(.sl 2 true []),.nilmap,(.sl 1 true [])] [(0,5,(.t 8)),(5,1,(.t 9)),(6,1,(.t 11)),(7,1,(.t 12)),(8,1,(.t 14))]),⟨(some 16),none,.box 9 (.t 15),.a⟩,mN 5 16] qt8
abbrev qlg:=qr [iA 2 (.box 5 (.t 0)),iA 4 (.mov (.c .nilp))] quD
abbrev e51:EF:=⟨35,2,[(.inl 4)],qlg⟩
theorem qrH:qd Tryz.prog {} Tryz.f51=some e51:=by kernel_rfl
abbrev e52:EF:=dC (qd Tryz.prog {mu:=λt=>[14].contains t} Tryz.f52)
abbrev qrW:EC:=dK (dN e52 24)
theorem qqO:qd Tryz.prog {mu:=λt=>[14].contains t} Tryz.f52=some e52:=by kernel_rfl
abbrev qwS:=cd 21 (.reg [mA 22 5,iA 23 (.lit false 1 false (.int .i64 0) 1 [(0,(cI 0))]),iA 24 (.append true 1 8 (.t 22) (.t 23)),mA 5 24]) .skip
abbrev qxW:=qr [fA 18 0 6,lA 19 1 18,iA 20 (.build [(.int .i64 0),(.int .i64 0)] [(0,1,(cI 0)),(1,1,(cI 1))]),iA 21 (cl 92 [(.t 19),(.t 20)])] qwS
abbrev qra:=cd 34 (.reg [mA 35 5,fA 36 0 8,lA 37 1 36,iA 38 (.lit false 1 false (.int .i64 0) 1 [(0,(.t 37))]),iA 39 (.append true 1 8 (.t 35) (.t 38)),mA 5 39]) .skip
abbrev qvH:=qr [fA 32 0 8,lA 33 1 32,bC 34 .lss 33 1000] qra
abbrev qvY:=qr [aA 30 2 26 28,lG 31 2 30,iA 8 (.alloc 2 (.agg [(.int .i64 0),(.int .i64 0)])),sA 2 8 31] qvH
abbrev quc:EC:= .seq (.block 1 qvY) (.reg [bC 40 .add 28 1,mA 28 40])
abbrev qsU:=qr [bA 29 .lss 28 27] (.seq (cd 29 .skip (.exit 0)) quc)
abbrev qtW:=qr [fA 25 1 6,lA 26 1 25,zA 27 26,iA 28 (.mov (cI 0))] (.block 0 (.loop qsU))
abbrev qip:EC:= .seq qtW (qr [mA 41 5,mA 4 41] .ret)
abbrev qll:EC:= .seq qxW qip
abbrev qlj:=qr [mN 9 0,nN 10 9,fN 11 5 10,lR 12 1 11,mN 13 0,iR 14 (oG 2 3),⟨(some 15),none,.call (.c (.fn 91 [])) [(.t 13),(.t 14)],.b⟩,aN 16 2 12 15,iR 17 (oG 2 16),⟨(some 6),none,.alloc 2 (.agg [(.sl 2 true []),(.sl 2 true [])]),.a⟩,sW 2 6 17] qll
abbrev qlp:=qr [iA 5 (.mov (.c (.sl 1 true [])))] qlj
abbrev qiV:=qr [iA 3 (.box 2 (.t 1)),iA 4 (.mov (.c (.sl 1 true [])))] qlp
abbrev e53:EF:=⟨42,2,[(.inl 4)],qiV⟩
theorem qup:qd Tryz.prog {mu:=λt=>[24,39].contains t,cl:=λr i=>([(2,6,Cls.b)].find? λx=>x.1 == r && x.2.1 == i).map (·.2.2)} Tryz.f53=some e53:=by kernel_rfl
abbrev qwM:=cd 38 (.reg [mN 39 5,mN 40 0,nN 41 40,fN 42 7 41,lR 43 1 42,mN 44 6,fN 45 0 8,lR 46 1 45,iN 47 (.build [(.int .i64 0),(.int .i64 0)] [(0,1,(.t 44)),(1,1,(.t 46))]),iN 48 (.mget false (.t 43) (.t 47)),iN 49 (.lit false 1 false (.int .i64 0) 1 [(0,(.t 48))]),⟨(some 50),none,.append true 1 8 (.t 39) (.t 49),.w⟩,mN 5 50]) .skip
abbrev qwq:=qr [fN 25 0 8,lR 26 1 25,iN 27 (.bin .geq (.t 26) (cI 1000)),mN 28 27,⟨(some 29),(some (28,true)),.mov (.t 0),.n⟩,⟨(some 30),(some (28,true)),.nilck (.t 29),.n⟩,⟨(some 31),(some (28,true)),.faddr 8 (.t 30),.n⟩,⟨(some 32),(some (28,true)),.load false 1 (.t 31),.r⟩,⟨(some 33),(some (28,true)),.faddr 0 (.t 8),.n⟩,⟨(some 34),(some (28,true)),.load false 1 (.t 33),.r⟩,⟨(some 35),(some (28,true)),.bin .sub (.t 34) (cI 1000),.n⟩,⟨(some 36),(some (28,true)),.iaddr 1 (.t 32) (.t 35),.n⟩,⟨(some 37),(some (28,true)),.load false 1 (.t 36),.r⟩,iN 38 (.pick (.t 28) (.t 37) (cB false))] qwM
abbrev qtB:=qr [aA 23 2 19 21,lG 24 2 23,iA 8 (.alloc 2 (.agg [(.int .i64 0),(.int .i64 0)])),sA 2 8 24] qwq
abbrev qrE:EC:= .seq (.block 1 qtB) (.reg [bC 51 .add 21 1,mA 21 51])
abbrev qqC:=qr [bA 22 .lss 21 20] (.seq (cd 22 .skip (.exit 0)) qrE)
abbrev qrj:=qr [mA 12 0,nA 13 12,fA 14 5 13,lA 15 1 14,mA 16 6,aA 17 2 15 16,fA 18 1 17,lA 19 1 18,zA 20 19,iA 21 (.mov (cI 0))] (.block 0 (.loop qqC))
abbrev qqL:EC:= .seq qrj (qr [mA 52 5,mA 4 52] .ret)
abbrev qrp:=qr [mA 9 0,lG 10 2 3,iA 11 (cl 91 [(.t 9),(.t 10)]),mA 6 11] qqL
abbrev qsr:=qr [iA 5 (.mov (.c (.sl 1 true [])))] qrp
abbrev qlm:=qr [iA 3 (.box 2 (.t 1)),iA 4 (.mov (.c (.sl 1 true [])))] qsr
abbrev e56:EF:=⟨53,2,[(.inl 4)],qlm⟩
theorem qsd:qd Tryz.prog {mu:=λt=>[50].contains t,cl:=λr i=>([(7,11,Cls.w),(2,2,Cls.b)].find? λx=>x.1 == r && x.2.1 == i).map (·.2.2)} Tryz.f56=some e56:=by kernel_rfl
abbrev qt4:=qr [fA 40 0 7,lA 41 1 40,iA 42 (.bin .add (cI 1000) (.t 41)),fA 43 1 5,lA 44 1 43,bA 45 .neq 42 44] (cd 45 (.exit 3) .skip)
abbrev qsi:=cd 76 (.reg [mA 77 3,mA 78 11,mA 79 3,mA 80 11,aA 81 1 79 80,lA 82 1 81,mA 83 4,iA 84 (.lit false 1 false (.int .i64 0) 1 [(0,(.t 83))]),iA 85 (.append true 1 8 (.t 82) (.t 84)),aA 86 1 77 78,sA 1 86 85]) .skip
abbrev qvf:=qr [mA 67 12,mA 68 67,gT 69 68 (oM 0),gT 70 68 (oF 1 7),gT 71 68 (oL 1 70),gT 72 68 (oM 9),gT 73 68 (.bin .add (.t 72) (cI 1)),gT 74 68 (.slc 1 (.t 71) (some (.t 73)) none none),gT 75 68 (cl 93 [(.t 69),(.t 74)]),pA 76 68 75] qsi
abbrev qqH:=qr [mA 57 0,nA 58 57,fA 59 7 58,lA 60 1 59,mA 61 8,mA 62 10,iA 63 (.build [(.int .i64 0),(.int .i64 0)] [(0,1,(.t 61)),(1,1,(.t 62))]),iA 64 (.mget true (.t 60) (.t 63)),mA 56 64,iA 65 (.ext (.t 56) 0),iA 66 (.ext (.t 56) 1),mA 11 65,mA 12 66] qvf
abbrev qtl:EC:= .seq qqH (.reg [mA 87 0,nA 88 87,fA 89 5 88,lA 90 1 89,mA 91 8,mA 92 10,iA 93 (cl 94 [(.t 90),(.t 91),(.t 92)]),mA 8 93])
abbrev qsT:=qr [mA 53 51,aA 54 1 49 51,lA 55 1 54,mA 9 53,mA 10 55] qtl
abbrev qvz:EC:= .seq (.block 5 qsT) (.reg [bC 94 .add 51 1,mA 51 94])
abbrev qq6:=qr [bA 52 .lss 51 50] (.seq (cd 52 .skip (.exit 4)) qvz)
abbrev qvT:=qr [fA 48 1 7,lA 49 1 48,zA 50 49,iA 51 (.mov (cI 0))] (.block 4 (.loop qq6))
abbrev quk:=qr [fA 46 0 5,lA 47 1 46,mA 8 47] qvT
abbrev qvx:=qr [aA 38 6 34 36,lG 39 6 38,iA 7 (.alloc 6 (.agg [(.int .i64 0),(.sl 1 true []),(.int .i64 0),(.str []),(.sl 1 true []),(.int .i64 0)])),sA 6 7 39] (.seq qt4 quk)
abbrev qrZ:EC:= .seq (.block 3 qvx) (.reg [bC 95 .add 36 1,mA 36 95])
abbrev quw:=qr [bA 37 .lss 36 35] (.seq (cd 37 .skip (.exit 2)) qrZ)
abbrev qt1:=qr [mA 30 0,nA 31 30,fA 32 0 31,fA 33 2 32,lA 34 1 33,zA 35 34,iA 36 (.mov (cI 0))] (.block 2 (.loop quw))
abbrev qsJ:=qr [mA 27 25,aA 28 2 23 25,lG 29 2 28,iA 5 (.alloc 2 (.agg [(.int .i64 0),(.int .i64 0)])),mA 4 27,sA 2 5 29] qt1
abbrev qvF:EC:= .seq (.block 1 qsJ) (.reg [bC 96 .add 25 1,mA 25 96])
abbrev qvW:=qr [bA 26 .lss 25 24] (.seq (cd 26 .skip (.exit 0)) qvF)
abbrev qq4:=qr [mA 20 0,nA 21 20,fA 22 6 21,lA 23 1 22,zA 24 23,iA 25 (.mov (cI 0))] (.block 0 (.loop qvW))
abbrev qu6:=qr [mA 102 3,mA 103 13,aA 104 1 102 103,lA 105 1 104,iA 106 (cl 89 [.t 105])] (.reg [mA 107 3,mA 108 13,mA 109 3,mA 110 13,aA 111 1 109 110,lA 112 1 111,iA 113 (cl 90 [.t 112]),aA 114 1 107 108,sA 1 114 113])
abbrev qul:EC:= .block 7 (qr [mA 101 99,mA 13 101] qu6)
abbrev qu3:EC:= .seq qul (.reg [bC 115 .add 99 1,mA 99 115])
abbrev qsN:=qr [bA 100 .lss 99 98] (.seq (cd 100 .skip (.exit 6)) qu3)
abbrev qwy:=qr [mA 97 3,zA 98 97,iA 99 (.mov (cI 0))] (.block 6 (.loop qsN))
abbrev quZ:EC:= .seq qwy (qr [mA 116 3,mA 2 116] .ret)
abbrev qui:=qr [mA 14 0,nA 15 14,fA 16 6 15,lA 17 1 16,zA 18 17,iA 19 (.mksl true 1 24 (.sl 1 true []) (.t 18) (.t 18)),mA 3 19] (.seq qq4 quZ)
abbrev qlw:=qr [iA 2 (.mov (.c (.sl 1 true [])))] qui
abbrev e59:EF:=⟨117,1,[(.inl 2)],qlw⟩
theorem qsR:qd Tryz.prog {mu:=λt=>[19,85].contains t} Tryz.f59=some e59:=by kernel_rfl
abbrev e62:EF:=dC (qd Tryz.prog {} Tryz.f62)
abbrev qqF:EC:=dK (dN e62 29)
theorem qtZ:qd Tryz.prog {} Tryz.f62=some e62:=by kernel_rfl
abbrev e63:EF:=dC (qd Tryz.prog {} Tryz.f63)
abbrev qxz:EC:=dK (dN e63 3)
theorem qsP:qd Tryz.prog {} Tryz.f63=some e63:=by kernel_rfl
abbrev e65:EF:=dC (qd Tryz.prog {} Tryz.f65)
abbrev qsc:EC:=dK (dN e65 23)
theorem qr5:qd Tryz.prog {} Tryz.f65=some e65:=by kernel_rfl
abbrev e66:EF:=dC (qd Tryz.prog {} Tryz.f66)
abbrev qvh:EC:=dK (dN e66 18)
theorem qs3:qd Tryz.prog {} Tryz.f66=some e66:=by kernel_rfl
abbrev e67:EF:=dC (qd Tryz.prog {} Tryz.f67)
abbrev qum:EC:=dK (dN e67 23)
theorem qu8:qd Tryz.prog {} Tryz.f67=some e67:=by kernel_rfl
abbrev e68:EF:=dC (qd Tryz.prog {} Tryz.f68)
abbrev qsC:EC:=dK (dN e68 29)
theorem qqM:qd Tryz.prog {} Tryz.f68=some e68:=by kernel_rfl
abbrev e70:EF:=dC (qd Tryz.prog {mu:=λt=>[30,37].contains t,cl:=λr i=>([(48,4,Cls.l 26),(48,8,Cls.l 26),(48,12,Cls.l 26),(48,13,Cls.s 10),(76,3,Cls.l 9),(76,5,Cls.l 9),(76,9,Cls.s 26),(76,13,Cls.s 26),(16,7,Cls.w),(18,13,Cls.w),(24,4,Cls.b),(25,5,Cls.w),(26,3,Cls.b),(35,11,Cls.b),(36,5,Cls.w),(39,3,Cls.b),(46,16,Cls.w),(54,3,Cls.b)].find? λx=>x.1 == r && x.2.1 == i).map (·.2.2)} Tryz.f70)
abbrev qwO:List Ins:=dK (dR e70 0)
abbrev qxv:EC:=dK (dN e70 5)
abbrev qw0:List Ins:=dK (dR e70 6)
abbrev qxG:List Ins:=dK (dR e70 7)
abbrev qwE:List Ins:=dK (dR e70 8)
abbrev qvR:EC:=dK (dN e70 12)
abbrev qsX:List Ins:=dK (dR e70 13)
abbrev qv3:EC:=dK (dN e70 17)
abbrev qfg:EC:=dK (dN e70 40)
abbrev quj:List Ins:=dK (dR e70 44)
abbrev qff:EC:=dK (dN e70 49)
abbrev quK:EC:=dK (dN e70 53)
abbrev qqK:List Ins:=dK (dR e70 54)
abbrev qtQ:EC:=dK (dN e70 58)
abbrev qel:EC:=dK (dN e70 62)
abbrev quu:List Ins:=dK (dR e70 66)
abbrev qe9:EC:=dK (dN e70 71)
abbrev qro:EC:=dK (dN e70 75)
abbrev qeH:EC:=dK (dN e70 92)
abbrev quE:List Ins:=dK (dR e70 94)
abbrev qe4:EC:=dK (dN e70 99)
abbrev qa4:EC:=dK (dN e70 103)
abbrev qaP:List Ins:=dK (dR e70 104)
abbrev qme:EC:=dK (dN e70 108)
abbrev qbp:EC:=dK (dN e70 120)
abbrev qp3:List Ins:=dK (dR e70 122)
abbrev qaM:EC:=dK (dN e70 127)
abbrev Vx:EC:=dK (dN e70 132)
abbrev YN:List Ins:=dK (dR e70 133)
abbrev QY:EC:=dK (dN e70 154)
abbrev Q5:EC:=dK (dN e70 166)
abbrev Jy:List Ins:=dK (dR e70 167)
abbrev vE:EC:=dK (dN e70 184)
abbrev vV:List Ins:=dK (dR e70 185)
abbrev xZ:EC:=dK (dN e70 197)
abbrev Qk:EC:=dK (dN e70 202)
abbrev Qp:List Ins:=dK (dR e70 203)
abbrev Qm:List Ins:=dK (dR e70 204)
abbrev qml:EC:=dK (dN e70 226)
theorem qsk:qd Tryz.prog {mu:=λt=>[30,37].contains t,cl:=λr i=>([(48,4,Cls.l 26),(48,8,Cls.l 26),(48,12,Cls.l 26),(48,13,Cls.s 10),(76,3,Cls.l 9),(76,5,Cls.l 9),(76,9,Cls.s 26),(76,13,Cls.s 26),(16,7,Cls.w),(18,13,Cls.w),(24,4,Cls.b),(25,5,Cls.w),(26,3,Cls.b),(35,11,Cls.b),(36,5,Cls.w),(39,3,Cls.b),(46,16,Cls.w),(54,3,Cls.b)].find? λx=>x.1 == r && x.2.1 == i).map (·.2.2)} Tryz.f70=some e70:=by kernel_rfl
abbrev e71:EF:=dC (qd Tryz.prog {} Tryz.f71)
abbrev qsA:EC:=dK (dN e71 35)
theorem qrh:qd Tryz.prog {} Tryz.f71=some e71:=by kernel_rfl
abbrev e72:EF:=dC (qd Tryz.prog {mu:=λt=>[24,29,72].contains t} Tryz.f72)
abbrev qqI:EC:=dK (dN e72 64)
theorem qr7:qd Tryz.prog {mu:=λt=>[24,29,72].contains t} Tryz.f72=some e72:=by kernel_rfl
abbrev e73:EF:=dC (qd Tryz.prog {} Tryz.f73)
abbrev qqu:EC:=dK (dN e73 25)
theorem qv9:qd Tryz.prog {} Tryz.f73=some e73:=by kernel_rfl

abbrev e74:EF:=dC (qd Tryz.prog {} Tryz.f74)
abbrev qxe:EC:=dK (dN e74 9)
theorem qqZ:qd Tryz.prog {} Tryz.f74=some e74:=by kernel_rfl
abbrev e75:EF:=dC (qd Tryz.prog {mu:=λt=>[9,12,15].contains t,cl:=λr i=>([(11,2,Cls.w)].find? λx=>x.1 == r && x.2.1 == i).map (·.2.2)} Tryz.f75)
abbrev qq9:EC:=dK (dN e75 38)
theorem qrk:qd Tryz.prog {mu:=λt=>[9,12,15].contains t,cl:=λr i=>([(11,2,Cls.w)].find? λx=>x.1 == r && x.2.1 == i).map (·.2.2)} Tryz.f75=some e75:=by kernel_rfl
abbrev e82:EF:=dC (qd Tryz.prog {} Tryz.f82)
abbrev qxg:EC:=dK (dN e82 3)
theorem qss:qd Tryz.prog {} Tryz.f82=some e82:=by kernel_rfl
abbrev e83:EF:=dC (qd Tryz.prog {} Tryz.f83)
abbrev qt0:EC:=dK (dN e83 31)
theorem qr8:qd Tryz.prog {} Tryz.f83=some e83:=by kernel_rfl
abbrev e84:EF:=dC (qd Tryz.prog {} Tryz.f84)
abbrev qrT:EC:=dK (dN e84 49)
theorem qs9:qd Tryz.prog {} Tryz.f84=some e84:=by kernel_rfl
abbrev e85:EF:=dC (qd Tryz.prog {} Tryz.f85)
abbrev qw9:EC:=dK (dN e85 9)
theorem quB:qd Tryz.prog {} Tryz.f85=some e85:=by kernel_rfl
abbrev e86:EF:=dC (qd Tryz.prog {} Tryz.f86)
abbrev qth:EC:=dK (dN e86 25)
theorem qwx:qd Tryz.prog {} Tryz.f86=some e86:=by kernel_rfl
abbrev e87:EF:=dC (qd Tryz.prog {} Tryz.f87)
abbrev qwb:EC:=dK (dN e87 20)
theorem quO:qd Tryz.prog {} Tryz.f87=some e87:=by kernel_rfl
abbrev e88:EF:=dC (qd Tryz.prog {} Tryz.f88)
abbrev qw1:EC:=dK (dN e88 3)
theorem qsj:qd Tryz.prog {} Tryz.f88=some e88:=by kernel_rfl
abbrev e90:EF:=dC (qd Tryz.prog {} Tryz.f90)
abbrev qtF:EC:=dK (dN e90 48)
theorem qvX:qd Tryz.prog {} Tryz.f90=some e90:=by kernel_rfl
abbrev e91:EF:=dC (qd Tryz.prog {} Tryz.f91)
abbrev qwU:EC:=dK (dN e91 3)
theorem qtv:qd Tryz.prog {} Tryz.f91=some e91:=by kernel_rfl
abbrev e92:EF:=dC (qd Tryz.prog {} Tryz.f92)
abbrev qw8:EC:=dK (dN e92 3)
theorem quU:qd Tryz.prog {} Tryz.f92=some e92:=by kernel_rfl
abbrev e93:EF:=dC (qd Tryz.prog {} Tryz.f93)
abbrev qxH:EC:=dK (dN e93 3)
theorem qvJ:qd Tryz.prog {} Tryz.f93=some e93:=by kernel_rfl
abbrev e94:EF:=dC (qd Tryz.prog {} Tryz.f94)
abbrev qwt:EC:=dK (dN e94 22)
theorem qwj:qd Tryz.prog {} Tryz.f94=some e94:=by kernel_rfl
abbrev e95:EF:=dC (qd Tryz.prog {} Tryz.f95)
abbrev qtf:EC:=dK (dN e95 24)
theorem qsE:qd Tryz.prog {} Tryz.f95=some e95:=by kernel_rfl
abbrev e96:EF:=dC (qd Tryz.prog {} Tryz.f96)
abbrev qw4:EC:=dK (dN e96 3)
theorem qtG:qd Tryz.prog {} Tryz.f96=some e96:=by kernel_rfl
abbrev qxk:=cd 4 (qr [iA 2 (.mov (cI 64))] .ret) .skip
abbrev qxs:=qr [mA 3 0,iA 4 (.bin .eql (.t 3) (.c (.int .u64 0)))] qxk
abbrev qxh:=qr [mA 5 0,mA 6 0,iA 7 (.un .neg (.t 6)),bA 8 .and 5 7,iA 9 (.bin .mul (.t 8) (.c (.int .u64 285870213051353865))),iA 10 (.bin .shr (.t 9) (.c (.int .u64 58))),iA 11 (.iaddrA 64 1 (.c (Glob.G Tryz.prog 0)) (.t 10)),lA 12 1 11,iA 13 (.conv .i64 (.t 12)),mA 2 13] .ret
abbrev qrI:=qr [iA 2 (.mov (cI 0))] (.seq qxs qxh)
abbrev e97:EF:=⟨14,1,[(.inl 2)],qrI⟩
theorem qse:qd Tryz.prog {} Tryz.f97=some e97:=by kernel_rfl
abbrev e98:EF:=dC (qd Tryz.prog {} Tryz.f98)
abbrev qqN:EC:=dK (dN e98 73)
theorem qtw:qd Tryz.prog {} Tryz.f98=some e98:=by kernel_rfl
abbrev e99:EF:=dC (qd Tryz.prog {mu:=λt=>[].contains t,cl:=λr i=>([(12,5,Cls.l 26),(12,7,Cls.l 8),(12,11,Cls.s 13),(12,14,Cls.s 13),(2,3,Cls.b),(6,5,Cls.w),(7,2,Cls.w),(11,5,Cls.w),(14,15,Cls.b),(15,5,Cls.w),(20,5,Cls.w)].find? λx=>x.1 == r && x.2.1 == i).map (·.2.2)} Tryz.f99)
abbrev qxu:List Ins:=dK (dR e99 0)
abbrev qtp:EC:=dK (dN e99 14)
abbrev qsa:List Ins:=dK (dR e99 15)
abbrev qtK:List Ins:=dK (dR e99 16)
abbrev qeX:EC:=dK (dN e99 25)
abbrev qvi:List Ins:=dK (dR e99 26)
abbrev qs5:EC:=dK (dN e99 30)
abbrev qam:EC:=dK (dN e99 33)
abbrev qfh:EC:=dK (dN e99 36)
abbrev qef:EC:=dK (dN e99 45)
abbrev qrM:EC:=dK (dN e99 51)
theorem qsQ:qd Tryz.prog {mu:=λt=>[].contains t,cl:=λr i=>([(12,5,Cls.l 26),(12,7,Cls.l 8),(12,11,Cls.s 13),(12,14,Cls.s 13),(2,3,Cls.b),(6,5,Cls.w),(7,2,Cls.w),(11,5,Cls.w),(14,15,Cls.b),(15,5,Cls.w),(20,5,Cls.w)].find? λx=>x.1 == r && x.2.1 == i).map (·.2.2)} Tryz.f99=some e99:=by kernel_rfl
abbrev e100:EF:=dC (qd Tryz.prog {} Tryz.f100)
abbrev quM:EC:=dK (dN e100 3)
theorem qmI:qd Tryz.prog {} Tryz.f100=some e100:=by kernel_rfl
abbrev qyA:EF:=dC (qd Tryz.prog {} Tryz.f101)
abbrev qpL:EC:=dK (dN qyA 20)
theorem qo2:qd Tryz.prog {} Tryz.f101=some qyA:=by kernel_rfl
abbrev qxY:EF:=dC (qd Tryz.prog {} Tryz.f102)
abbrev qmS:EC:=dK (dN qxY 20)
theorem ql2:qd Tryz.prog {} Tryz.f102=some qxY:=by kernel_rfl
abbrev qbT:EF:=dC (qd Tryz.prog {mu:=λt=>[].contains t,cl:=λr i=>([(12,1,Cls.l 13),(12,3,Cls.l 13),(12,5,Cls.s 12),(12,7,Cls.s 12),(10,1,Cls.l 12),(10,5,Cls.v 12),(1,2,Cls.b),(20,8,Cls.b),(21,3,Cls.w),(22,7,Cls.w)].find? λx=>x.1 == r && x.2.1 == i).map (·.2.2)} Tryz.f103)
abbrev qtM:List Ins:=dK (dR qbT 0)
abbrev qqV:List Ins:=dK (dR qbT 1)
abbrev qsO:EC:=dK (dN qbT 5)
abbrev qvK:List Ins:=dK (dR qbT 6)
abbrev quC:List Ins:=dK (dR qbT 7)
abbrev qe8:List Ins:=dK (dR qbT 8)
abbrev qtP:List Ins:=dK (dR qbT 9)
abbrev qa2:List Ins:=dK (dR qbT 10)
abbrev qaB:EC:=dK (dN qbT 15)
abbrev qo8:List Ins:=dK (dR qbT 23)
abbrev qbd:EC:=dK (dN qbT 28)
abbrev qaG:EC:=dK (dN qbT 43)
abbrev qbc:EC:=dK (dN qbT 53)
abbrev qap:EC:=dK (dN qbT 56)
abbrev qmY:EC:=dK (dN qbT 61)
theorem qpy:qd Tryz.prog {mu:=λt=>[].contains t,cl:=λr i=>([(12,1,Cls.l 13),(12,3,Cls.l 13),(12,5,Cls.s 12),(12,7,Cls.s 12),(10,1,Cls.l 12),(10,5,Cls.v 12),(1,2,Cls.b),(20,8,Cls.b),(21,3,Cls.w),(22,7,Cls.w)].find? λx=>x.1 == r && x.2.1 == i).map (·.2.2)} Tryz.f103=some qbT:=by kernel_rfl
abbrev qys:EF:=dC (qd Tryz.prog {} Tryz.f104)
abbrev qmo:EC:=dK (dN qys 20)
theorem qn2:qd Tryz.prog {} Tryz.f104=some qys:=by kernel_rfl
abbrev qyk:EF:=dC (qd Tryz.prog {} Tryz.f105)
abbrev qpU:EC:=dK (dN qyk 29)
theorem qnW:qd Tryz.prog {} Tryz.f105=some qyk:=by kernel_rfl
abbrev qyh:EF:=dC (qd Tryz.prog {} Tryz.f106)
abbrev qtS:EC:=dK (dN qyh 3)
theorem qm8:qd Tryz.prog {} Tryz.f106=some qyh:=by kernel_rfl
abbrev qyc:EF:=dC (qd Tryz.prog {} Tryz.f107)
abbrev qvm:EC:=dK (dN qyc 9)
theorem qoT:qd Tryz.prog {} Tryz.f107=some qyc:=by kernel_rfl
abbrev qtn:=cd 8 (qr [mA 9 0,mA 2 9] .ret) .skip
abbrev quW:=qr [mA 6 0,zA 7 6,bC 8 .lss 7 2] qtn
abbrev qtg:=qr [mA 10 3,mA 11 0,zA 12 11,bA 13 .lss 10 12] (cd 13 .skip (.exit 0))
abbrev qoB:=qr [mA 29 5,mA 30 4,zA 31 30,bA 32 .lss 29 31] (cd 32 .skip (.exit 2))
abbrev qoF:=qr [mA 45 0,mA 46 3,mA 47 4,mA 48 5,aA 49 2 47 48,lG 50 2 49,aA 51 2 45 46,sA 2 51 50] (.reg [mA 52 3,bC 53 .add 52 1,mA 3 53])
abbrev qou:=qr [mN 35 4,mN 36 5,aN 37 2 35 36,iR 38 (oG 2 37),mN 39 4,mN 40 5,iN 41 (.bin .sub (.t 40) (cI 1)),aN 42 2 39 41,iR 43 (oG 2 42),iN 44 (.eqagg true [1,1] (.t 38) (.t 43))] (cd 44 qoF .skip)
abbrev qpz:EC:= .seq (.block 3 qou) (.reg [mA 33 5,bC 34 .add 33 1,mA 5 34])
abbrev qpx:=qr [iA 5 (.mov (cI 1))] (.block 2 (.loop (.seq qoB qpz)))
abbrev qmX:=qr [mA 57 0,mA 58 3,iA 59 (.slc 2 (.t 57) none (some (.t 58)) none),mA 2 59] .ret
abbrev qns:=qr [mA 54 0,mA 55 3,iA 56 (.slc 2 (.t 54) (some (.t 55)) none none),⟨none,none,.clear 0 .undef (.t 56),.any⟩] qmX
abbrev qm9:=qr [mA 26 0,mA 27 3,iA 28 (.slc 2 (.t 26) (some (.t 27)) none none),mA 4 28] (.seq qpx qns)
abbrev ql1:=qr [mN 16 0,mN 17 3,aN 18 2 16 17,iR 19 (oG 2 18),mN 20 0,mN 21 3,iN 22 (.bin .sub (.t 21) (cI 1)),aN 23 2 20 22,iR 24 (oG 2 23),iN 25 (.eqagg false [1,1] (.t 19) (.t 24))] (cd 25 qm9 .skip)
abbrev qp7:EC:= .seq (.block 1 ql1) (.reg [mA 14 3,bC 15 .add 14 1,mA 3 15])
abbrev qnp:=qr [iA 3 (.mov (cI 1))] (.block 0 (.loop (.seq qtg qp7)))
abbrev qn6:EC:= .seq qnp (qr [mA 60 0,mA 2 60] .ret)
abbrev qhj:=qr [iA 2 (.mov (.c (.sl 2 true [])))] (.seq quW qn6)
abbrev qyF:EF:=⟨61,1,[(.inl 2)],qhj⟩
theorem qmA:qd Tryz.prog {} Tryz.f110=some qyF:=by kernel_rfl
abbrev qyg:EF:=dC (qd Tryz.prog {mu:=λt=>[7].contains t} Tryz.f111)
abbrev qvE:EC:=dK (dN qyg 9)
theorem qpD:qd Tryz.prog {mu:=λt=>[7].contains t} Tryz.f111=some qyg:=by kernel_rfl
abbrev qyC:EF:=dC (qd Tryz.prog {} Tryz.f112)
abbrev qql:EC:=dK (dN qyC 22)
theorem qoK:qd Tryz.prog {} Tryz.f112=some qyC:=by kernel_rfl
abbrev qx2:EF:=dC (qd Tryz.prog {} Tryz.f113)
abbrev qrs:EC:=dK (dN qx2 3)
theorem ql8:qd Tryz.prog {} Tryz.f113=some qx2:=by kernel_rfl
abbrev qrL:=cd 10 (qr [iA 4 (.mov (cB false))] .ret) .skip
abbrev qr9:=qr [mA 6 0,zA 7 6,mA 8 1,zA 9 8,bA 10 .neq 7 9] qrL
abbrev qnd:=cd 24 (qr [iA 4 (.mov (cB false))] .ret) .skip
abbrev qoC:=qr [mN 16 0,mN 17 5,aN 18 2 16 17,iR 19 (oG 2 18),mN 20 1,mN 21 5,aN 22 2 20 21,iR 23 (oG 2 22),iN 24 (.eqagg true [1,1] (.t 19) (.t 23))] qnd
abbrev ql0:EC:= .block 1 (qr [mA 15 13,mA 5 15] qoC)
abbrev qlW:EC:= .seq ql0 (.reg [bC 25 .add 13 1,mA 13 25])
abbrev qp9:=qr [bA 14 .lss 13 12] (.seq (cd 14 .skip (.exit 0)) qlW)
abbrev qqk:=qr [mA 11 0,zA 12 11,iA 13 (.mov (cI 0))] (.block 0 (.loop qp9))
abbrev qmh:EC:= .seq qqk (qr [iA 4 (.mov (cB true))] .ret)
abbrev qiC:=qr [iA 4 (.mov (cB false))] (.seq qr9 qmh)
abbrev qyP:EF:=⟨26,2,[(.inl 4)],qiC⟩
theorem qpN:qd Tryz.prog {} Tryz.f114=some qyP:=by kernel_rfl
abbrev e115:EF:=dC (qd Tryz.prog {mu:=λt=>[40].contains t,cl:=λr i=>([(8,2,Cls.w),(14,2,Cls.w)].find? λx=>x.1 == r && x.2.1 == i).map (·.2.2)} Tryz.f115)
abbrev qo9:EC:=dK (dN e115 37)
theorem ql4:qd Tryz.prog {mu:=λt=>[40].contains t,cl:=λr i=>([(8,2,Cls.w),(14,2,Cls.w)].find? λx=>x.1 == r && x.2.1 == i).map (·.2.2)} Tryz.f115=some e115:=by kernel_rfl
abbrev e116:EF:=dC (qd Tryz.prog {} Tryz.f116)
abbrev qpj:EC:=dK (dN e116 21)
theorem qpE:qd Tryz.prog {} Tryz.f116=some e116:=by kernel_rfl
abbrev qvG:=qr [mN 9 5,iN 10 (.bin .gtr (.t 9) (cI 0)),mN 11 10,⟨(some 12),(some (11,true)),.mov (.t 0),.n⟩,⟨(some 13),(some (11,true)),.mov (.t 5),.n⟩,⟨(some 14),(some (11,true)),.bin .sub (.t 13) (cI 1),.n⟩,⟨(some 15),(some (11,true)),.iaddr 2 (.t 12) (.t 14),.n⟩,⟨(some 16),(some (11,true)),.faddr 0 (.t 15),.n⟩,⟨(some 17),(some (11,true)),.load false 1 (.t 16),.r⟩,⟨(some 18),(some (11,true)),.faddr 0 (.t 3),.n⟩,⟨(some 19),(some (11,true)),.load false 1 (.t 18),.r⟩,⟨(some 20),(some (11,true)),.bin .gtr (.t 17) (.t 19),.n⟩,⟨(some 21),(some (11,true)),.mov (.t 20),.n⟩,⟨(some 22),(some (21,false)),.mov (.t 0),.n⟩,⟨(some 23),(some (21,false)),.mov (.t 5),.n⟩,⟨(some 24),(some (21,false)),.bin .sub (.t 23) (cI 1),.n⟩,⟨(some 25),(some (21,false)),.iaddr 2 (.t 22) (.t 24),.n⟩,⟨(some 26),(some (21,false)),.faddr 0 (.t 25),.n⟩,⟨(some 27),(some (21,false)),.load false 1 (.t 26),.r⟩,⟨(some 28),(some (21,false)),.faddr 0 (.t 3),.n⟩,⟨(some 29),(some (21,false)),.load false 1 (.t 28),.r⟩,⟨(some 30),(some (21,false)),.bin .eql (.t 27) (.t 29),.n⟩,⟨(some 31),(some (21,false)),.mov (.t 30),.n⟩,⟨(some 32),(some (31,true)),.mov (.t 0),.n⟩,⟨(some 33),(some (31,true)),.mov (.t 5),.n⟩,⟨(some 34),(some (31,true)),.bin .sub (.t 33) (cI 1),.n⟩,⟨(some 35),(some (31,true)),.iaddr 2 (.t 32) (.t 34),.n⟩,⟨(some 36),(some (31,true)),.faddr 1 (.t 35),.n⟩,⟨(some 37),(some (31,true)),.load false 1 (.t 36),.r⟩,⟨(some 38),(some (31,true)),.faddr 1 (.t 3),.n⟩,⟨(some 39),(some (31,true)),.load false 1 (.t 38),.r⟩,⟨(some 40),(some (31,true)),.bin .gtr (.t 37) (.t 39),.n⟩,⟨(some 41),(some (21,false)),.pick (.t 31) (.t 40) (cB false),.n⟩,⟨(some 42),(some (11,true)),.pick (.t 21) (cB true) (.t 41),.n⟩,iN 43 (.pick (.t 11) (.t 42) (cB false))] (cd 43 .skip (.exit 0))
abbrev quH:EC:= .block 1 (.reg [mA 44 5,bC 45 .sub 44 1,mA 5 45])
abbrev qqf:=cd 56 (qr [mA 57 0,mA 4 57] .ret) .skip
abbrev qo5:=qr [mN 46 5,iN 47 (.bin .gtr (.t 46) (cI 0)),mN 48 47,⟨(some 49),(some (48,true)),.mov (.t 0),.n⟩,⟨(some 50),(some (48,true)),.mov (.t 5),.n⟩,⟨(some 51),(some (48,true)),.bin .sub (.t 50) (cI 1),.n⟩,⟨(some 52),(some (48,true)),.iaddr 2 (.t 49) (.t 51),.n⟩,⟨(some 53),(some (48,true)),.load true 2 (.t 52),.r⟩,⟨(some 54),(some (48,true)),.load true 2 (.t 3),.r⟩,⟨(some 55),(some (48,true)),.eqagg false [1,1] (.t 53) (.t 54),.n⟩,iN 56 (.pick (.t 48) (.t 55) (cB false))] qqf
abbrev qob:=qr [mN 63 6,iR 64 (oG 2 3),iN 65 (.lit false 2 true (.agg [(.int .i64 0),(.int .i64 0)]) 1 [(0,(.t 64))]),⟨(some 66),none,.append false 2 16 (.t 63) (.t 65),.t⟩,mN 67 0,mN 68 5,iN 69 (.slc 2 (.t 67) (some (.t 68)) none none),⟨(some 70),none,.append false 2 16 (.t 66) (.t 69),.t⟩,mN 4 70] .ret
abbrev qn3:=qr [iA 58 (.lit false 2 true (.agg [(.int .i64 0),(.int .i64 0)]) 0 []),mA 59 0,mA 60 5,iA 61 (.slc 2 (.t 59) none (some (.t 60)) none),iA 62 (.append false 2 16 (.t 58) (.t 61)),mA 6 62] qob
abbrev qpW:EC:= .seq (.block 0 (.loop (.seq qvG quH))) (.seq qo5 qn3)
abbrev qgN:=qr [iA 3 (.box 2 (.t 1)),iA 4 (.mov (.c (.sl 2 true [])))] (qr [mA 7 0,zA 8 7,mA 5 8] qpW)
abbrev e117:EF:=⟨71,2,[(.inl 4)],qgN⟩
theorem qm4:qd Tryz.prog {} Tryz.f117=some e117:=by kernel_rfl
abbrev e118:EF:=dC (qd Tryz.prog {} Tryz.f118)
abbrev qu9:EC:=dK (dN e118 3)
theorem qpi:qd Tryz.prog {} Tryz.f118=some e118:=by kernel_rfl
abbrev qrY:=cd 10 (qr [iA 4 (.mov (cB false))] .ret) .skip
abbrev qt5:=qr [mA 6 0,zA 7 6,mA 8 1,zA 9 8,bA 10 .neq 7 9] qrY
abbrev qu2:=qr [mA 11 5,mA 12 0,zA 13 12,bA 14 .lss 11 13] (cd 14 .skip (.exit 0))
abbrev qqi:=cd 25 (qr [iA 4 (.mov (cB false))] .ret) .skip
abbrev qp4:=qr [mN 17 0,mN 18 5,aN 19 2 17 18,iR 20 (oG 2 19),mN 21 1,mN 22 5,aN 23 2 21 22,iR 24 (oG 2 23),iN 25 (.eqagg true [1,1] (.t 20) (.t 24))] qqi
abbrev qpk:EC:= .seq (.block 1 qp4) (.reg [mA 15 5,bC 16 .add 15 1,mA 5 16])
abbrev qmx:=qr [iA 5 (.mov (cI 0))] (.block 0 (.loop (.seq qu2 qpk)))
abbrev qmZ:EC:= .seq qmx (qr [iA 4 (.mov (cB true))] .ret)
abbrev qif:=qr [iA 4 (.mov (cB false))] (.seq qt5 qmZ)
abbrev e119:EF:=⟨26,2,[(.inl 4)],qif⟩
theorem qnE:qd Tryz.prog {} Tryz.f119=some e119:=by kernel_rfl
abbrev e120:EF:=dC (qd Tryz.prog {mu:=λt=>[13].contains t} Tryz.f120)
abbrev qpV:EC:=dK (dN e120 36)
theorem qpv:qd Tryz.prog {mu:=λt=>[13].contains t} Tryz.f120=some e120:=by kernel_rfl
abbrev qtt:=cd 16 (qr [mA 17 5,mA 4 17] .ret) .skip
abbrev qwn:=qr [iR 11 (oG 2 3),mN 12 0,mN 13 5,aN 14 2 12 13,iR 15 (oG 2 14),iN 16 (.eqagg false [1,1] (.t 11) (.t 15))] qtt
abbrev qnt:EC:= .block 1 (qr [mA 10 8,mA 5 10] qwn)
abbrev qp6:EC:= .seq qnt (.reg [bC 18 .add 8 1,mA 8 18])
abbrev qnX:=qr [bA 9 .lss 8 7] (.seq (cd 9 .skip (.exit 0)) qp6)
abbrev qlN:=qr [mA 6 0,zA 7 6,iA 8 (.mov (cI 0))] (.block 0 (.loop qnX))
abbrev qo1:EC:= .seq qlN (qr [iA 4 (.mov (cI (-1)))] .ret)
abbrev qic:=qr [iA 3 (.box 2 (.t 1)),iA 4 (.mov (cI 0))] qo1
abbrev qyR:EF:=⟨19,2,[(.inl 4)],qic⟩
theorem qne:qd Tryz.prog {} Tryz.f123=some qyR:=by kernel_rfl
abbrev qyj:EF:=dC (qd Tryz.prog {} Tryz.f124)
abbrev qtJ:EC:=dK (dN qyj 3)
theorem qnV:qd Tryz.prog {} Tryz.f124=some qyj:=by kernel_rfl
abbrev e125:EF:=dC (qd Tryz.prog {} Tryz.f125)
abbrev qsK:EC:=dK (dN e125 3)
theorem qlY:qd Tryz.prog {} Tryz.f125=some e125:=by kernel_rfl
abbrev e126:EF:=dC (qd Tryz.prog {} Tryz.f126)
abbrev qoG:EC:=dK (dN e126 26)
theorem qpg:qd Tryz.prog {} Tryz.f126=some e126:=by kernel_rfl
abbrev e127:EF:=dC (qd Tryz.prog {} Tryz.f127)
abbrev qr6:EC:=dK (dN e127 3)
theorem qor:qd Tryz.prog {} Tryz.f127=some e127:=by kernel_rfl
abbrev e128:EF:=dC (qd Tryz.prog {} Tryz.f128)
abbrev qm7:EC:=dK (dN e128 22)
theorem qpq:qd Tryz.prog {} Tryz.f128=some e128:=by kernel_rfl
abbrev e129:EF:=dC (qd Tryz.prog {mu:=λt=>[44,56].contains t,cl:=λr i=>([(9,8,Cls.w),(10,8,Cls.w),(1,2,Cls.b),(7,3,Cls.b),(8,5,Cls.w)].find? λx=>x.1 == r && x.2.1 == i).map (·.2.2)} Tryz.f129)
abbrev qs7:List Ins:=dK (dR e129 0)
abbrev qwg:List Ins:=dK (dR e129 1)
abbrev qvs:EC:=dK (dN e129 6)
abbrev quN:List Ins:=dK (dR e129 7)
abbrev qlS:EC:=dK (dN e129 16)
abbrev qdp:EC:=dK (dN e129 22)
abbrev qhV:EC:=dK (dN e129 27)
theorem qpH:qd Tryz.prog {mu:=λt=>[44,56].contains t,cl:=λr i=>([(9,8,Cls.w),(10,8,Cls.w),(1,2,Cls.b),(7,3,Cls.b),(8,5,Cls.w)].find? λx=>x.1 == r && x.2.1 == i).map (·.2.2)} Tryz.f129=some e129:=by kernel_rfl
abbrev qyp:EF:=dC (qd Tryz.prog {} Tryz.f130)
abbrev qpm:EC:=dK (dN qyp 20)
theorem qpO:qd Tryz.prog {} Tryz.f130=some qyp:=by kernel_rfl
abbrev qx0:EF:=dC (qd Tryz.prog {mu:=λt=>[].contains t,cl:=λr i=>([(2,2,Cls.w),(3,3,Cls.b),(6,2,Cls.b),(8,5,Cls.w)].find? λx=>x.1 == r && x.2.1 == i).map (·.2.2)} Tryz.f131)
abbrev qlQ:EC:=dK (dN qx0 27)
theorem qo4:qd Tryz.prog {mu:=λt=>[].contains t,cl:=λr i=>([(2,2,Cls.w),(3,3,Cls.b),(6,2,Cls.b),(8,5,Cls.w)].find? λx=>x.1 == r && x.2.1 == i).map (·.2.2)} Tryz.f131=some qx0:=by kernel_rfl
abbrev qx5:EF:=dC (qd Tryz.prog {mu:=λt=>[57].contains t} Tryz.f135)
abbrev qoO:EC:=dK (dN qx5 23)
theorem qna:qd Tryz.prog {mu:=λt=>[57].contains t} Tryz.f135=some qx5:=by kernel_rfl
abbrev qyx:EF:=dC (qd Tryz.prog {} Tryz.f136)
abbrev qnf:EC:=dK (dN qyx 22)
theorem qpP:qd Tryz.prog {} Tryz.f136=some qyx:=by kernel_rfl
abbrev qyy:EF:=dC (qd Tryz.prog {} Tryz.f148)
abbrev qpt:EC:=dK (dN qyy 22)
theorem qqd:qd Tryz.prog {} Tryz.f148=some qyy:=by kernel_rfl
abbrev qx4:EF:=dC (qd Tryz.prog {} Tryz.f149)
abbrev qpS:EC:=dK (dN qx4 17)
theorem qnT:qd Tryz.prog {} Tryz.f149=some qx4:=by kernel_rfl
abbrev qyf:EF:=dC (qd Tryz.prog {} Tryz.f150)
abbrev qpu:EC:=dK (dN qyf 14)
theorem qqg:qd Tryz.prog {} Tryz.f150=some qyf:=by kernel_rfl
abbrev qyr:EF:=dC (qd Tryz.prog {} Tryz.f151)
abbrev qsu:EC:=dK (dN qyr 3)
theorem qnb:qd Tryz.prog {} Tryz.f151=some qyr:=by kernel_rfl
abbrev e152:EF:=dC (qd Tryz.prog {} Tryz.f152)
abbrev qoW:EC:=dK (dN e152 52)
theorem qnZ:qd Tryz.prog {} Tryz.f152=some e152:=by kernel_rfl
abbrev qyb:EF:=dC (qd Tryz.prog {} Tryz.f162)
abbrev qpd:EC:=dK (dN qyb 22)
theorem qoP:qd Tryz.prog {} Tryz.f162=some qyb:=by kernel_rfl
abbrev e169:EF:=dC (qd Tryz.prog {} Tryz.f169)
abbrev qnJ:EC:=dK (dN e169 30)
theorem qpF:qd Tryz.prog {} Tryz.f169=some e169:=by kernel_rfl
abbrev e170:EF:=dC (qd Tryz.prog {} Tryz.f170)
abbrev qrP:EC:=dK (dN e170 3)
theorem qpI:qd Tryz.prog {} Tryz.f170=some e170:=by kernel_rfl
abbrev qyt:EF:=dC (qd Tryz.prog {} Tryz.f171)
abbrev quq:EC:=dK (dN qyt 3)
theorem qqa:qd Tryz.prog {} Tryz.f171=some qyt:=by kernel_rfl
abbrev qx1:EF:=dC (qd Tryz.prog {} Tryz.f172)
abbrev qnI:EC:=dK (dN qx1 98)
theorem qm1:qd Tryz.prog {} Tryz.f172=some qx1:=by kernel_rfl
abbrev qyu:EF:=dC (qd Tryz.prog {} Tryz.f177)
abbrev qty:EC:=dK (dN qyu 3)
theorem qoz:qd Tryz.prog {} Tryz.f177=some qyu:=by kernel_rfl

end Go.Proofs
