/- Part of a proof that a law of the given program answers true. -/
import Derived.Test.YtjdjdbkoplmjeaaMCA
set_option linter.unusedSimpArgs false
set_option linter.unusedVariables false
set_option maxRecDepth 100000
namespace Go.Proofs
open Go.E
abbrev qsq:=qr [iA 25 (.build [(.int .i64 0),(.int .i64 0),(.int .i64 0),(.sl 4 true [])] []),sA 4 4 25,iA 5 (.mov (cB false))] .ret
abbrev qvM:=cd 24 qsq .skip
abbrev qnH:=qr [mA 20 0,nA 21 20,fA 22 8 21,lA 23 1 22,bC 24 .gtr 23 3000] qvM
abbrev qii:=qr [iA 54 (.build [(.int .i64 0),(.int .i64 0),(.int .i64 0),(.sl 4 true [])] []),sA 4 4 54,iA 5 (.mov (cB false))] .ret
abbrev qkb:=cd 53 qii .skip
abbrev qiX:=qr [mN 35 0,nN 36 35,fN 37 6 36,lR 38 1 37,iN 39 (.bin .lss (.t 38) (cI 0)),mN 40 39,⟨(some 41),(some (40,false)),.mov (.t 0),.n⟩,⟨(some 42),(some (40,false)),.nilck (.t 41),.n⟩,⟨(some 43),(some (40,false)),.faddr 7 (.t 42),.n⟩,⟨(some 44),(some (40,false)),.load false 1 (.t 43),.r⟩,⟨(some 45),(some (40,false)),.mov (.t 0),.n⟩,⟨(some 46),(some (40,false)),.nilck (.t 45),.n⟩,⟨(some 47),(some (40,false)),.faddr 6 (.t 46),.n⟩,⟨(some 48),(some (40,false)),.load false 1 (.t 47),.r⟩,⟨(some 49),(some (40,false)),.iaddr 1 (.t 44) (.t 48),.n⟩,⟨(some 50),(some (40,false)),.load false 1 (.t 49),.r⟩,⟨(some 51),(some (40,false)),.mov (.t 1),.n⟩,⟨(some 52),(some (40,false)),.bin .neq (.t 50) (.t 51),.n⟩,iN 53 (.pick (.t 40) (cB true) (.t 52))] qkb
abbrev qhM:=qr [mA 55 1,mA 56 0,nA 57 56,fA 58 6 57,lA 59 1 58,iA 60 (.build [(.int .i64 0),(.int .i64 0),(.int .i64 0),(.sl 4 true [])] [(0,1,(.t 55)),(1,1,(cI (-1))),(2,1,(.t 59))]),sA 4 4 60,iA 5 (.mov (cB true))] .ret
abbrev qir:EC:= .seq qiX qhM
abbrev qjX:=qr [mA 28 0,nA 29 28,fA 30 6 29,lA 31 1 30,bC 32 .sub 31 1,nA 33 28,fA 34 6 33,sA 1 34 32] qir
abbrev qiL:=cd 27 qjX .skip
abbrev qiQ:=qr [mA 26 1,bC 27 .lss 26 1000] qiL
abbrev qjm:=qr [iA 68 (.build [(.int .i64 0),(.int .i64 0),(.int .i64 0),(.sl 4 true [])] []),sA 4 4 68,iA 5 (.mov (cB false))] .ret
abbrev qi2:=cd 67 qjm .skip
abbrev qjo:=qr [mA 66 6,bC 67 .eql 66 0] qi2
abbrev qjs:=qr [iA 113 (.build [(.int .i64 0),(.int .i64 0),(.int .i64 0),(.sl 4 true [])] []),sA 4 4 113,iA 5 (.mov (cB false))] .ret
abbrev qiZ:=cd 112 qjs .skip
abbrev qik:=qr [mA 87 7,bC 88 .lss 87 0,mA 89 88,gF 90 89 (oM 7),gF 91 89 (oM 0),gF 92 89 (.nilck (.t 91)),gF 93 89 (oF 0 92),gF 94 89 (oF 2 93),gF 95 89 (oL 1 94),gF 96 89 (.len (.t 95)),gF 97 89 (.bin .geq (.t 90) (.t 96)),pO 98 89 97,mA 99 98,gF 100 99 (oM 0),gF 101 99 (.nilck (.t 100)),gF 102 99 (oF 0 101),gF 103 99 (oF 2 102),gF 104 99 (oL 1 103),gF 105 99 (oM 7),gF 106 99 (.iaddr 6 (.t 104) (.t 105)),gF 107 99 (oF 0 106),gF 108 99 (oL 1 107),gF 109 99 (.bin .add (cI 1000) (.t 108)),gF 110 99 (oM 1),gF 111 99 (.bin .neq (.t 109) (.t 110)),pO 112 99 111] qiZ
abbrev qhI:=cd 133 .skip (.exit 0)
abbrev qiM:=qr [mA 132 10,bC 133 .geq 132 0] qhI
abbrev qh5:=qr [iA 147 (.build [(.int .i64 0),(.int .i64 0),(.int .i64 0),(.sl 4 true [])] []),sA 4 4 147,iA 5 (.mov (cB false))] .ret
abbrev qhS:=cd 146 qh5 .skip
abbrev qiG:=qr [mA 145 12,iA 146 (.un .not (.t 145))] qhS
abbrev qhR:EC:= .seq qiG (.reg [fA 148 3 9,lA 149 1 148,mA 150 10,lG 151 4 11,aA 152 4 149 150,sA 4 152 151])
abbrev qhO:=qr [mA 137 0,mA 138 8,mA 139 10,aA 140 1 138 139,lA 141 1 140,iA 142 (cl 63 [(.t 137),(.t 141)]),mA 136 142,iA 143 (.ext (.t 136) 0),iA 144 (.ext (.t 136) 1),iA 11 (.alloc 4 (.agg [(.int .i64 0),(.int .i64 0),(.int .i64 0),(.sl 4 true [])])),sA 4 11 143,mA 12 144] qhR
abbrev qjU:EC:= .block 1 qhO
abbrev qhh:EC:= .seq qjU (.reg [mA 134 10,bC 135 .sub 134 1,mA 10 135])
abbrev qjB:EC:= .seq qiM qhh
abbrev qjg:EC:= .loop qjB
abbrev qg1:EC:= .block 0 qjg
abbrev qi4:=qr [mA 129 8,zA 130 129,bC 131 .sub 130 1,mA 10 131] qg1
abbrev qhe:=qr [lG 153 4 9,sA 4 4 153,iA 5 (.mov (cB true))] .ret
abbrev qiz:EC:= .seq qi4 qhe
abbrev qig:=qr [mA 123 1,mA 124 7,mA 125 8,zA 126 125,iA 127 (.mksl true 4 48 (.agg [(.int .i64 0),(.int .i64 0),(.int .i64 0),(.sl 4 true [])]) (.t 126) (.t 126)),iA 128 (.build [(.int .i64 0),(.int .i64 0),(.int .i64 0),(.sl 4 true [])] [(0,1,(.t 123)),(1,1,(.t 124)),(2,1,(cI (-1))),(3,1,(.t 127))]),iA 9 (.alloc 4 (.agg [(.int .i64 0),(.int .i64 0),(.int .i64 0),(.sl 4 true [])])),sA 4 9 128] qiz
abbrev qjd:=qr [mA 114 0,nA 115 114,fA 116 0 115,fA 117 2 116,lA 118 1 117,mA 119 7,aA 120 6 118 119,fA 121 1 120,lA 122 1 121,mA 8 122] qig
abbrev qh7:EC:= .seq qik qjd
abbrev qhu:=qr [mA 77 0,mA 78 0,nA 79 78,fA 80 5 79,lA 81 1 80,mA 82 6,bC 83 .sub 82 1,iA 84 (.slc 1 (.t 81) none (some (.t 83)) none),nA 85 77,fA 86 5 85,sA 1 86 84] qh7
abbrev qha:=qr [mA 69 0,nA 70 69,fA 71 5 70,lA 72 1 71,mA 73 6,bC 74 .sub 73 1,aA 75 1 72 74,lA 76 1 75,mA 7 76] qhu
abbrev qjl:EC:= .seq qjo qha
abbrev qhW:=qr [mA 61 0,nA 62 61,fA 63 5 62,lA 64 1 63,zA 65 64,mA 6 65] qjl
abbrev qj1:EC:= .seq qiQ qhW
abbrev qiv:EC:= .seq qnH qj1
abbrev qkf:=qr [mA 13 0,nA 14 13,fA 15 8 14,lA 16 1 15,bC 17 .add 16 1,nA 18 13,fA 19 8 18,sA 1 19 17] qiv
abbrev qdx:=qr [iA 4 (.alloc 4 (.agg [(.int .i64 0),(.int .i64 0),(.int .i64 0),(.sl 4 true [])])),iA 5 (.mov (cB false))] qkf
abbrev qH8:EF:=⟨154,2,[(.inr (4,true,4)),(.inl 5)],qdx⟩
theorem qg3:qz Try.prog {mu:=fun t=>[127].contains t,cl:=fun r i=>([(21,5,Cls.w)].find? fun x=>x.1 == r && x.2.1 == i).map (·.2.2)} Try.f63=some qH8:=by kernel_rfl
end Go.Proofs
