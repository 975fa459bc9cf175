/- Part of a proof that a law of the given program answers true. -/
import Derived.Test.YtjdjdbkoplmjeaaMCA
import Derived.Test.YtjdjdbkoplmjeaaMEC
set_option linter.unusedSimpArgs false
set_option linter.unusedVariables false
namespace Go.Proofs
open Go.E
structure Sym where
 name:List UInt8:=[]
 lit:Bool:=false
 num:Int:=0
 at_:Int:=0
 deriving DecidableEq,Inhabited
structure Part where
 sym:Sym:={}
 code:List UInt8:=[]
 at_:Int:=0
 deriving DecidableEq,Inhabited
structure Alt where
 parts:List Part:=[]
 prec:Sym:={}
 at_:Int:=0
 deriving DecidableEq,Inhabited
structure Rule where
 left:List UInt8:=[]
 alts:List Alt:=[]
 at_:Int:=0
 deriving DecidableEq,Inhabited
structure Decl where
 kind:Int:=0
 tag:List UInt8:=[]
 syms:List Sym:=[]
 at_:Int:=0
 deriving DecidableEq,Inhabited
structure Source where
 pro:List UInt8:=[]
 decls:List Decl:=[]
 rules:List Rule:=[]
 tail:List UInt8:=[]
 deriving DecidableEq,Inhabited
@[reducible] def Sym.V (x:Sym):V:= .agg [.str x.name,.bool x.lit,vi x.num,vi x.at_]
@[reducible] def Part.V (x:Part):V:= .agg [.str x.sym.name,.bool x.sym.lit,vi x.sym.num,vi x.sym.at_,.str x.code,vi x.at_]
@[reducible] def Alt.V (x:Alt):V:= .agg [.sl 6 false (x.parts.map Part.V),.str x.prec.name,.bool x.prec.lit,vi x.prec.num,vi x.prec.at_,vi x.at_]
@[reducible] def Rule.V (x:Rule):V:= .agg [.str x.left,.sl 6 false (x.alts.map Alt.V),vi x.at_]
@[reducible] def Decl.V (x:Decl):V:= .agg [vi x.kind,.str x.tag,.sl 4 false (x.syms.map Sym.V),vi x.at_]
@[reducible] def Source.V (x:Source):V:= .agg [.str x.pro,.sl 4 false (x.decls.map Decl.V),.sl 3 false (x.rules.map Rule.V),.str x.tail]
theorem Ki {i n:Int} (hn:0<n) (h:n≤4611686018427387904):(if i.tmod n<0 then IntKind.i64.wrap (i.tmod n+n)else i.tmod n)=i % n:=by
 have h1:=Int.tmod_lt_of_pos i hn
 have h2: - n<i.tmod n:=by
  have:=Int.tmod_lt_of_pos (-i) hn
  rw[Int.neg_tmod]at this;omega
 have e:i.tmod n=i % n∨i.tmod n+n=i % n:=by
  rw[Int.tmod_eq_emod]
  have:=Int.emod_lt_of_pos i hn
  have:=Int.emod_nonneg i (show n≠0 by omega)
  split
  · left;omega
  · right;omega
 have h3:=Int.emod_nonneg i (show n≠0 by omega)
 have h4:=Int.emod_lt_of_pos i hn
 split
 · rw[wrap64 o_ o_];omega
 · omega
theorem qE {i n:Int} (hn:0<n) (hm:n≤4611686018427387904):Pure Try.prog 19 [vi i,vi n] (vi (i % n)):=by
 refine pure_intro Try.func19 nm_ qua (by show 2≤15;decide) ?_
 show ewp _ qfO _ _
 have e:=Ki (i:=i) hn hm
 by_cases h:i.tmod n<0
 · rw[if_pos h]at e
   have hne: ¬ (n=0):=o_
   repeat' with_reducible first
    |refine s_ ?_
    |simp -implicitDefEqProofs only[wZZ,seval,hne,e]
    |apply qa<;>intro h h_<;>(try simp only[wD,reduceCtorEq]at h_)<;>(try exact wb_)<;>(try simp only[h])
   refine qA rfl (Or.inr rfl) ?_
   simp -implicitDefEqProofs only[wL,seval]
   refine er_ ?_
   try(with_reducible rfl)
 · rw[if_neg h]at e
   have hne: ¬ (n=0):=o_
   repeat' with_reducible first
    |refine s_ ?_
    |simp -implicitDefEqProofs only[wZZ,seval,hne,e]
    |apply qa<;>intro h h_<;>(try simp only[wD,reduceCtorEq]at h_)<;>(try exact wb_)<;>(try simp only[h])
   refine qA rfl (Or.inr rfl) ?_
   simp -implicitDefEqProofs only[wL,seval]
   refine er_ ?_
   try(with_reducible rfl)

@[reducible] def vK (s:List UInt8) (n:Int):List UInt8:=s.take n.toNat
theorem zL {s:List UInt8} {n:Int} (hs:s.length≤1099511627776) (hn:0≤n):Pure Try.prog 36 [.str s,vi n] (.str (vK s n)):=by
 refine pure_intro Try.func36 nm_ qz5 (by show 2≤13;decide) ?_
 show ewp _ qyO _ _
 by_cases h:n<s.length
 · repeat' with_reducible first
    |refine s_ ?_
    |simp -implicitDefEqProofs only[wZZ,seval]
    |apply qa<;>intro h h_<;>(try simp only[wD,reduceCtorEq]at h_)<;>(try exact wb_)<;>(try simp only[h])
    |apply qqK;omega;omega
   refine qA rfl (Or.inr rfl) ?_
   simp -implicitDefEqProofs only[wL,seval]
   refine er_ ?_
   try(with_reducible rfl)
 · have e:vK s n=s:=List.take_of_length_le o_
   rw[e]
   repeat' with_reducible first
    |refine s_ ?_
    |simp -implicitDefEqProofs only[wZZ,seval]
    |apply qa<;>intro h h_<;>(try simp only[wD,reduceCtorEq]at h_)<;>(try exact wb_)<;>(try simp only[h])
   refine qA rfl (Or.inr rfl) ?_
   simp -implicitDefEqProofs only[wL,seval]
   refine er_ ?_
   try(with_reducible rfl)
@[reducible] def Qp (x:Sym):Sym:=⟨vK x.name 25,x.lit,x.num,x.at_⟩
theorem jS {x:Sym} (hs:x.name.length≤1099511627776):Pure Try.prog 37 [x.V] ((Qp x).V):=by
 refine pure_intro Try.func37 nm_ qzB (by show 1≤13;decide) ?_
 show ewp _ qAz _ _
 repeat' with_reducible first
  |refine s_ ?_
  |simp -implicitDefEqProofs only[wZZ,seval]
  |refine t_ ?_
  |refine zT we_ we_ (zL wf_ wf_) ?_
 apply vw (t:=2) rfl (Or.inr rfl);(focus(first|rfl|((try simp -implicitDefEqProofs only[wL,wM,wN,seval]);rfl)));(focus(first|rfl|((try simp -implicitDefEqProofs only[wL,wM,wN,seval]);rfl)));(exact wu_);(try exact qc)
def Yp (c:UInt8):Bool:=(decide (97≤c.toNat) && decide (c.toNat≤122)) || (decide (65≤c.toNat) && decide (c.toNat≤90)) || decide (c.toNat=95)
def qaW (c:UInt8):Bool:=decide (48≤c.toNat) && decide (c.toNat≤57)
theorem ZU {c:UInt8}:Pure Try.prog 86 [.int .u8 c.toNat] (.bool (Yp c)):=by
 refine pure_intro Try.func86 nm_ qpa (by show 1≤21;decide) ?_
 show ewp _ qxf _ _
 repeat' with_reducible first
  |refine s_ ?_
  |simp -implicitDefEqProofs only[wZZ,seval]
  |(first|apply qh|apply qi)<;>intro h h_<;>(try simp only[wD,reduceCtorEq]at h_)<;>(try exact wb_)<;>(try simp only[h])
 all_goals refine qA rfl (Or.inr rfl) ?_
 all_goals(try simp -implicitDefEqProofs only[wL,seval])
 all_goals refine er_ ?_
 all_goals(try(with_reducible rfl))
 all_goals(rw[Bool.eq_iff_iff];simp[Yp];omega)
theorem JX {c:UInt8}:Pure Try.prog 87 [.int .u8 c.toNat] (.bool (qaW c)):=by
 refine pure_intro Try.func87 nm_ qwh (by show 1≤9;decide) ?_
 show ewp _ qpv _ _
 repeat' with_reducible first
  |refine s_ ?_
  |simp -implicitDefEqProofs only[wZZ,seval]
  |(first|apply qh|apply qi)<;>intro h h_<;>(try simp only[wD,reduceCtorEq]at h_)<;>(try exact wb_)<;>(try simp only[h])
 all_goals refine qA rfl (Or.inr rfl) ?_
 all_goals(try simp -implicitDefEqProofs only[wL,seval])
 all_goals refine er_ ?_
 all_goals(try(with_reducible rfl))
 all_goals(rw[Bool.eq_iff_iff];simp[qaW];omega)
def Yk:List UInt8:=[112,113,114,115]
theorem Zm:Pure Try.prog 60 [] (.str Yk):=by
 refine pure_intro Try.func60 nm_ qn0 (by show 0≤1;decide) ?_
 show ewp _ qog _ _
 repeat' with_reducible first
  |refine s_ ?_
  |simp -implicitDefEqProofs only[wZZ,seval]
 refine qA rfl (Or.inr rfl) ?_
 simp -implicitDefEqProofs only[wL,seval]
 refine er_ ?_
 try(with_reducible rfl)
 rfl
def jR (s:List UInt8) (at_:Int) (w:List UInt8):Bool:=decide (at_+w.length≤s.length) && decide ((s.take (at_+w.length).toNat).drop at_.toNat=w)
theorem jd {s w:List UInt8} {at_:Int} (hs:s.length≤1099511627776) (hw:w.length≤1099511627776) (ha:0≤at_) (hb:at_≤1099511627776):Pure Try.prog 90 [.str s,vi at_,.str w] (.bool (jR s at_ w)):=by
 refine pure_intro Try.func90 nm_ qlX (by show 3≤25;decide) ?_
 show ewp _ qsJ _ _
 have h1:IntKind.i64.wrap ((s.length:Int) - at_)=(s.length:Int) - at_:=wrap64 o_ o_
 repeat' with_reducible first
  |refine s_ ?_
  |simp -implicitDefEqProofs only[wZZ,seval,h1]
  |(first|apply qh|apply qi)<;>intro h h_<;>(try simp only[wD,reduceCtorEq]at h_)<;>(try exact wb_)<;>(try simp only[h])
  |apply Y4;omega;omega;omega
  |simp -implicitDefEqProofs (disch:=omega) only[w64,if_neg]
 all_goals refine qA rfl (Or.inr rfl) ?_
 all_goals(try simp -implicitDefEqProofs only[wL,seval])
 all_goals refine er_ ?_
 all_goals(try(with_reducible rfl))
 · unfold jR
   have e:decide (at_+(w.length:Int)≤(s.length:Int))=true:=by rw[decide_eq_true_eq];omega
   rw[e];rfl
 · unfold jR
   have e:decide (at_+(w.length:Int)≤(s.length:Int))=false:=by rw[decide_eq_false_iff_not];omega
   rw[e];rfl
def Qd (c:UInt8):Bool:=decide (c.toNat=10) || decide (c.toNat=9) || decide (c.toNat=13) || decide (c.toNat=92) || decide (c.toNat=39) || (decide (32≤c.toNat) && decide (c.toNat≤126))
def kX (c:UInt8):UInt8:=if c.toNat=10 then 110 else if c.toNat=9 then 116 else if c.toNat=13 then 114 else if c.toNat=92 then c else if c.toNat=39 then c else 0
theorem yU {c:UInt8}:Pure Try.prog 85 [.int .u8 c.toNat] (.tup [.int .u8 (kX c).toNat,.bool (Qd c)]):=by
 refine pure_intro Try.func85 nm_ qkJ (by show 1≤21;decide) ?_
 show ewp _ qgi _ _
 repeat' with_reducible first
  |refine s_ ?_
  |simp -implicitDefEqProofs only[wZZ,seval]
  |(first|apply qa|apply qh|apply qi)<;>intro h h_<;>(try simp only[wD,reduceCtorEq]at h_)<;>(try exact wb_)<;>(try simp only[h])
 all_goals refine qC6 rfl (Or.inr rfl) ?_
 all_goals(try simp -implicitDefEqProofs only[wL,seval])
 all_goals(refine qcW ?_ ?_<;>refine er_ ?_<;>(try(with_reducible rfl)))
 all_goals first
  |(unfold kX;(repeat' split)<;>first|(exfalso;omega)|rfl)
  |(rw[Bool.eq_iff_iff];simp[Qd];omega)
@[reducible] def Xq (k:Int):List UInt8:=[UInt8.ofNat (97+k).toNat]
theorem yF {k:Int} (h0:0≤k) (h1:k<100):Pure Try.prog 30 [vi k] (.str (Xq k)):=by
 refine pure_intro Try.func30 nm_ qzU (by show 1≤8;decide) ?_
 show ewp _ qvm _ _
 have hw:IntKind.u8.wrap (97+k)=97+k:=by unfold IntKind.wrap;simp[IntKind.bits,IntKind.signed];omega
 repeat' with_reducible first
  |refine s_ ?_
  |simp -implicitDefEqProofs only[wZZ,seval,hw]
  |apply qdW;omega;omega
  |simp -implicitDefEqProofs (disch:=omega) only[w64,if_neg]
 refine qA rfl (Or.inr rfl) ?_
 simp -implicitDefEqProofs only[wL,seval]
 refine er_ ?_
 try(with_reducible rfl)
@[reducible] def jl (k:Int):Sym:={name:=(Yk.take (k % 4+1).toNat).drop (k % 4).toNat,lit:=true}
theorem jv {k:Int} (h0:0≤k) (h1:k<100):Pure Try.prog 32 [vi k] ((jl k).V):=by
 refine pure_intro Try.func32 nm_ qsB (by show 1≤11;decide) ?_
 show ewp _ qk8 _ _
 have e:k.tmod 4=k % 4:=Int.tmod_eq_emod_of_nonneg h0
 have e1:=Int.emod_lt_of_pos k (show (0:Int)<4 by omega)
 have e2:=Int.emod_nonneg k (show (4:Int)≠0 by omega)
 have e3:Yk.length=4:=rfl
 repeat' with_reducible first
  |refine s_ ?_
  |simp -implicitDefEqProofs only[wZZ,seval,e]
  |refine t_ ?_
  |apply Y4;omega;omega;omega
  |refine cq0 Zm ?_
  |simp -implicitDefEqProofs (disch:=omega) only[w64,if_neg]
 apply vw (t:=2) rfl (Or.inr rfl);(focus(first|rfl|((try simp -implicitDefEqProofs only[wL,wM,wN,seval]);rfl)));(focus(first|rfl|((try simp -implicitDefEqProofs only[wL,wM,wN,seval]);rfl)));(exact wu_);(try exact qc)
def XY (x nons:Int):Sym:=if x % 14<5 then {name:=Xq (x % 14 % nons)} else if x % 14=13 then {name:=[101,114,114,111,114]} else jl (x % 14 - 5)
theorem YK {x nons:Int} (h0:0<nons) (h1:nons<50):Pure Try.prog 31 [vi x,vi nons] ((XY x nons).V):=by
 refine pure_intro Try.func31 nm_ qwZ (by show 2≤23;decide) ?_
 show ewp _ qfo _ _
 have e1:=Int.emod_lt_of_pos x (show (0:Int)<14 by omega)
 have e2:=Int.emod_nonneg x (show (14:Int)≠0 by omega)
 have e3:=Int.emod_lt_of_pos (x % 14) h0
 have e4:=Int.emod_nonneg (x % 14) (show nons≠0 by omega)
 have e5:(x % 14).tmod nons=x % 14 % nons:=Int.tmod_eq_emod_of_nonneg e2
 have hne: ¬ nons=0:=o_
 by_cases h:x % 14<5
 · have es:XY x nons={name:=Xq (x % 14 % nons)}:=by unfold XY;rw[if_pos h]
   rw[es]
   repeat' with_reducible first
    |refine s_ ?_
    |simp -implicitDefEqProofs only[wZZ,seval,e5,hne]
    |apply qa<;>intro h h_<;>(try simp only[wD,reduceCtorEq]at h_)<;>(try exact wb_)<;>(try simp only[h])
    |refine t_ ?_
    |refine zT we_ we_ (qE wf_ wf_) ?_
    |refine j5 we_ (yF wf_ wf_) ?_
   apply vw (t:=4) rfl (Or.inr rfl);(focus(first|rfl|((try simp -implicitDefEqProofs only[wL,wM,wN,seval]);rfl)));(focus(first|rfl|((try simp -implicitDefEqProofs only[wL,wM,wN,seval]);rfl)));(exact wu_);(try exact qc)
 · by_cases h13:x % 14=13
   · have es:XY x nons={name:=[101,114,114,111,114]}:=by unfold XY;rw[if_neg h,if_pos h13]
     rw[es]
     repeat' with_reducible first
      |refine s_ ?_
      |simp -implicitDefEqProofs only[wZZ,seval,e5,hne]
      |apply qa<;>intro h h_<;>(try simp only[wD,reduceCtorEq]at h_)<;>(try exact wb_)<;>(try simp only[h])
      |refine t_ ?_
      |refine zT we_ we_ (qE wf_ wf_) ?_
     apply vw (t:=4) rfl (Or.inr rfl);(focus(first|rfl|((try simp -implicitDefEqProofs only[wL,wM,wN,seval]);rfl)));(focus(first|rfl|((try simp -implicitDefEqProofs only[wL,wM,wN,seval]);rfl)));(exact wu_);(try exact qc)
   · have es:XY x nons=jl (x % 14 - 5):=by unfold XY;rw[if_neg h,if_neg h13]
     rw[es]
     repeat' with_reducible first
      |refine s_ ?_
      |simp -implicitDefEqProofs only[wZZ,seval,e5,hne]
      |apply qa<;>intro h h_<;>(try simp only[wD,reduceCtorEq]at h_)<;>(try exact wb_)<;>(try simp only[h])
      |refine t_ ?_
      |refine zT we_ we_ (qE wf_ wf_) ?_
      |refine j5 we_ (jv wf_ wf_) ?_
      |simp -implicitDefEqProofs (disch:=omega) only[w64,if_neg]
     apply vw (t:=4) rfl (Or.inr rfl);(focus(first|rfl|((try simp -implicitDefEqProofs only[wL,wM,wN,seval]);rfl)));(focus(first|rfl|((try simp -implicitDefEqProofs only[wL,wM,wN,seval]);rfl)));(exact wu_);(try exact qc)

def ZK:List UInt8→Bool→Nat
 |[],_=>0
 |c::r,more=>if Yp c || (more && (qaW c || decide (c.toNat=46)))then ZK r true+1 else 0
theorem KI (c:UInt8) (r:List UInt8) (more:Bool):ZK (c::r) more=if Yp c || (more && (qaW c || decide (c.toNat=46)))then ZK r true+1 else 0:=rfl
theorem ZR {tx:List UInt8} (hs:tx.length≤1099511627776):Pure Try.prog 77 [.str tx,vi 0] (vi (ZK tx false)):=by
 refine pure_intro Try.func77 nm_ qmR (by show 2≤43;decide) ?_
 show ewp _ qfx _ _
 repeat' with_reducible first
  |refine s_ ?_
  |simp -implicitDefEqProofs only[wZZ,seval]
 refine qg ?nx1 (fun(n:Nat) s=>s.f 0=?v1_0∧s.f 1=?v1_1∧s.f 5=vi n∧(n≤tx.length)∧(ZK tx false=n+ZK (tx.drop n) (decide (0<n)))) (fun n=>tx.length - n) (0) wj_ (by refine⟨?_,?_,?_,wo_,wo_⟩<;>first|(simp -implicitDefEqProofs only[wL,wM,wN,wX,seval,Option.some.injEq]<;>exact wt_)|rfl|exact⟨_,rfl⟩) ?_
 intro n s hnx ⟨g0,g1,g5,k1_0,k1_1⟩
 have hz:IntKind.i64.wrap (0+(n:Int))=n:=by rw[Int.zero_add];exact wrap64 o_ o_
 by_cases hn:n<tx.length
 · have hd:tx.drop n=tx[n]::tx.drop (n+1):=List.drop_eq_getElem_cons hn
   rw[hd,KI]at k1_1
   have h0:decide (0<n+1)=true:=by simp
   repeat' with_reducible first
    |refine s_ ?_
    |simp -implicitDefEqProofs only[wZZ,seval,g0,g1,g5,hz]
    |(first|apply qa|apply qh|apply qi)<;>intro h h_<;>(try simp only[wD,reduceCtorEq]at h_)<;>(try exact wb_)<;>(try simp only[h])
    |refine t_ ?_
    |refine cq1 ZU we_ ?_
    |refine cq1 JX we_ ?_
    |simp -implicitDefEqProofs (disch:=omega) only[w64,if_neg]
   · refine⟨wk_,n+1,o_,?_⟩
     refine⟨?_,?_,?_,?_,?_⟩
     iterate 3 (focus(first|(simp -implicitDefEqProofs only[wL,wM,wN,wX,seval,Option.some.injEq,g0,g1,g5]<;>exact wt_)|rfl|exact⟨_,rfl⟩))
     all_goals try omega
     rw[k1_1,h0,if_pos (by rw[Bool.or_eq_true,Bool.and_eq_true,Bool.or_eq_true,decide_eq_true_eq,decide_eq_true_eq];first|exact Or.inl (by assumption)|exact Or.inr ⟨o_,Or.inl (by assumption)⟩|exact Or.inr ⟨o_,Or.inr o_⟩)];omega
   · refine qA rfl (Or.inr rfl) ?_
     simp -implicitDefEqProofs only[wL,seval,g0,g1,g5]
     refine er_ ?_
     try(with_reducible rfl)
     rw[k1_1,if_neg (by rw[Bool.or_eq_true,Bool.and_eq_true,Bool.or_eq_true,decide_eq_true_eq,decide_eq_true_eq];rintro (h|⟨h,h|h⟩)<;>first|omega|simp_all)];rfl
   · refine⟨wk_,n+1,o_,?_⟩
     refine⟨?_,?_,?_,?_,?_⟩
     iterate 3 (focus(first|(simp -implicitDefEqProofs only[wL,wM,wN,wX,seval,Option.some.injEq,g0,g1,g5]<;>exact wt_)|rfl|exact⟨_,rfl⟩))
     all_goals try omega
     rw[k1_1,h0,if_pos (by rw[Bool.or_eq_true,Bool.and_eq_true,Bool.or_eq_true,decide_eq_true_eq,decide_eq_true_eq];first|exact Or.inl (by assumption)|exact Or.inr ⟨o_,Or.inl (by assumption)⟩|exact Or.inr ⟨o_,Or.inr o_⟩)];omega
   · refine qA rfl (Or.inr rfl) ?_
     simp -implicitDefEqProofs only[wL,seval,g0,g1,g5]
     refine er_ ?_
     try(with_reducible rfl)
     rw[k1_1,if_neg (by rw[Bool.or_eq_true,Bool.and_eq_true,Bool.or_eq_true,decide_eq_true_eq,decide_eq_true_eq];rintro (h|⟨h,h|h⟩)<;>first|omega|simp_all)];rfl
   · refine⟨wk_,n+1,o_,?_⟩
     refine⟨?_,?_,?_,?_,?_⟩
     iterate 3 (focus(first|(simp -implicitDefEqProofs only[wL,wM,wN,wX,seval,Option.some.injEq,g0,g1,g5]<;>exact wt_)|rfl|exact⟨_,rfl⟩))
     all_goals try omega
     rw[k1_1,h0,if_pos (by rw[Bool.or_eq_true,Bool.and_eq_true,Bool.or_eq_true,decide_eq_true_eq,decide_eq_true_eq];first|exact Or.inl (by assumption)|exact Or.inr ⟨o_,Or.inl (by assumption)⟩|exact Or.inr ⟨o_,Or.inr o_⟩)];omega
 · repeat' with_reducible first
    |refine s_ ?_
    |simp -implicitDefEqProofs only[wZZ,seval,g0,g1,g5,hz]
    |(first|apply qh|apply qi)<;>intro h h_<;>(try simp only[wD,reduceCtorEq]at h_)<;>(try exact wb_)<;>(try simp only[h])
   refine qA rfl (Or.inr rfl) ?_
   simp -implicitDefEqProofs only[wL,seval,g0,g1,g5]
   refine er_ ?_
   try(with_reducible rfl)
   rw[List.drop_eq_nil_of_le o_]at k1_1
   rw[k1_1];simp[ZK]
def Vt (tx:List UInt8):Bool:=decide (1≤tx.length) && decide (tx.length≤20) && decide (ZK tx false=tx.length)
theorem xS {tx:List UInt8} (hs:tx.length≤1099511627776):Pure Try.prog 68 [.str tx] (.bool (Vt tx)):=by
 refine pure_intro Try.func68 nm_ quN (by show 1≤18;decide) ?_
 show ewp _ que _ _
 repeat' with_reducible first
  |refine s_ ?_
  |simp -implicitDefEqProofs only[wZZ,seval]
  |(first|apply qh|apply qi)<;>intro h h_<;>(try simp only[wD,reduceCtorEq]at h_)<;>(try exact wb_)<;>(try simp only[h])
  |refine zT we_ we_ (ZR wf_) ?_
 all_goals refine qA rfl (Or.inr rfl) ?_
 all_goals(try simp -implicitDefEqProofs only[wL,seval])
 all_goals refine er_ ?_
 all_goals(try(with_reducible rfl))
 all_goals(rw[Bool.eq_iff_iff];simp[Vt];omega)
@[reducible] def Sym.none (x:Sym):Bool:=decide (x.name=[]) && !x.lit && decide (x.num=0)
theorem kV {x:Sym}:Pure Try.prog 78 [x.V] (.bool x.none):=by
 refine pure_intro Try.func78 nm_ qAL (by show 1≤16;decide) ?_
 show ewp _ qz3 _ _
 obtain ⟨nm,lt,nu,at_⟩:=x
 repeat' with_reducible first
  |refine s_ ?_
  |simp -implicitDefEqProofs only[wZZ,seval]
  |(first|apply qh|apply qi)<;>intro h h_<;>(try simp only[wD,reduceCtorEq]at h_)<;>(try exact wb_)<;>(try simp only[h])
  |refine t_ ?_
 all_goals refine qA rfl (Or.inr rfl) ?_
 all_goals(try simp -implicitDefEqProofs only[wL,seval])
 all_goals refine er_ ?_
 all_goals(try(with_reducible rfl))
 all_goals(simp_all [Sym.none])

def Vz (x:Sym) (num lit:Bool):Bool:=if x.lit then lit && decide (x.name.length=1) && Qd (x.name.headD 0) && decide (x.num=0)else Vt x.name && (decide (x.num=0) || (num && decide (1≤x.num) && decide (x.num≤50000)))
theorem jQ {x:Sym} {num lit:Bool} (hs:x.name.length≤1099511627776):Pure Try.prog 76 [x.V,.bool num,.bool lit] (.bool (Vz x num lit)):=by
 refine pure_intro Try.func76 nm_ qt9 (by show 3≤53;decide) ?_
 show ewp _ qgw _ _
 obtain ⟨nm,lt,nu,at_⟩:=x
 repeat' with_reducible first
  |refine s_ ?_
  |simp -implicitDefEqProofs only[wZZ,seval]
  |(first|apply qa|apply qh|apply qi)<;>intro h h_<;>(try simp only[wD,reduceCtorEq]at h_)<;>(try exact wb_)<;>(try simp only[h])
  |refine t_ ?_
  |refine cq1 yU we_ ?_
  |refine j5 we_ (xS wf_) ?_
 all_goals refine qA rfl (Or.inr rfl) ?_
 all_goals(try simp -implicitDefEqProofs only[wL,seval])
 all_goals refine er_ ?_
 all_goals(try(with_reducible rfl))
 all_goals first
  |(simp_all [Vz];done)
  |(simp_all [Vz];omega)
  | (obtain ⟨c,hc⟩: ∃c,nm=[c]:=List.length_eq_one_iff.1 o_
     subst hc
     simp_all [Vz])

def Sym.Fits (x:Sym):Prop:=x.name.length≤1099511627776
def qgu (d:Decl):Bool:=decide (d.kind<1) || decide (6<d.kind) || decide ((d.syms.length:Int)=0) || (decide (d.kind=6) && (!decide ((d.syms.length:Int)=1) || !decide (d.tag=[]))) || (decide (d.kind=5) && decide (d.tag=[])) || (!decide (d.tag=[]) && !Vt d.tag)
def ZX (d:Decl):Bool:= !qgu d && d.syms.all fun x=>Vz x (decide (d.kind=1)) (decide (d.kind<5))
theorem Ze {d:Decl} (ht:d.tag.length≤1099511627776) (hl:d.syms.length≤1099511627776) (hs: ∀x∈d.syms,x.name.length≤1099511627776):Pure Try.prog 67 [d.V] (.bool (ZX d)):=by
 refine pure_intro Try.func67 nm_ qpP (by show 1≤75;decide) ?_
 show ewp _ qgs _ _
 obtain ⟨kd,tg,sy,at_⟩:=d
 dsimp only at ht hl hs
 refine yR (fun s=>s.f 1=.ptr 0 0 0∧s.H 0=some (.own 4 [Decl.V ⟨kd,tg,sy,at_⟩] false)∧1≤s.next) ?_ ?_
 · repeat' with_reducible first
    |refine s_ ?_
    |simp -implicitDefEqProofs only[wZZ,seval]
    |refine t_ ?_
   all_goals(refine⟨?_,?_,?_⟩)
   all_goals((try simp -implicitDefEqProofs only[wL,wM,wN,seval]);try(first|rfl|omega))
 intro s ⟨g1,o0,hnx⟩
 refine qcU ?_
 refine yR (fun s=>s.f 1=.ptr 0 0 0∧s.f 54=.bool (qgu ⟨kd,tg,sy,at_⟩)∧s.H 0=some (.own 4 [Decl.V ⟨kd,tg,sy,at_⟩] false)∧1≤s.next) ?_ ?_
 · repeat' with_reducible first
    |refine s_ ?_
    |simp -implicitDefEqProofs only[wZZ,seval,g1,o0]
    |(first|apply qh|apply qi)<;>intro h h_<;>(try simp only[wD,reduceCtorEq]at h_)<;>(try exact wb_)<;>(try simp only[h])
    |refine t_ ?_
    |refine j5 we_ (xS wf_) ?_
   all_goals(refine⟨?_,?_,?_,?_⟩)
   all_goals((try simp -implicitDefEqProofs only[wL,wM,wN,seval,g1,o0]);try(first|rfl|omega))
   all_goals(refine congrArg V.bool ?_;simp only[qgu, *];rfl)
 intro s ⟨g1,g54,o0,hnx⟩
 by_cases hb:qgu ⟨kd,tg,sy,at_⟩=true
 · have e:ZX ⟨kd,tg,sy,at_⟩=false:=by unfold ZX;rw[hb];rfl
   rw[e]
   repeat' with_reducible first
    |refine s_ ?_
    |simp -implicitDefEqProofs only[wZZ,seval,g1,g54,o0,hb]
   refine qA rfl (Or.inr rfl) ?_
   simp -implicitDefEqProofs only[wL,seval,g1,g54]
   refine er_ ?_
   try(with_reducible rfl)
 · have hb2:qgu ⟨kd,tg,sy,at_⟩=false:=by simpa using hb
   have e:ZX ⟨kd,tg,sy,at_⟩=sy.all fun x=>Vz x (decide (kd=1)) (decide (kd<5)):=by unfold ZX;rw[hb2];rfl
   rw[e]
   repeat' with_reducible first
    |refine s_ ?_
    |simp -implicitDefEqProofs only[wZZ,seval,g1,g54,o0,hb2]
   refine qg ?nx1 (fun(k:Nat) s=>s.f 1=?v1_1∧s.H 0=?o1_0∧s.f 3=vi k∧(k≤sy.length)∧(∀x∈sy.take k,Vz x (decide (kd=1)) (decide (kd<5))=true)) (fun k=>sy.length - k) (0) wj_ (by refine⟨?_,?_,?_,wo_,wo_⟩<;>first|(simp -implicitDefEqProofs only[wL,wM,wN,wX,seval,Option.some.injEq,g1,g54,o0]<;>exact wt_)|rfl|exact⟨_,rfl⟩) ?_
   intro k s hnx ⟨g1,o0,g3,k1_0,k1_1⟩
   by_cases hk:k<sy.length
   · have hx:=hs sy[k] (List.getElem_mem hk)
     have ht2:sy.take (k+1)=sy.take k++[sy[k]]:=by rw[List.take_add_one,ge_ hk];rfl
     repeat' with_reducible first
      |refine s_ ?_
      |simp -implicitDefEqProofs only[wZZ,seval,g1,g3,o0]
      |apply qa<;>intro h h_<;>(try simp only[wD,reduceCtorEq]at h_)<;>(try exact wb_)<;>(try simp only[h])
      |refine t_ ?_
      |refine yw we_ we_ we_ (jQ wf_) ?_
      |simp -implicitDefEqProofs (disch:=omega) only[w64,if_neg]
     · refine qA rfl (Or.inr rfl) ?_
       simp -implicitDefEqProofs only[wL,seval,g1,g3]
       refine er_ ?_
       try(with_reducible rfl)
       refine(List.all_eq_false.2 ⟨sy[k],List.getElem_mem hk,?_⟩).symm
       rw[h_];exact Bool.false_ne_true
     · refine⟨wk_,k+1,o_,?_⟩
       refine⟨?_,?_,?_,?_,?_⟩
       iterate 3 (focus(first|(simp -implicitDefEqProofs only[wL,wM,wN,wX,seval,Option.some.injEq,g1,g3,o0]<;>exact wt_)|rfl|exact⟨_,rfl⟩))
       all_goals try omega
       rw[ht2]
       intro x hx2
       rcases List.mem_append.1 hx2 with hx2|hx2
       · exact k1_1 x hx2
       · obtain rfl:=List.mem_singleton.1 hx2
         exact h_
   · repeat' with_reducible first
      |refine s_ ?_
      |simp -implicitDefEqProofs only[wZZ,seval,g1,g3,o0]
      |apply qa<;>intro h h_<;>(try simp only[wD,reduceCtorEq]at h_)<;>(try exact wb_)<;>(try simp only[h])
      |refine t_ ?_
     refine qA rfl (Or.inr rfl) ?_
     simp -implicitDefEqProofs only[wL,seval,g1,g3]
     refine er_ ?_
     try(with_reducible rfl)
     rw[List.take_of_length_le o_]at k1_1
     exact(List.all_eq_true.2 k1_1).symm

def Jh (q:UInt8):List UInt8→Int→Int
 |[],_=> -1
 |[c],i=>if c.toNat=10 then -1 else if c.toNat=q.toNat then i+1 else -1
 |c::d::r,i=>if c.toNat=10 then -1 else if c.toNat=q.toNat then i+1 else if c.toNat=92 then(if d.toNat=10 then -1 else Jh q r (i+2))else Jh q (d::r) (i+1)
theorem qbq (q c:UInt8) (r:List UInt8) (i:Int):Jh q (c::r) i=if c.toNat=10 then -1 else if c.toNat=q.toNat then i+1 else if c.toNat=92 then(if (r.headD 10).toNat=10 then -1 else Jh q r.tail (i+2))else Jh q r (i+1):=by
 cases r with
 |nil=>simp[Jh]
 |cons d r=>simp[Jh]
def XW:List UInt8→Int→Int
 |[],_=> -1
 |c::r,i=>if c.toNat=96 then i+1 else XW r (i+1)
def Yf:List UInt8→Int→Int
 |[],i=>i
 |c::r,i=>if c.toNat=10 then i else Yf r (i+1)
def JW (tx:List UInt8):Nat→Int→Int
 |0,_=> -1
 |n+1,i=>if jR tx i [42,47]then i+2 else JW tx n (i+1)
def YH (tx:List UInt8) (at_:Nat):Int:=
 let c:=tx.getD at_ 0
 if c.toNat=34∨c.toNat=39 then Jh c (tx.drop (at_+1)) (at_+1)else if c.toNat=96 then XW (tx.drop (at_+1)) (at_+1)
 else if jR tx at_ [47,47]then Yf (tx.drop at_) at_ else if jR tx at_ [47,42]then JW tx (tx.length - (at_+2)) (at_+2)else at_
theorem jb {tx:List UInt8} {at_:Nat} (hs:tx.length≤1099511627776) (ha:at_<tx.length):Pure Try.prog 88 [.str tx,vi at_] (vi (YH tx at_)):=by
 refine pure_intro Try.func88 nm_ qub (by show 2≤114;decide) ?_
 show ewp _ qgo _ _
 have hg:tx.getD at_ 0=tx[at_]:=by simp[List.getD,ha]
 have he:YH tx at_=if tx[at_].toNat=34∨tx[at_].toNat=39 then Jh tx[at_] (tx.drop (at_+1)) (at_+1)else if tx[at_].toNat=96 then XW (tx.drop (at_+1)) (at_+1)
  else if jR tx at_ [47,47]then Yf (tx.drop at_) at_ else if jR tx at_ [47,42]then JW tx (tx.length - (at_+2)) (at_+2)else at_:=by unfold YH;rw[hg]
 refine yR (fun s=>s.f 0=.str tx∧s.f 1=vi at_∧0≤s.next) ?_ ?_
 · repeat' with_reducible first
    |refine s_ ?_
    |simp -implicitDefEqProofs only[wZZ,seval]
   all_goals(refine⟨?_,?_,?_⟩)
   all_goals((try simp -implicitDefEqProofs only[wL,wM,wN,seval]);try(first|rfl|omega))
 intro s ⟨g0,g1,hnx⟩
 refine vV ?_
 refine vY ?_
 refine yR (fun s=>s.f 0=.str tx∧s.f 1=vi at_∧s.f 9=.bool (decide (tx[at_].toNat=34) || decide (tx[at_].toNat=39))∧0≤s.next) ?_ ?_
 · repeat' with_reducible first
    |refine s_ ?_
    |simp -implicitDefEqProofs only[wZZ,seval,g0,g1]
    |(first|apply qh|apply qi)<;>intro h h_<;>(try simp only[wD,reduceCtorEq]at h_)<;>(try exact wb_)<;>(try simp only[h])
    |refine t_ ?_
   all_goals(refine⟨?_,?_,?_,?_⟩)
   all_goals((try simp -implicitDefEqProofs only[wL,wM,wN,seval,g0,g1]);try(first|rfl|omega))
   all_goals(refine congrArg V.bool ?_;rw[Bool.eq_iff_iff];simp;omega)
 intro s ⟨g0,g1,g9,hnx⟩
 by_cases h1:tx[at_].toNat=34∨tx[at_].toNat=39
 · rw [if_pos h1]at he
   rw[he]
   generalize hR:Jh tx[at_] (tx.drop (at_+1)) ((at_:Int)+1)=R
   have hb:(decide (tx[at_].toNat=34) || decide (tx[at_].toNat=39))=true:=by simpa using h1
   repeat' with_reducible first
    |refine s_ ?_
    |simp -implicitDefEqProofs only[wZZ,seval,g0,g1,g9,hb]
    |simp -implicitDefEqProofs (disch:=omega) only[w64,if_neg]
   refine qg ?nx1 (fun(k:Nat) s=>s.f 0=?v1_0∧s.f 1=?v1_1∧s.f 5=vi k∧(k≤tx.length+1)∧(Jh tx[at_] (tx.drop k) k=R)) (fun k=>tx.length+1 - k) (at_+1) wj_ (by refine⟨?_,?_,?_,wo_,(by rw[← hR];rfl)⟩<;>first|(simp -implicitDefEqProofs only[wL,wM,wN,wX,seval,Option.some.injEq,g0,g1,g9]<;>exact wt_)|rfl|exact⟨_,rfl⟩) ?_
   intro k s hnx ⟨g0,g1,g5,k1_0,k1_1⟩
   by_cases hk:k<tx.length
   · have hd:tx.drop k=tx[k]::tx.drop (k+1):=List.drop_eq_getElem_cons hk
     have hz:=w1_ k
     rw[hd,qbq]at k1_1
     repeat' with_reducible first
      |refine s_ ?_
      |simp -implicitDefEqProofs only[wZZ,seval,g0,g1,g5,hz]
      |(first|apply qa|apply qh|apply qi)<;>intro h h_<;>(try simp only[wD,reduceCtorEq]at h_)<;>(try exact wb_)<;>(try simp only[h])
      |refine t_ ?_
      |simp -implicitDefEqProofs (disch:=omega) only[w64,if_neg]
     · refine qA rfl (Or.inr rfl) ?_
       simp -implicitDefEqProofs only[wL,seval,g0,g1,g5]
       refine er_ ?_
       try(with_reducible rfl)
       rw[← k1_1,if_neg o_,if_pos o_];rfl
     · refine qA rfl (Or.inr rfl) ?_
       simp -implicitDefEqProofs only[wL,seval,g0,g1,g5]
       refine er_ ?_
       try(with_reducible rfl)
       rw[← k1_1,if_neg o_,if_neg o_,if_pos o_,List.drop_eq_getElem_cons (show k+1<tx.length by omega),List.headD_cons,if_pos o_]
     · refine⟨wk_,k+2,o_,?_⟩
       refine⟨?_,?_,?_,?_,?_⟩
       iterate 3 (focus(first|(simp -implicitDefEqProofs only[wL,wM,wN,wX,seval,Option.some.injEq,g0,g1,g5]<;>exact wt_)|rfl|exact⟨_,rfl⟩))
       all_goals try omega
       rw[← k1_1,if_neg o_,if_neg o_,if_pos o_,List.drop_eq_getElem_cons (show k+1<tx.length by omega),List.headD_cons,if_neg o_];rfl
     · refine⟨wk_,k+2,o_,?_⟩
       refine⟨?_,?_,?_,?_,?_⟩
       iterate 3 (focus(first|(simp -implicitDefEqProofs only[wL,wM,wN,wX,seval,Option.some.injEq,g0,g1,g5]<;>exact wt_)|rfl|exact⟨_,rfl⟩))
       all_goals try omega
       rw[← k1_1,if_neg o_,if_neg o_,if_pos o_,List.drop_eq_nil_of_le (show tx.length≤k+1 by omega),List.drop_eq_nil_of_le (show tx.length≤k+2 by omega)];rfl
     · refine⟨wk_,k+1,o_,?_⟩
       refine⟨?_,?_,?_,?_,?_⟩
       iterate 3 (focus(first|(simp -implicitDefEqProofs only[wL,wM,wN,wX,seval,Option.some.injEq,g0,g1,g5]<;>exact wt_)|rfl|exact⟨_,rfl⟩))
       all_goals try omega
       rw[← k1_1,if_neg o_,if_neg o_,if_neg o_];rfl
     · refine qA rfl (Or.inr rfl) ?_
       simp -implicitDefEqProofs only[wL,seval,g0,g1,g5]
       refine er_ ?_
       try(with_reducible rfl)
       rw[← k1_1,if_pos o_]
   · rw[List.drop_eq_nil_of_le o_]at k1_1
     repeat' with_reducible first
      |refine s_ ?_
      |simp -implicitDefEqProofs only[wZZ,seval,g0,g1,g5]
      |(first|apply qh|apply qi)<;>intro h h_<;>(try simp only[wD,reduceCtorEq]at h_)<;>(try exact wb_)<;>(try simp only[h])
     refine qA rfl (Or.inr rfl) ?_
     simp -implicitDefEqProofs only[wL,seval,g0,g1,g5]
     refine er_ ?_
     try(with_reducible rfl)
     rw[← k1_1];rfl
 · skip
   rw[if_neg h1]at he
   have hb:(decide (tx[at_].toNat=34) || decide (tx[at_].toNat=39))=false:=by simpa using h1
   by_cases h2:tx[at_].toNat=96
   · rw [if_pos h2]at he
     rw[he]
     generalize hR:XW (tx.drop (at_+1)) ((at_:Int)+1)=R
     repeat' with_reducible first
      |refine s_ ?_
      |simp -implicitDefEqProofs only[wZZ,seval,g0,g1,g9,hb]
      |apply qa<;>intro h h_<;>(try simp only[wD,reduceCtorEq]at h_)<;>(try exact wb_)<;>(try simp only[h])
      |refine t_ ?_
      |simp -implicitDefEqProofs (disch:=omega) only[w64,if_neg]
     refine qg ?nx2 (fun(k:Nat) s=>s.f 0=?v2_0∧s.f 6=vi k∧(k≤tx.length)∧(XW (tx.drop k) k=R)) (fun k=>tx.length - k) (at_+1) wj_ (by refine⟨?_,?_,wo_,(by rw[← hR];rfl)⟩<;>first|(simp -implicitDefEqProofs only[wL,wM,wN,wX,seval,Option.some.injEq,g0,g1,g9]<;>exact wt_)|rfl|exact⟨_,rfl⟩) ?_
     intro k s hnx ⟨g0,g6,k2_0,k2_1⟩
     by_cases hk:k<tx.length
     · rw[List.drop_eq_getElem_cons hk,XW]at k2_1
       repeat' with_reducible first
        |refine s_ ?_
        |simp -implicitDefEqProofs only[wZZ,seval,g0,g6]
        |apply qa<;>intro h h_<;>(try simp only[wD,reduceCtorEq]at h_)<;>(try exact wb_)<;>(try simp only[h])
        |refine t_ ?_
        |simp -implicitDefEqProofs (disch:=omega) only[w64,if_neg]
       · refine qA rfl (Or.inr rfl) ?_
         simp -implicitDefEqProofs only[wL,seval,g0,g6]
         refine er_ ?_
         try(with_reducible rfl)
         rw[← k2_1,if_pos o_];rfl
       · refine⟨wk_,k+1,o_,?_⟩
         refine⟨?_,?_,?_,?_⟩
         iterate 2 (focus(first|(simp -implicitDefEqProofs only[wL,wM,wN,wX,seval,Option.some.injEq,g0,g6]<;>exact wt_)|rfl|exact⟨_,rfl⟩))
         all_goals try omega
         rw[← k2_1,if_neg o_];rfl
     · rw[List.drop_eq_nil_of_le o_]at k2_1
       repeat' with_reducible first
        |refine s_ ?_
        |simp -implicitDefEqProofs only[wZZ,seval,g0,g6]
        |apply qa<;>intro h h_<;>(try simp only[wD,reduceCtorEq]at h_)<;>(try exact wb_)<;>(try simp only[h])
       refine qA rfl (Or.inr rfl) ?_
       simp -implicitDefEqProofs only[wL,seval,g0,g6]
       refine er_ ?_
       try(with_reducible rfl)
       rw[← k2_1];rfl
   · skip
     rw[if_neg h2]at he
     by_cases h3:jR tx at_ [47,47]=true
     · rw [if_pos h3]at he
       rw[he]
       generalize hR:Yf (tx.drop at_) at_=R
       repeat' with_reducible first
        |refine s_ ?_
        |simp -implicitDefEqProofs only[wZZ,seval,g0,g1,g9,hb,h3]
        |apply qa<;>intro h h_<;>(try simp only[wD,reduceCtorEq]at h_)<;>(try exact wb_)<;>(try simp only[h])
        |refine t_ ?_
        |refine yw we_ we_ we_ (jd wf_ wf_ wf_ wf_) ?_
       refine qg ?nx3 (fun(k:Nat) s=>s.f 0=?v3_0∧s.f 7=vi k∧(k≤tx.length)∧(Yf (tx.drop k) k=R)) (fun k=>tx.length - k) (at_) wj_ (by refine⟨?_,?_,wo_,(by rw[← hR])⟩<;>first|(simp -implicitDefEqProofs only[wL,wM,wN,wX,seval,Option.some.injEq,g0,g1,g9]<;>exact wt_)|rfl|exact⟨_,rfl⟩) ?_
       intro k s hnx ⟨g0,g7,k3_0,k3_1⟩
       by_cases hk:k<tx.length
       · rw[List.drop_eq_getElem_cons hk,Yf]at k3_1
         repeat' with_reducible first
          |refine s_ ?_
          |simp -implicitDefEqProofs only[wZZ,seval,g0,g7]
          |(first|apply qa|apply qh|apply qi)<;>intro h h_<;>(try simp only[wD,reduceCtorEq]at h_)<;>(try exact wb_)<;>(try simp only[h])
          |refine t_ ?_
          |simp -implicitDefEqProofs (disch:=omega) only[w64,if_neg]
         · refine⟨wk_,k+1,o_,?_⟩
           refine⟨?_,?_,?_,?_⟩
           iterate 2 (focus(first|(simp -implicitDefEqProofs only[wL,wM,wN,wX,seval,Option.some.injEq,g0,g7]<;>exact wt_)|rfl|exact⟨_,rfl⟩))
           all_goals try omega
           rw[← k3_1,if_neg o_];rfl
         · refine qA rfl (Or.inr rfl) ?_
           simp -implicitDefEqProofs only[wL,seval,g0,g7]
           refine er_ ?_
           try(with_reducible rfl)
           rw[← k3_1,if_pos o_]
       · rw[List.drop_eq_nil_of_le o_]at k3_1
         repeat' with_reducible first
          |refine s_ ?_
          |simp -implicitDefEqProofs only[wZZ,seval,g0,g7]
          |(first|apply qh|apply qi)<;>intro h h_<;>(try simp only[wD,reduceCtorEq]at h_)<;>(try exact wb_)<;>(try simp only[h])
         refine qA rfl (Or.inr rfl) ?_
         simp -implicitDefEqProofs only[wL,seval,g0,g7]
         refine er_ ?_
         try(with_reducible rfl)
         rw[← k3_1];rfl
     · skip
       rw[if_neg h3]at he
       have h3b:jR tx at_ [47,47]=false:=by simpa using h3
       by_cases h4:jR tx at_ [47,42]=true
       · rw [if_pos h4]at he
         rw[he]
         generalize hR:JW tx (tx.length - (at_+2)) ((at_:Int)+2)=R
         repeat' with_reducible first
          |refine s_ ?_
          |simp -implicitDefEqProofs only[wZZ,seval,g0,g1,g9,hb,h3b,h4]
          |apply qa<;>intro h h_<;>(try simp only[wD,reduceCtorEq]at h_)<;>(try exact wb_)<;>(try simp only[h])
          |refine t_ ?_
          |refine yw we_ we_ we_ (jd wf_ wf_ wf_ wf_) ?_
          |simp -implicitDefEqProofs (disch:=omega) only[w64,if_neg]
         refine qg ?nx4 (fun(k:Nat) s=>s.f 0=?v4_0∧s.f 8=vi k∧(JW tx (tx.length - k) k=R)) (fun k=>tx.length - k) (at_+2) wj_ (by refine⟨?_,?_,(by rw[← hR];rfl)⟩<;>first|(simp -implicitDefEqProofs only[wL,wM,wN,wX,seval,Option.some.injEq,g0,g1,g9]<;>exact wt_)|rfl|exact⟨_,rfl⟩) ?_
         intro k s hnx ⟨g0,g8,k4_0⟩
         by_cases hk:k<tx.length
         · rw[show tx.length - k=(tx.length - (k+1))+1 by omega,JW]at k4_0
           repeat' with_reducible first
            |refine s_ ?_
            |simp -implicitDefEqProofs only[wZZ,seval,g0,g8]
            |apply qa<;>intro h h_<;>(try simp only[wD,reduceCtorEq]at h_)<;>(try exact wb_)<;>(try simp only[h])
            |refine yw we_ we_ we_ (jd wf_ wf_ wf_ wf_) ?_
            |simp -implicitDefEqProofs (disch:=omega) only[w64,if_neg]
           · refine qA rfl (Or.inr rfl) ?_
             simp -implicitDefEqProofs only[wL,seval,g0,g8]
             refine er_ ?_
             try(with_reducible rfl)
             rw[← k4_0,if_pos (by assumption)]
           · refine⟨wk_,k+1,o_,?_⟩
             refine⟨?_,?_,?_⟩
             iterate 2 (focus(first|(simp -implicitDefEqProofs only[wL,wM,wN,wX,seval,Option.some.injEq,g0,g8]<;>exact wt_)|rfl|exact⟨_,rfl⟩))
             all_goals try omega
             rw[← k4_0,if_neg (by simp_all)];rfl
         · rw[show tx.length - k=0 by omega,JW]at k4_0
           repeat' with_reducible first
            |refine s_ ?_
            |simp -implicitDefEqProofs only[wZZ,seval,g0,g8]
            |apply qa<;>intro h h_<;>(try simp only[wD,reduceCtorEq]at h_)<;>(try exact wb_)<;>(try simp only[h])
           refine qA rfl (Or.inr rfl) ?_
           simp -implicitDefEqProofs only[wL,seval,g0,g8]
           refine er_ ?_
           try(with_reducible rfl)
           exact k4_0
       · skip
         rw[if_neg h4]at he
         have h4b:jR tx at_ [47,42]=false:=by simpa using h4
         rw[he]
         repeat' with_reducible first
          |refine s_ ?_
          |simp -implicitDefEqProofs only[wZZ,seval,g0,g1,g9,hb,h3b,h4b]
          |apply qa<;>intro h h_<;>(try simp only[wD,reduceCtorEq]at h_)<;>(try exact wb_)<;>(try simp only[h])
          |refine t_ ?_
          |refine yw we_ we_ we_ (jd wf_ wf_ wf_ wf_) ?_
         refine qA rfl (Or.inr rfl) ?_
         simp -implicitDefEqProofs only[wL,seval,g0,g1,g9]
         refine er_ ?_
         try(with_reducible rfl)

theorem qeh {l:List UInt8} {k:Nat} (h:k<l.length):l.getD k 0=l[k]:=by simp[List.getD,h]
def endGo (tx:List UInt8):Nat→Int→Int→Int
 |0,_,_=> -1
 | n+1,i,d=>if i<tx.length then
  (if YH tx i.toNat<0 then -1 else if i<YH tx i.toNat then endGo tx n (YH tx i.toNat) d
   else if d+(if (tx.getD i.toNat 0).toNat=123 then 1 else 0) - (if (tx.getD i.toNat 0).toNat=125 then 1 else 0)=0 then i+1
   else endGo tx n (i+1) (d+(if (tx.getD i.toNat 0).toNat=123 then 1 else 0) - (if (tx.getD i.toNat 0).toNat=125 then 1 else 0)))
   else -1
def qBy (tx:List UInt8):Int:=if (tx.headD 0).toNat=123 then endGo tx (tx.length+1) 0 0 else -1
theorem Yh {tx : List UInt8} (hs:tx.length≤1099511627776):Pure Try.prog 79 [.str tx,vi 0] (vi (qBy tx)):=by
 refine pure_intro Try.func79 nm_ qt5 (by show 2≤53;decide) ?_
 show ewp _ qgh _ _
 by_cases h0:tx=[]
 · subst h0
   repeat' with_reducible first
    |refine s_ ?_
    |simp -implicitDefEqProofs only[wZZ,seval]
   refine qA rfl (Or.inr rfl) ?_
   simp -implicitDefEqProofs only[wL,seval]
   refine er_ ?_
   try(with_reducible rfl)
   rfl
 · have hl : 0 < tx.length:=List.length_pos_iff.2 h0
   have hh:tx.headD 0=tx[0]:=by cases tx with|nil=>exact absurd rfl h0|cons a r=>rfl
   have he:qBy tx=if tx[0].toNat=123 then endGo tx (tx.length+1) 0 0 else -1:=by unfold qBy;rw[hh]
   rw[he]
   by_cases hc:tx[0].toNat=123
   · rw [if_pos hc]
     generalize hR:endGo tx (tx.length+1) 0 0=R
     repeat' with_reducible first
      |refine s_ ?_
      |simp -implicitDefEqProofs only[wZZ,seval]
      |(first|apply qa|apply qh|apply qi)<;>intro h h_<;>(try simp only[wD,reduceCtorEq]at h_)<;>(try exact wb_)<;>(try simp only[h])
      |refine t_ ?_
     refine qg ?nx1 (fun(p:Nat×Int) s=>s.f 0=?v1_0∧s.f 5=vi p.2∧s.f 6=vi p.1∧((-(p.1:Int)≤p.2∧p.2≤p.1))∧((∃n,tx.length<p.1+n∧endGo tx n p.1 p.2=R))) (fun p=>tx.length - p.1) ((0,0)) wj_ (by refine⟨?_,?_,?_,wo_,(by exact⟨tx.length+1,o_,hR⟩)⟩<;>first|(simp -implicitDefEqProofs only[wL,wM,wN,wX,seval,Option.some.injEq]<;>exact wt_)|rfl|exact⟨_,rfl⟩) ?_
     intro p s hnx ⟨g0,g5,g6,k1_0,k1_1⟩
     obtain ⟨i,d⟩:=p
     dsimp only at *
     obtain ⟨n,hn,hg⟩:=k1_1
     by_cases hi:i<tx.length
     · obtain ⟨n,rfl⟩: ∃m,n=m+1:=⟨n - 1,o_⟩
       rw[endGo,if_pos o_,Int.toNat_natCast,qeh hi]at hg
       by_cases hneg:YH tx i<0
       · rw[if_pos hneg]at hg
         repeat' with_reducible first
          |refine s_ ?_
          |simp -implicitDefEqProofs only[wZZ,seval,g0,g5,g6]
          |apply qa<;>intro h h_<;>(try simp only[wD,reduceCtorEq]at h_)<;>(try exact wb_)<;>(try simp only[h])
          |refine zT we_ we_ (jb wf_ wf_) ?_
         refine qA rfl (Or.inr rfl) ?_
         simp -implicitDefEqProofs only[wL,seval,g0,g5,g6]
         refine er_ ?_
         try(with_reducible rfl)
         exact hg
       · rw [if_neg hneg]at hg
         obtain ⟨m,hm⟩: ∃m:Nat,YH tx i=m:=⟨(YH tx i).toNat,o_⟩
         rw[hm]at hg
         by_cases hgt:(i:Int)<m
         · rw[if_pos hgt]at hg
           repeat' with_reducible first
            |refine s_ ?_
            |simp -implicitDefEqProofs only[wZZ,seval,g0,g5,g6,hm]
            |apply qa<;>intro h h_<;>(try simp only[wD,reduceCtorEq]at h_)<;>(try exact wb_)<;>(try simp only[h])
            |refine zT we_ we_ (jb wf_ wf_) ?_
           refine⟨wk_,(m,d),o_,?_⟩
           refine⟨?_,?_,?_,?_,?_⟩
           iterate 3 (focus(first|(simp -implicitDefEqProofs only[wL,wM,wN,wX,seval,Option.some.injEq,g0,g5,g6]<;>exact wt_)|rfl|exact⟨_,rfl⟩))
           all_goals try omega
           exact⟨n,o_,hg⟩
         · rw [if_neg hgt]at hg
           by_cases h1:tx[i].toNat=123
           · have h2: ¬ tx[i].toNat=125:=o_
             have hz:IntKind.i64.wrap (d+1)=d+1:=wrap64 o_ o_
             rw[if_pos h1,if_neg h2]at hg
             repeat' with_reducible first
              |refine s_ ?_
              |simp -implicitDefEqProofs only[wZZ,seval,g0,g5,g6,hm,hz]
              |apply qa<;>intro h h_<;>(try simp only[wD,reduceCtorEq]at h_)<;>(try exact wb_)<;>(try simp only[h])
              |refine t_ ?_
              |refine zT we_ we_ (jb wf_ wf_) ?_
              |simp -implicitDefEqProofs (disch:=omega) only[w64,if_neg]
             · refine qA rfl (Or.inr rfl) ?_
               simp -implicitDefEqProofs only[wL,seval,g0,g5,g6]
               refine er_ ?_
               try(with_reducible rfl)
               rw[← hg,if_pos o_];rfl
             · refine⟨wk_,(i+1,d+1),o_,?_⟩
               refine⟨?_,?_,?_,?_,?_⟩
               iterate 3 (focus(first|(simp -implicitDefEqProofs only[wL,wM,wN,wX,seval,Option.some.injEq,g0,g5,g6]<;>exact wt_)|rfl|exact⟨_,rfl⟩))
               all_goals try omega
               exact⟨n,o_,by rw[← hg,if_neg o_,Int.sub_zero];rfl⟩
           · by_cases h2:tx[i].toNat=125
             · have hz:IntKind.i64.wrap (d - 1)=d - 1:=wrap64 o_ o_
               rw[if_neg h1,if_pos h2,Int.add_zero]at hg
               repeat' with_reducible first
                |refine s_ ?_
                |simp -implicitDefEqProofs only[wZZ,seval,g0,g5,g6,hm,hz]
                |apply qa<;>intro h h_<;>(try simp only[wD,reduceCtorEq]at h_)<;>(try exact wb_)<;>(try simp only[h])
                |refine t_ ?_
                |refine zT we_ we_ (jb wf_ wf_) ?_
                |simp -implicitDefEqProofs (disch:=omega) only[w64,if_neg]
               · refine qA rfl (Or.inr rfl) ?_
                 simp -implicitDefEqProofs only[wL,seval,g0,g5,g6]
                 refine er_ ?_
                 try(with_reducible rfl)
                 rw[← hg,if_pos o_];rfl
               · refine⟨wk_,(i+1,d - 1),o_,?_⟩
                 refine⟨?_,?_,?_,?_,?_⟩
                 iterate 3 (focus(first|(simp -implicitDefEqProofs only[wL,wM,wN,wX,seval,Option.some.injEq,g0,g5,g6]<;>exact wt_)|rfl|exact⟨_,rfl⟩))
                 all_goals try omega
                 exact⟨n,o_,by rw[← hg,if_neg o_];rfl⟩
             · rw[if_neg h1,if_neg h2,Int.add_zero,Int.sub_zero]at hg
               repeat' with_reducible first
                |refine s_ ?_
                |simp -implicitDefEqProofs only[wZZ,seval,g0,g5,g6,hm]
                |apply qa<;>intro h h_<;>(try simp only[wD,reduceCtorEq]at h_)<;>(try exact wb_)<;>(try simp only[h])
                |refine t_ ?_
                |refine zT we_ we_ (jb wf_ wf_) ?_
                |simp -implicitDefEqProofs (disch:=omega) only[w64,if_neg]
               · refine qA rfl (Or.inr rfl) ?_
                 simp -implicitDefEqProofs only[wL,seval,g0,g5,g6]
                 refine er_ ?_
                 try(with_reducible rfl)
                 rw[← hg,if_pos o_];rfl
               · refine⟨wk_,(i+1,d),o_,?_⟩
                 refine⟨?_,?_,?_,?_,?_⟩
                 iterate 3 (focus(first|(simp -implicitDefEqProofs only[wL,wM,wN,wX,seval,Option.some.injEq,g0,g5,g6]<;>exact wt_)|rfl|exact⟨_,rfl⟩))
                 all_goals try omega
                 exact⟨n,o_,by rw[← hg,if_neg o_];rfl⟩
     · have hR2:R= -1:=by
        rw[← hg];cases n with
        |zero=>rfl
        |succ n=>rw[endGo,if_neg o_]
       repeat' with_reducible first
        |refine s_ ?_
        |simp -implicitDefEqProofs only[wZZ,seval,g0,g5,g6]
        |apply qa<;>intro h h_<;>(try simp only[wD,reduceCtorEq]at h_)<;>(try exact wb_)<;>(try simp only[h])
       refine qA rfl (Or.inr rfl) ?_
       simp -implicitDefEqProofs only[wL,seval,g0,g5,g6]
       refine er_ ?_
       try(with_reducible rfl)
       exact hR2.symm
   · skip
     rw[if_neg hc]
     repeat' with_reducible first
      |refine s_ ?_
      |simp -implicitDefEqProofs only[wZZ,seval]
      |(first|apply qa|apply qh|apply qi)<;>intro h h_<;>(try simp only[wD,reduceCtorEq]at h_)<;>(try exact wb_)<;>(try simp only[h])
      |refine t_ ?_
     refine qA rfl (Or.inr rfl) ?_
     simp -implicitDefEqProofs only[wL,seval]
     refine er_ ?_
     try(with_reducible rfl)

def Zt (p:Part):Bool:=if p.code=[]then Vz p.sym false true else p.sym.none && decide (qBy p.code=p.code.length)
def qaO (a:Alt):Bool:=a.parts.all Zt && (a.prec.none || Vz a.prec false true)
def Part.Fits (p:Part):Prop:=p.sym.name.length≤1099511627776∧p.code.length≤1099511627776
def Alt.Fits (a:Alt):Prop:=a.parts.length≤1099511627776∧(∀p∈a.parts,p.Fits)∧a.prec.name.length≤1099511627776
theorem Z4 {a:Alt} (hf:a.Fits):Pure Try.prog 69 [a.V] (.bool (qaO a)):=by
 refine pure_intro Try.func69 nm_ qw6 (by show 1≤54;decide) ?_
 show ewp _ qgG _ _
 obtain ⟨hl,hp,hn⟩:=hf
 obtain ⟨ps,pc,at_⟩:=a
 dsimp only at hl hp hn
 repeat' with_reducible first
  |refine s_ ?_
  |simp -implicitDefEqProofs only[wZZ,seval]
  |refine t_ ?_
 refine qg ?nx1 (fun(k:Nat) s=>s.f 1=?v1_1∧s.H 0=?o1_0∧s.f 3=vi k∧(k≤ps.length)∧(∀x∈ps.take k,Zt x=true)) (fun k=>ps.length - k) (0) wj_ (by refine⟨?_,?_,?_,wo_,wo_⟩<;>first|(simp -implicitDefEqProofs only[wL,wM,wN,wX,seval,Option.some.injEq]<;>exact wt_)|rfl|exact⟨_,rfl⟩) ?_
 intro k s hnx ⟨g1,o0,g3,k1_0,k1_1⟩
 by_cases hk:k<ps.length
 · have hx:=hp ps[k] (List.getElem_mem hk)
   have ht2:ps.take (k+1)=ps.take k++[ps[k]]:=by rw[List.take_add_one,ge_ hk];rfl
   have hbad:Zt ps[k]=false→qaO ⟨ps,pc,at_⟩=false:=fun h=>by
    unfold qaO;rw[List.all_eq_false.2 ⟨ps[k],List.getElem_mem hk,by rw[h];exact Bool.false_ne_true⟩];rfl
   have hgood:Zt ps[k]=true→ ∀x∈ps.take (k+1),Zt x=true:=fun h x hx2=>by
    rw[ht2]at hx2
    rcases List.mem_append.1 hx2 with hx2|hx2
    · exact k1_1 x hx2
    · obtain rfl:=List.mem_singleton.1 hx2
      exact h
   obtain ⟨hx1,hx2⟩:=hx
   repeat' with_reducible first
    |refine s_ ?_
    |simp -implicitDefEqProofs only[wZZ,seval,g1,g3,o0]
    |(first|apply qa|apply qh|apply qi)<;>intro h h_<;>(try simp only[wD,reduceCtorEq]at h_)<;>(try exact wb_)<;>(try simp only[h])
    |refine t_ ?_
    |apply xk;exact wu_;exact wu_;(focus((try simp -implicitDefEqProofs only[wE,Nat.reduceAdd]);rfl))
    |refine yw we_ we_ we_ (jQ wf_) ?_
    |refine cq1 kV we_ ?_
    |refine zT we_ we_ (Yh wf_) ?_
    |simp -implicitDefEqProofs (disch:=omega) only[w64,if_neg]
   · refine⟨wk_,k+1,o_,?_⟩
     refine⟨?_,?_,?_,?_,?_⟩
     iterate 3 (focus(first|(simp -implicitDefEqProofs only[wL,wM,wN,wX,seval,Option.some.injEq,g1,g3,o0]<;>exact wt_)|rfl|exact⟨_,rfl⟩))
     all_goals try omega
     exact hgood (by simp_all [Zt,Sym.none])
   · refine qA rfl (Or.inr rfl) ?_
     simp -implicitDefEqProofs only[wL,seval,g1,g3]
     refine er_ ?_
     try(with_reducible rfl)
     exact(hbad (by simp_all [Zt,Sym.none])).symm
   · refine qA rfl (Or.inr rfl) ?_
     simp -implicitDefEqProofs only[wL,seval,g1,g3]
     refine er_ ?_
     try(with_reducible rfl)
     exact(hbad (by simp_all [Zt,Sym.none])).symm
   · refine⟨wk_,k+1,o_,?_⟩
     refine⟨?_,?_,?_,?_,?_⟩
     iterate 3 (focus(first|(simp -implicitDefEqProofs only[wL,wM,wN,wX,seval,Option.some.injEq,g1,g3,o0]<;>exact wt_)|rfl|exact⟨_,rfl⟩))
     all_goals try omega
     exact hgood (by simp_all [Zt,Sym.none])
   · refine qA rfl (Or.inr rfl) ?_
     simp -implicitDefEqProofs only[wL,seval,g1,g3]
     refine er_ ?_
     try(with_reducible rfl)
     exact(hbad (by simp_all [Zt,Sym.none])).symm
 · rw[List.take_of_length_le o_]at k1_1
   have e:qaO ⟨ps,pc,at_⟩=(pc.none || Vz pc false true):=by unfold qaO;rw[List.all_eq_true.2 k1_1];rfl
   rw[e]
   repeat' with_reducible first
    |refine s_ ?_
    |simp -implicitDefEqProofs only[wZZ,seval,g1,g3,o0]
    |(first|apply qa|apply qh|apply qi)<;>intro h h_<;>(try simp only[wD,reduceCtorEq]at h_)<;>(try exact wb_)<;>(try simp only[h])
    |apply xk;exact wu_;exact wu_;(focus((try simp -implicitDefEqProofs only[wE,Nat.reduceAdd]);rfl))
    |refine t_ ?_
    |refine yw we_ we_ we_ (jQ wf_) ?_
    |refine cq1 kV we_ ?_
   all_goals refine qA rfl (Or.inr rfl) ?_
   all_goals(try simp -implicitDefEqProofs only[wL,seval,g1,g3])
   all_goals refine er_ ?_
   all_goals(try(with_reducible rfl))
   all_goals simp_all
def qfR:List UInt8→Bool
 |[]=>false
 |[_]=>false
 |a::b::r=>(decide (a=37) && decide (b=125)) || qfR (b::r)
def JM (r:Rule):Bool:=Vt r.left && !decide (r.alts=[]) && r.alts.all qaO
def z8 (x:Source):Bool:= !qfR x.pro && x.decls.all ZX && x.rules.all JM && !decide (x.rules=[])
def Decl.Fits (d:Decl):Prop:=d.tag.length≤1099511627776∧d.syms.length≤1099511627776∧ ∀x∈d.syms,x.name.length≤1099511627776
def Rule.Fits (r:Rule):Prop:=r.left.length≤1099511627776∧r.alts.length≤1099511627776∧ ∀a∈r.alts,a.Fits
def Source.Fits (x:Source):Prop:=x.pro.length≤1099511627776∧x.tail.length≤1099511627776∧x.decls.length≤1099511627776∧(∀d∈x.decls,d.Fits)∧x.rules.length≤1099511627776∧ ∀r∈x.rules,r.Fits
theorem YG {α:Type} {p:α→Bool} {l:List α} {k:Nat} (hk:k<l.length) (h: ∀x∈l.take k,p x=true) (hx:p l[k]=true): ∀x∈l.take (k+1),p x=true:=by
 rw[List.take_add_one,ge_ hk]
 intro x h2
 rcases List.mem_append.1 h2 with h2|h2
 · exact h x h2
 · obtain rfl:=List.mem_singleton.1 h2
   exact hx
theorem qai {α:Type} {p:α→Bool} {l:List α} {k:Nat} (hk:k<l.length) (hx:p l[k]=false):l.all p=false:=
 List.all_eq_false.2 ⟨l[k],List.getElem_mem hk,by rw[hx];exact Bool.false_ne_true⟩
theorem qcc (a b:UInt8) (r:List UInt8):qfR (a::b::r)=((decide (a=37) && decide (b=125)) || qfR (b::r)):=rfl
theorem Q6 {x:Source} (hf:x.Fits):Pure Try.prog 52 [x.V] (.bool (z8 x)):=by
 refine pure_intro Try.func52 nm_ qA3 (by show 1≤77;decide) ?_
 show ewp _ qga _ _
 obtain ⟨hp,ht,hdl,hd,hrl,hr⟩:=hf
 obtain ⟨pro,ds,rs,tl⟩:=x
 dsimp only at hp ht hdl hd hrl hr
 repeat' with_reducible first
  |refine s_ ?_
  |simp -implicitDefEqProofs only[wZZ,seval]
  |refine t_ ?_
 refine qg ?nx1 (fun(k:Nat) s=>s.f 1=?v1_1∧s.H 0=?o1_0∧s.f 3=vi k∧(k≤pro.length)∧(qfR (pro.drop k)=qfR pro)) (fun k=>pro.length - k) (0) wj_ (by refine⟨?_,?_,?_,wo_,wo_⟩<;>first|(simp -implicitDefEqProofs only[wL,wM,wN,wX,seval,Option.some.injEq]<;>exact wt_)|rfl|exact⟨_,rfl⟩) ?_
 intro k s hnx ⟨g1,o0,g3,k1_0,k1_1⟩
 by_cases hk:k+1<pro.length
 · have hz:=w1_ k
   have hz2:IntKind.i64.wrap ((k:Int)+2)=(k:Int)+2:=wrap64 o_ o_
   have e1:pro.drop k=pro[k]::pro[k+1]::pro.drop (k+2):=by rw[List.drop_eq_getElem_cons o_,List.drop_eq_getElem_cons hk]
   have e2:pro.drop (k+1)=pro[k+1]::pro.drop (k+2):=by rw[List.drop_eq_getElem_cons hk]
   have e3:(pro.take (k+2)).drop k=[pro[k],pro[k+1]]:=by
    rw[List.drop_take,e1,show k+2 - k=2 by omega];rfl
   have e4:((pro.take ((k:Int)+2).toNat).drop k)=[pro[k],pro[k+1]]:=by
    rw[show ((k:Int)+2).toNat=k+2 by omega,e3]
   rw[e1,qcc,← e2]at k1_1
   repeat' with_reducible first
    |refine s_ ?_
    |simp -implicitDefEqProofs only[wZZ,seval,g1,g3,o0,hz,hz2]
    |apply qa<;>intro h h_<;>(try simp only[wD,reduceCtorEq]at h_)<;>(try exact wb_)<;>(try simp only[h])
    |apply Y4;omega;omega;omega
    |refine t_ ?_
   · refine qA rfl (Or.inr rfl) ?_
     simp -implicitDefEqProofs only[wL,seval,g1,g3]
     refine er_ ?_
     try(with_reducible rfl)
     rw[e4]at h_
     simp at h_
     simp[h_.1,h_.2]at k1_1
     simp[z8,k1_1]
   · refine⟨wk_,k+1,o_,?_⟩
     refine⟨?_,?_,?_,?_,?_⟩
     iterate 3 (focus(first|(simp -implicitDefEqProofs only[wL,wM,wN,wX,seval,Option.some.injEq,g1,g3,o0]<;>exact wt_)|rfl|exact⟨_,rfl⟩))
     all_goals try omega
     rw[e4]at h_
     simp at h_
     rw[← k1_1]
     by_cases h37:pro[k]=37
     · simp[h_ h37]
     · simp[h37]
 · have hpc :qfR pro=false:=by
    rw[← k1_1]
    by_cases hk2:k<pro.length
    · rw[List.drop_eq_getElem_cons hk2,List.drop_eq_nil_of_le o_];rfl
    · rw[List.drop_eq_nil_of_le o_];rfl
   have hz:=w1_ k
   repeat' with_reducible first
    |refine s_ ?_
    |simp -implicitDefEqProofs only[wZZ,seval,g1,g3,o0,hz]
    |apply qa<;>intro h h_<;>(try simp only[wD,reduceCtorEq]at h_)<;>(try exact wb_)<;>(try simp only[h])
    |refine t_ ?_
   refine qg ?nx2 (fun(k:Nat) s=>s.f 1=?v2_1∧s.H 0=?o2_0∧s.f 4=vi k∧(k≤ds.length)∧(∀x∈ds.take k,ZX x=true)) (fun k=>ds.length - k) (0) wj_ (by refine⟨?_,?_,?_,wo_,wo_⟩<;>first|(simp -implicitDefEqProofs only[wL,wM,wN,wX,seval,Option.some.injEq,g1,g3,o0]<;>exact wt_)|rfl|exact⟨_,rfl⟩) ?_
   intro k s hnx ⟨g1,o0,g4,k2_0,k2_1⟩
   by_cases hk:k<ds.length
   · obtain ⟨hx1,hx2,hx3⟩:=hd ds[k] (List.getElem_mem hk)
     repeat' with_reducible first
      |refine s_ ?_
      |simp -implicitDefEqProofs only[wZZ,seval,g1,g4,o0]
      |apply qa<;>intro h h_<;>(try simp only[wD,reduceCtorEq]at h_)<;>(try exact wb_)<;>(try simp only[h])
      |refine t_ ?_
      |refine j5 we_ (Ze wf_ wf_ wf_) ?_
      |simp -implicitDefEqProofs (disch:=omega) only[w64,if_neg]
     · refine qA rfl (Or.inr rfl) ?_
       simp -implicitDefEqProofs only[wL,seval,g1,g4]
       refine er_ ?_
       try(with_reducible rfl)
       have:=qai hk (p:=ZX) (by simpa using h_)
       simp[z8,this]
     · refine⟨wk_,k+1,o_,?_⟩
       refine⟨?_,?_,?_,?_,?_⟩
       iterate 3 (focus(first|(simp -implicitDefEqProofs only[wL,wM,wN,wX,seval,Option.some.injEq,g1,g4,o0]<;>exact wt_)|rfl|exact⟨_,rfl⟩))
       all_goals try omega
       exact YG hk k2_1 (by simpa using h_)
   · rw [List.take_of_length_le o_]at k2_1
     repeat' with_reducible first
      |refine s_ ?_
      |simp -implicitDefEqProofs only[wZZ,seval,g1,g4,o0]
      |apply qa<;>intro h h_<;>(try simp only[wD,reduceCtorEq]at h_)<;>(try exact wb_)<;>(try simp only[h])
      |refine t_ ?_
     refine qg ?nx3 (fun(k:Nat) s=>s.f 1=?v3_1∧s.H 0=?o3_0∧s.f 5=vi k∧(k≤rs.length)∧(∀x∈rs.take k,JM x=true)) (fun k=>rs.length - k) (0) wj_ (by refine⟨?_,?_,?_,wo_,wo_⟩<;>first|(simp -implicitDefEqProofs only[wL,wM,wN,wX,seval,Option.some.injEq,g1,g4,o0]<;>exact wt_)|rfl|exact⟨_,rfl⟩) ?_
     intro k s hnx ⟨g1,o0,g5,k3_0,k3_1⟩
     by_cases hk:k<rs.length
     · obtain ⟨hx1,hx2,hx3⟩:=hr rs[k] (List.getElem_mem hk)
       obtain ⟨n0,hn0⟩: ∃n0,n0=s.next:=⟨_,rfl⟩
       have hbad:JM rs[k]=false→z8 ⟨pro,ds,rs,tl⟩=false:=fun h=>by
        simp[z8,qai hk h]
       repeat' with_reducible first
        |refine s_ ?_
        |simp -implicitDefEqProofs only[wZZ,seval,g1,g5,o0]
        |(first|apply qa|apply qh|apply qi)<;>intro h h_<;>(try simp only[wD,reduceCtorEq]at h_)<;>(try exact wb_)<;>(try simp only[h])
        |refine t_ ?_
        |refine j5 we_ (xS wf_) ?_
       · refine qA rfl (Or.inr rfl) ?_
         simp -implicitDefEqProofs only[wL,seval,g1,g5]
         refine er_ ?_
         try(with_reducible rfl)
         refine(hbad ?_).symm
         have:rs[k].alts=[]:=List.length_eq_zero_iff.1 o_
         simp[JM,this]
       · rw [← hn0]
         refine qg ?nx4 (fun(j:Nat) s=>s.f 1=?v4_1∧s.f 5=?v4_5∧s.f 6=?v4_6∧s.H 0=?o4_0∧s.H (n0+5+5)=?o4_1∧s.f 7=vi j∧(j≤rs[k].alts.length)∧(∀x∈rs[k].alts.take j,qaO x=true)) (fun j=>rs[k].alts.length - j) (0) wj_ (by refine⟨?_,?_,?_,?_,?_,?_,wo_,wo_⟩<;>first|(simp -implicitDefEqProofs only[wL,wM,wN,wX,seval,Option.some.injEq,g1,g5,o0]<;>exact wt_)|rfl|exact⟨_,rfl⟩) ?_
         intro j s hnx ⟨g1,g5,g6,o0,o1,g7,k4_0,k4_1⟩
         by_cases hj:j<rs[k].alts.length
         · have hx4:=hx3 rs[k].alts[j] (List.getElem_mem hj)
           repeat' with_reducible first
            |refine s_ ?_
            |simp -implicitDefEqProofs only[wZZ,seval,g1,g5,g6,g7,o0,o1]
            |apply qa<;>intro h h_<;>(try simp only[wD,reduceCtorEq]at h_)<;>(try exact wb_)<;>(try simp only[h])
            |refine t_ ?_
            |refine j5 we_ (Z4 wf_) ?_
            |simp -implicitDefEqProofs (disch:=omega) only[w64,if_neg]
           · refine qA rfl (Or.inr rfl) ?_
             simp -implicitDefEqProofs only[wL,seval,g1,g5,g6,g7]
             refine er_ ?_
             try(with_reducible rfl)
             refine(hbad ?_).symm
             have:=qai hj (p:=qaO) (by simpa using h_)
             simp[JM,this]
           · refine⟨wk_,j+1,o_,?_⟩
             refine⟨?_,?_,?_,?_,?_,?_,?_,?_⟩
             iterate 6 (focus(first|(simp -implicitDefEqProofs only[wL,wM,wN,wX,seval,Option.some.injEq,g1,g5,g6,g7,o0,o1]<;>exact wt_)|rfl|exact⟨_,rfl⟩))
             all_goals try omega
             exact YG hj k4_1 (by simpa using h_)
         · rw[List.take_of_length_le o_]at k4_1
           repeat' with_reducible first
            |refine s_ ?_
            |simp -implicitDefEqProofs only[wZZ,seval,g1,g5,g6,g7,o0,o1]
            |apply qa<;>intro h h_<;>(try simp only[wD,reduceCtorEq]at h_)<;>(try exact wb_)<;>(try simp only[h])
            |refine t_ ?_
            |simp -implicitDefEqProofs (disch:=omega) only[w64,if_neg]
           refine⟨wk_,k+1,o_,?_⟩
           refine⟨?_,?_,?_,?_,?_⟩
           iterate 3 (focus(first|(simp -implicitDefEqProofs only[wL,wM,wN,wX,seval,Option.some.injEq,g1,g5,g6,g7,o0,o1]<;>exact wt_)|rfl|exact⟨_,rfl⟩))
           all_goals try omega
           refine YG hk k3_1 ?_
           have e1:rs[k].alts.all qaO=true:=List.all_eq_true.2 k4_1
           have e0: ¬ (rs[k].alts.length:Int)=0:=by assumption
           have e2: ¬ rs[k].alts=[]:=fun e=>by rw[e]at e0;exact e0 rfl
           have e3:Vt rs[k].left=true:=by assumption
           simp[JM,e1,e2,e3]
       · skip
         refine qA rfl (Or.inr rfl) ?_
         simp -implicitDefEqProofs only[wL,seval,g1,g5]
         refine er_ ?_
         try(with_reducible rfl)
         refine(hbad ?_).symm
         have:Vt rs[k].left=false:=by simpa using h_
         simp[JM,this]
     · rw[List.take_of_length_le o_]at k3_1
       repeat' with_reducible first
        |refine s_ ?_
        |simp -implicitDefEqProofs only[wZZ,seval,g1,g5,o0]
        |apply qa<;>intro h h_<;>(try simp only[wD,reduceCtorEq]at h_)<;>(try exact wb_)<;>(try simp only[h])
        |refine t_ ?_
       refine qA rfl (Or.inr rfl) ?_
       simp -implicitDefEqProofs only[wL,seval,g1,g5]
       refine er_ ?_
       try(with_reducible rfl)
       have e1:ds.all ZX=true:=List.all_eq_true.2 k2_1
       have e2:rs.all JM=true:=List.all_eq_true.2 k3_1
       by_cases e3:rs=[]
       · subst e3;simp[z8]
       · have:0<rs.length:=List.length_pos_iff.2 e3
         simp[z8,hpc,e1,e2,e3]
         omega
end Go.Proofs
