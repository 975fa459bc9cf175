/- Part of a proof that a law of the given program answers true. -/
import Derived.Test.YtkcegflhobejmaaGreatDoorBCA
import Derived.Test.YtkcegflhobejmaaGreatDoorXEC
set_option maxRecDepth 20000
set_option linter.unusedSimpArgs false
set_option linter.unusedVariables false
namespace Go.Proofs
open Go.E
structure Sym where
 name:List UInt8:=[]
 lit:Bool:=false
 num:Int:=0
 at_:Int:=0
 deriving DecidableEq,Inhabited
structure Part where
 sym:Sym:={}
 code:List UInt8:=[]
 at_:Int:=0
 deriving DecidableEq,Inhabited
structure Alt where
 parts:List Part:=[]
 prec:Sym:={}
 at_:Int:=0
 deriving DecidableEq,Inhabited
structure Rule where
 left:List UInt8:=[]
 alts:List Alt:=[]
 at_:Int:=0
 deriving DecidableEq,Inhabited
structure Decl where
 kind:Int:=0
 tag:List UInt8:=[]
 syms:List Sym:=[]
 at_:Int:=0
 deriving DecidableEq,Inhabited
structure Source where
 pro:List UInt8:=[]
 decls:List Decl:=[]
 rules:List Rule:=[]
 tail:List UInt8:=[]
 deriving DecidableEq,Inhabited
@[reducible] def Sym.V (x:Sym):V:= .agg [.str x.name,.bool x.lit,vi x.num,vi x.at_]
@[reducible] def Part.V (x:Part):V:= .agg [.str x.sym.name,.bool x.sym.lit,vi x.sym.num,vi x.sym.at_,.str x.code,vi x.at_]
@[reducible] def Alt.V (x:Alt):V:= .agg [.sl 6 false (x.parts.map Part.V),.str x.prec.name,.bool x.prec.lit,vi x.prec.num,vi x.prec.at_,vi x.at_]
@[reducible] def Rule.V (x:Rule):V:= .agg [.str x.left,.sl 6 false (x.alts.map Alt.V),vi x.at_]
@[reducible] def Decl.V (x:Decl):V:= .agg [vi x.kind,.str x.tag,.sl 4 false (x.syms.map Sym.V),vi x.at_]
@[reducible] def Source.V (x:Source):V:= .agg [.str x.pro,.sl 4 false (x.decls.map Decl.V),.sl 3 false (x.rules.map Rule.V),.str x.tail]
theorem Vk {i n:Int} (hn:0<n) (h:n≤4611686018427387904):(if i.tmod n<0 then IntKind.i64.wrap (i.tmod n+n)else i.tmod n)=i % n:=by
 have h1:=Int.tmod_lt_of_pos i hn
 have h2: - n<i.tmod n:=by
  have:=Int.tmod_lt_of_pos (-i) hn
  rw[Int.neg_tmod]at this;omega
 have e:i.tmod n=i % n∨i.tmod n+n=i % n:=by
  rw[Int.tmod_eq_emod]
  have:=Int.emod_lt_of_pos i hn
  have:=Int.emod_nonneg i (show n≠0 by omega)
  split
  · left;omega
  · right;omega
 have h3:=Int.emod_nonneg i (show n≠0 by omega)
 have h4:=Int.emod_lt_of_pos i hn
 split
 · rw[wrap64 o_ o_];omega
 · omega
theorem qZ {i n:Int} (hn:0<n) (hm:n≤4611686018427387904):Pure Tryz.prog 24 [vi i,vi n] (vi (i % n)):=by
 refine pure_intro Tryz.func24 nm_ qxR (by show 2≤15;decide) ?_
 show ewp _ qgr _ _
 have e:=Vk (i:=i) hn hm
 by_cases h:i.tmod n<0
 · rw[if_pos h]at e
   have hne: ¬ (n=0):=o_
   repeat' with_reducible first
    |refine s_ ?_
    |simp -implicitDefEqProofs only[wZZ,seval,hne,e]
    |apply qa<;>intro h h_<;>(try simp only[wD,reduceCtorEq]at h_)<;>(try exact wb_)<;>(try simp only[h])
   refine qF rfl (Or.inr rfl) ?_
   simp -implicitDefEqProofs only[wL,seval]
   refine er_ ?_
   try(with_reducible rfl)
 · rw[if_neg h]at e
   have hne: ¬ (n=0):=o_
   repeat' with_reducible first
    |refine s_ ?_
    |simp -implicitDefEqProofs only[wZZ,seval,hne,e]
    |apply qa<;>intro h h_<;>(try simp only[wD,reduceCtorEq]at h_)<;>(try exact wb_)<;>(try simp only[h])
   refine qF rfl (Or.inr rfl) ?_
   simp -implicitDefEqProofs only[wL,seval]
   refine er_ ?_
   try(with_reducible rfl)

def Yw (c:UInt8):Bool:=(decide (97≤c.toNat) && decide (c.toNat≤122)) || (decide (65≤c.toNat) && decide (c.toNat≤90)) || decide (c.toNat=95)
def K7 (c:UInt8):Bool:=decide (48≤c.toNat) && decide (c.toNat≤57)
theorem Zu {c:UInt8}:Pure Tryz.prog 170 [.int .u8 c.toNat] (.bool (Yw c)):=by
 refine pure_intro Tryz.func170 nm_ qef (by show 1≤21;decide) ?_
 show ewp _ qf4 _ _
 repeat' with_reducible first
  |refine s_ ?_
  |simp -implicitDefEqProofs only[wZZ,seval]
  |(first|apply qJ|apply qK)<;>intro h h_<;>(try simp only[wD,reduceCtorEq]at h_)<;>(try exact wb_)<;>(try simp only[h])
 all_goals refine qF rfl (Or.inr rfl) ?_
 all_goals(try simp -implicitDefEqProofs only[wL,seval])
 all_goals refine er_ ?_
 all_goals(try(with_reducible rfl))
 all_goals(rw[Bool.eq_iff_iff];simp[Yw];omega)
theorem JH {c:UInt8}:Pure Tryz.prog 171 [.int .u8 c.toNat] (.bool (K7 c)):=by
 refine pure_intro Tryz.func171 nm_ qlR (by show 1≤9;decide) ?_
 show ewp _ qhH _ _
 repeat' with_reducible first
  |refine s_ ?_
  |simp -implicitDefEqProofs only[wZZ,seval]
  |(first|apply qJ|apply qK)<;>intro h h_<;>(try simp only[wD,reduceCtorEq]at h_)<;>(try exact wb_)<;>(try simp only[h])
 all_goals refine qF rfl (Or.inr rfl) ?_
 all_goals(try simp -implicitDefEqProofs only[wL,seval])
 all_goals refine er_ ?_
 all_goals(try(with_reducible rfl))
 all_goals(rw[Bool.eq_iff_iff];simp[K7];omega)
def Yg:List UInt8:=[112,113,114,115]
theorem QU:Pure Tryz.prog 82 [] (.str Yg):=by
 refine pure_intro Tryz.func82 nm_ qGs (by show 0≤1;decide) ?_
 show ewp _ quA _ _
 repeat' with_reducible first
  |refine s_ ?_
  |simp -implicitDefEqProofs only[wZZ,seval]
 refine qF rfl (Or.inr rfl) ?_
 simp -implicitDefEqProofs only[wL,seval]
 refine er_ ?_
 try(with_reducible rfl)
 rfl
def jX (s:List UInt8) (at_:Int) (w:List UInt8):Bool:=decide (at_+w.length≤s.length) && decide ((s.take (at_+w.length).toNat).drop at_.toNat=w)
theorem jv {s w:List UInt8} {at_:Int} (hs:s.length≤1099511627776) (hw:w.length≤1099511627776) (ha:0≤at_) (hb:at_≤1099511627776):Pure Tryz.prog 177 [.str s,vi at_,.str w] (.bool (jX s at_ w)):=by
 refine pure_intro Tryz.func177 nm_ qka (by show 3≤25;decide) ?_
 show ewp _ qhy _ _
 have h1:IntKind.i64.wrap ((s.length:Int) - at_)=(s.length:Int) - at_:=wrap64 o_ o_
 repeat' with_reducible first
  |refine s_ ?_
  |simp -implicitDefEqProofs only[wZZ,seval,h1]
  |(first|apply qJ|apply qK)<;>intro h h_<;>(try simp only[wD,reduceCtorEq]at h_)<;>(try exact wb_)<;>(try simp only[h])
  |apply YJ;omega;omega;omega
  |simp -implicitDefEqProofs (disch:=omega) only[w64,if_neg]
 all_goals refine qF rfl (Or.inr rfl) ?_
 all_goals(try simp -implicitDefEqProofs only[wL,seval])
 all_goals refine er_ ?_
 all_goals(try(with_reducible rfl))
 · unfold jX
   have e:decide (at_+(w.length:Int)≤(s.length:Int))=true:=by rw[decide_eq_true_eq];omega
   rw[e];rfl
 · unfold jX
   have e:decide (at_+(w.length:Int)≤(s.length:Int))=false:=by rw[decide_eq_false_iff_not];omega
   rw[e];rfl
def Kb (c:UInt8):Bool:=decide (c.toNat=10) || decide (c.toNat=9) || decide (c.toNat=13) || decide (c.toNat=92) || decide (c.toNat=39) || (decide (32≤c.toNat) && decide (c.toNat≤126))
def qfU (c:UInt8):UInt8:=if c.toNat=10 then 110 else if c.toNat=9 then 116 else if c.toNat=13 then 114 else if c.toNat=92 then c else if c.toNat=39 then c else 0
theorem ZI {c:UInt8}:Pure Tryz.prog 169 [.int .u8 c.toNat] (.tup [.int .u8 (qfU c).toNat,.bool (Kb c)]):=by
 refine pure_intro Tryz.func169 nm_ qcx (by show 1≤21;decide) ?_
 show ewp _ qcT _ _
 repeat' with_reducible first
  |refine s_ ?_
  |simp -implicitDefEqProofs only[wZZ,seval]
  |(first|apply qa|apply qJ|apply qK)<;>intro h h_<;>(try simp only[wD,reduceCtorEq]at h_)<;>(try exact wb_)<;>(try simp only[h])
 all_goals refine qi7 rfl (Or.inr rfl) ?_
 all_goals(try simp -implicitDefEqProofs only[wL,seval])
 all_goals(refine qm7 ?_ ?_<;>refine er_ ?_<;>(try(with_reducible rfl)))
 all_goals first
  |(unfold qfU;(repeat' split)<;>first|(exfalso;omega)|rfl)
  |(rw[Bool.eq_iff_iff];simp[Kb];omega)
@[reducible] def VR (k:Int):List UInt8:=[UInt8.ofNat (97+k).toNat]
theorem yL {k:Int} (h0:0≤k) (h1:k<100):Pure Tryz.prog 47 [vi k] (.str (VR k)):=by
 refine pure_intro Tryz.func47 nm_ qHt (by show 1≤8;decide) ?_
 show ewp _ qy4 _ _
 have hw:IntKind.u8.wrap (97+k)=97+k:=by unfold IntKind.wrap;simp[IntKind.bits,IntKind.signed];omega
 repeat' with_reducible first
  |refine s_ ?_
  |simp -implicitDefEqProofs only[wZZ,seval,hw]
  |apply qEW;omega;omega
  |simp -implicitDefEqProofs (disch:=omega) only[w64,if_neg]
 refine qF rfl (Or.inr rfl) ?_
 simp -implicitDefEqProofs only[wL,seval]
 refine er_ ?_
 try(with_reducible rfl)
@[reducible] def vz (k:Int):Sym:={name:=(Yg.take (k % 4+1).toNat).drop (k % 4).toNat,lit:=true}
theorem jH {k:Int} (h0:0≤k) (h1:k<100):Pure Tryz.prog 49 [vi k] ((vz k).V):=by
 refine pure_intro Tryz.func49 nm_ qEf (by show 1≤11;decide) ?_
 show ewp _ qFK _ _
 have e:k.tmod 4=k % 4:=Int.tmod_eq_emod_of_nonneg h0
 have e1:=Int.emod_lt_of_pos k (show (0:Int)<4 by omega)
 have e2:=Int.emod_nonneg k (show (4:Int)≠0 by omega)
 have e3:Yg.length=4:=rfl
 repeat' with_reducible first
  |refine s_ ?_
  |simp -implicitDefEqProofs only[wZZ,seval,e]
  |refine t_ ?_
  |apply YJ;omega;omega;omega
  |refine cq0 QU ?_
  |simp -implicitDefEqProofs (disch:=omega) only[w64,if_neg]
 apply qdk (t:=2) rfl (Or.inr rfl);(focus(first|rfl|((try simp -implicitDefEqProofs only[wL,wM,wN,seval]);rfl)));(focus(first|rfl|((try simp -implicitDefEqProofs only[wL,wM,wN,seval]);rfl)));(exact wu_);(try exact qj)
def X3 (x nons:Int):Sym:=if x % 14<5 then {name:=VR (x % 14 % nons)} else if x % 14=13 then {name:=[101,114,114,111,114]} else vz (x % 14 - 5)
theorem YC {x nons:Int} (h0:0<nons) (h1:nons<50):Pure Tryz.prog 48 [vi x,vi nons] ((X3 x nons).V):=by
 refine pure_intro Tryz.func48 nm_ qzY (by show 2≤23;decide) ?_
 show ewp _ qg8 _ _
 have e1:=Int.emod_lt_of_pos x (show (0:Int)<14 by omega)
 have e2:=Int.emod_nonneg x (show (14:Int)≠0 by omega)
 have e3:=Int.emod_lt_of_pos (x % 14) h0
 have e4:=Int.emod_nonneg (x % 14) (show nons≠0 by omega)
 have e5:(x % 14).tmod nons=x % 14 % nons:=Int.tmod_eq_emod_of_nonneg e2
 have hne: ¬ nons=0:=o_
 by_cases h:x % 14<5
 · have es:X3 x nons={name:=VR (x % 14 % nons)}:=by unfold X3;rw[if_pos h]
   rw[es]
   repeat' with_reducible first
    |refine s_ ?_
    |simp -implicitDefEqProofs only[wZZ,seval,e5,hne]
    |apply qa<;>intro h h_<;>(try simp only[wD,reduceCtorEq]at h_)<;>(try exact wb_)<;>(try simp only[h])
    |refine t_ ?_
    |refine qA we_ we_ (qZ wf_ wf_) ?_
    |refine zf we_ (yL wf_ wf_) ?_
   apply qdk (t:=4) rfl (Or.inr rfl);(focus(first|rfl|((try simp -implicitDefEqProofs only[wL,wM,wN,seval]);rfl)));(focus(first|rfl|((try simp -implicitDefEqProofs only[wL,wM,wN,seval]);rfl)));(exact wu_);(try exact qj)
 · by_cases h13:x % 14=13
   · have es:X3 x nons={name:=[101,114,114,111,114]}:=by unfold X3;rw[if_neg h,if_pos h13]
     rw[es]
     repeat' with_reducible first
      |refine s_ ?_
      |simp -implicitDefEqProofs only[wZZ,seval,e5,hne]
      |apply qa<;>intro h h_<;>(try simp only[wD,reduceCtorEq]at h_)<;>(try exact wb_)<;>(try simp only[h])
      |refine t_ ?_
      |refine qA we_ we_ (qZ wf_ wf_) ?_
     apply qdk (t:=4) rfl (Or.inr rfl);(focus(first|rfl|((try simp -implicitDefEqProofs only[wL,wM,wN,seval]);rfl)));(focus(first|rfl|((try simp -implicitDefEqProofs only[wL,wM,wN,seval]);rfl)));(exact wu_);(try exact qj)
   · have es:X3 x nons=vz (x % 14 - 5):=by unfold X3;rw[if_neg h,if_neg h13]
     rw[es]
     repeat' with_reducible first
      |refine s_ ?_
      |simp -implicitDefEqProofs only[wZZ,seval,e5,hne]
      |apply qa<;>intro h h_<;>(try simp only[wD,reduceCtorEq]at h_)<;>(try exact wb_)<;>(try simp only[h])
      |refine t_ ?_
      |refine qA we_ we_ (qZ wf_ wf_) ?_
      |refine zf we_ (jH wf_ wf_) ?_
      |simp -implicitDefEqProofs (disch:=omega) only[w64,if_neg]
     apply qdk (t:=4) rfl (Or.inr rfl);(focus(first|rfl|((try simp -implicitDefEqProofs only[wL,wM,wN,seval]);rfl)));(focus(first|rfl|((try simp -implicitDefEqProofs only[wL,wM,wN,seval]);rfl)));(exact wu_);(try exact qj)

def Zl:List UInt8→Bool→Nat
 |[],_=>0
 |c::r,more=>if Yw c || (more && (K7 c || decide (c.toNat=46)))then Zl r true+1 else 0
theorem KC (c:UInt8) (r:List UInt8) (more:Bool):Zl (c::r) more=if Yw c || (more && (K7 c || decide (c.toNat=46)))then Zl r true+1 else 0:=rfl
theorem ZL {tx:List UInt8} (hs:tx.length≤1099511627776):Pure Tryz.prog 150 [.str tx,vi 0] (vi (Zl tx false)):=by
 refine pure_intro Tryz.func150 nm_ qcF (by show 2≤43;decide) ?_
 show ewp _ qeb _ _
 repeat' with_reducible first
  |refine s_ ?_
  |simp -implicitDefEqProofs only[wZZ,seval]
 refine qi ?nx1 (fun(n:Nat) s=>s.f 0=?v1_0∧s.f 1=?v1_1∧s.f 5=vi n∧(n≤tx.length)∧(Zl tx false=n+Zl (tx.drop n) (decide (0<n)))) (fun n=>tx.length - n) (0) wj_ (by refine⟨?_,?_,?_,wo_,wo_⟩<;>first|(simp -implicitDefEqProofs only[wL,wM,wN,wX,seval,Option.some.injEq]<;>exact wt_)|rfl|exact⟨_,rfl⟩) ?_
 intro n s hnx ⟨g0,g1,g5,k1_0,k1_1⟩
 have hz:IntKind.i64.wrap (0+(n:Int))=n:=by rw[Int.zero_add];exact wrap64 o_ o_
 by_cases hn:n<tx.length
 · have hd:tx.drop n=tx[n]::tx.drop (n+1):=List.drop_eq_getElem_cons hn
   rw[hd,KC]at k1_1
   have h0:decide (0<n+1)=true:=by simp
   repeat' with_reducible first
    |refine s_ ?_
    |simp -implicitDefEqProofs only[wZZ,seval,g0,g1,g5,hz]
    |(first|apply qa|apply qJ|apply qK)<;>intro h h_<;>(try simp only[wD,reduceCtorEq]at h_)<;>(try exact wb_)<;>(try simp only[h])
    |refine t_ ?_
    |refine cq1 Zu we_ ?_
    |refine cq1 JH we_ ?_
    |simp -implicitDefEqProofs (disch:=omega) only[w64,if_neg]
   · refine⟨wk_,n+1,o_,?_⟩
     refine⟨?_,?_,?_,?_,?_⟩
     iterate 3 (focus(first|(simp -implicitDefEqProofs only[wL,wM,wN,wX,seval,Option.some.injEq,g0,g1,g5]<;>exact wt_)|rfl|exact⟨_,rfl⟩))
     all_goals try omega
     rw[k1_1,h0,if_pos (by rw[Bool.or_eq_true,Bool.and_eq_true,Bool.or_eq_true,decide_eq_true_eq,decide_eq_true_eq];first|exact Or.inl (by assumption)|exact Or.inr ⟨o_,Or.inl (by assumption)⟩|exact Or.inr ⟨o_,Or.inr o_⟩)];omega
   · refine qF rfl (Or.inr rfl) ?_
     simp -implicitDefEqProofs only[wL,seval,g0,g1,g5]
     refine er_ ?_
     try(with_reducible rfl)
     rw[k1_1,if_neg (by rw[Bool.or_eq_true,Bool.and_eq_true,Bool.or_eq_true,decide_eq_true_eq,decide_eq_true_eq];rintro (h|⟨h,h|h⟩)<;>first|omega|simp_all)];rfl
   · refine⟨wk_,n+1,o_,?_⟩
     refine⟨?_,?_,?_,?_,?_⟩
     iterate 3 (focus(first|(simp -implicitDefEqProofs only[wL,wM,wN,wX,seval,Option.some.injEq,g0,g1,g5]<;>exact wt_)|rfl|exact⟨_,rfl⟩))
     all_goals try omega
     rw[k1_1,h0,if_pos (by rw[Bool.or_eq_true,Bool.and_eq_true,Bool.or_eq_true,decide_eq_true_eq,decide_eq_true_eq];first|exact Or.inl (by assumption)|exact Or.inr ⟨o_,Or.inl (by assumption)⟩|exact Or.inr ⟨o_,Or.inr o_⟩)];omega
   · refine qF rfl (Or.inr rfl) ?_
     simp -implicitDefEqProofs only[wL,seval,g0,g1,g5]
     refine er_ ?_
     try(with_reducible rfl)
     rw[k1_1,if_neg (by rw[Bool.or_eq_true,Bool.and_eq_true,Bool.or_eq_true,decide_eq_true_eq,decide_eq_true_eq];rintro (h|⟨h,h|h⟩)<;>first|omega|simp_all)];rfl
   · refine⟨wk_,n+1,o_,?_⟩
     refine⟨?_,?_,?_,?_,?_⟩
     iterate 3 (focus(first|(simp -implicitDefEqProofs only[wL,wM,wN,wX,seval,Option.some.injEq,g0,g1,g5]<;>exact wt_)|rfl|exact⟨_,rfl⟩))
     all_goals try omega
     rw[k1_1,h0,if_pos (by rw[Bool.or_eq_true,Bool.and_eq_true,Bool.or_eq_true,decide_eq_true_eq,decide_eq_true_eq];first|exact Or.inl (by assumption)|exact Or.inr ⟨o_,Or.inl (by assumption)⟩|exact Or.inr ⟨o_,Or.inr o_⟩)];omega
 · repeat' with_reducible first
    |refine s_ ?_
    |simp -implicitDefEqProofs only[wZZ,seval,g0,g1,g5,hz]
    |(first|apply qJ|apply qK)<;>intro h h_<;>(try simp only[wD,reduceCtorEq]at h_)<;>(try exact wb_)<;>(try simp only[h])
   refine qF rfl (Or.inr rfl) ?_
   simp -implicitDefEqProofs only[wL,seval,g0,g1,g5]
   refine er_ ?_
   try(with_reducible rfl)
   rw[List.drop_eq_nil_of_le o_]at k1_1
   rw[k1_1];simp[Zl]
def KV (tx:List UInt8):Bool:=decide (1≤tx.length) && decide (tx.length≤20) && decide (Zl tx false=tx.length)
theorem xU {tx:List UInt8} (hs:tx.length≤1099511627776):Pure Tryz.prog 127 [.str tx] (.bool (KV tx)):=by
 refine pure_intro Tryz.func127 nm_ qer (by show 1≤18;decide) ?_
 show ewp _ qgR _ _
 repeat' with_reducible first
  |refine s_ ?_
  |simp -implicitDefEqProofs only[wZZ,seval]
  |(first|apply qJ|apply qK)<;>intro h h_<;>(try simp only[wD,reduceCtorEq]at h_)<;>(try exact wb_)<;>(try simp only[h])
  |refine qA we_ we_ (ZL wf_) ?_
 all_goals refine qF rfl (Or.inr rfl) ?_
 all_goals(try simp -implicitDefEqProofs only[wL,seval])
 all_goals refine er_ ?_
 all_goals(try(with_reducible rfl))
 all_goals(rw[Bool.eq_iff_iff];simp[KV];omega)
@[reducible] def Sym.none (x:Sym):Bool:=decide (x.name=[]) && !x.lit && decide (x.num=0)
theorem Qc {x:Sym}:Pure Tryz.prog 151 [x.V] (.bool x.none):=by
 refine pure_intro Tryz.func151 nm_ qbU (by show 1≤16;decide) ?_
 show ewp _ qgg _ _
 obtain ⟨nm,lt,nu,at_⟩:=x
 repeat' with_reducible first
  |refine s_ ?_
  |simp -implicitDefEqProofs only[wZZ,seval]
  |(first|apply qJ|apply qK)<;>intro h h_<;>(try simp only[wD,reduceCtorEq]at h_)<;>(try exact wb_)<;>(try simp only[h])
  |refine t_ ?_
 all_goals refine qF rfl (Or.inr rfl) ?_
 all_goals(try simp -implicitDefEqProofs only[wL,seval])
 all_goals refine er_ ?_
 all_goals(try(with_reducible rfl))
 all_goals(simp_all [Sym.none])

def qaU (x:Sym) (num lit:Bool):Bool:=if x.lit then lit && decide (x.name.length=1) && Kb (x.name.headD 0) && decide (x.num=0)else KV x.name && (decide (x.num=0) || (num && decide (1≤x.num) && decide (x.num≤50000)))
theorem j3 {x:Sym} {num lit:Bool} (hs:x.name.length≤1099511627776):Pure Tryz.prog 149 [x.V,.bool num,.bool lit] (.bool (qaU x num lit)):=by
 refine pure_intro Tryz.func149 nm_ qcq (by show 3≤53;decide) ?_
 show ewp _ qcS _ _
 obtain ⟨nm,lt,nu,at_⟩:=x
 repeat' with_reducible first
  |refine s_ ?_
  |simp -implicitDefEqProofs only[wZZ,seval]
  |(first|apply qa|apply qJ|apply qK)<;>intro h h_<;>(try simp only[wD,reduceCtorEq]at h_)<;>(try exact wb_)<;>(try simp only[h])
  |refine t_ ?_
  |refine cq1 ZI we_ ?_
  |refine zf we_ (xU wf_) ?_
 all_goals refine qF rfl (Or.inr rfl) ?_
 all_goals(try simp -implicitDefEqProofs only[wL,seval])
 all_goals refine er_ ?_
 all_goals(try(with_reducible rfl))
 all_goals first
  |(simp_all [qaU];done)
  |(simp_all [qaU];omega)
  | (obtain ⟨c,hc⟩: ∃c,nm=[c]:=List.length_eq_one_iff.1 o_
     subst hc
     simp_all [qaU])

def Sym.Fits (x:Sym):Prop:=x.name.length≤1099511627776
def qBh (d:Decl):Bool:=decide (d.kind<1) || decide (6<d.kind) || decide ((d.syms.length:Int)=0) || (decide (d.kind=6) && (!decide ((d.syms.length:Int)=1) || !decide (d.tag=[]))) || (decide (d.kind=5) && decide (d.tag=[])) || (!decide (d.tag=[]) && !KV d.tag)
def YL (d:Decl):Bool:= !qBh d && d.syms.all fun x=>qaU x (decide (d.kind=1)) (decide (d.kind<5))
theorem QV {d:Decl} (ht:d.tag.length≤1099511627776) (hl:d.syms.length≤1099511627776) (hs: ∀x∈d.syms,x.name.length≤1099511627776):Pure Tryz.prog 126 [d.V] (.bool (YL d)):=by
 refine pure_intro Tryz.func126 nm_ qs2 (by show 1≤75;decide) ?_
 show ewp _ qcA _ _
 obtain ⟨kd,tg,sy,at_⟩:=d
 dsimp only at ht hl hs
 refine yK (fun s=>s.f 1=.ptr 0 0 0∧s.H 0=some (.own 4 [Decl.V ⟨kd,tg,sy,at_⟩] false)∧1≤s.next) ?_ ?_
 · repeat' with_reducible first
    |refine s_ ?_
    |simp -implicitDefEqProofs only[wZZ,seval]
    |refine t_ ?_
   all_goals(refine⟨?_,?_,?_⟩)
   all_goals((try simp -implicitDefEqProofs only[wL,wM,wN,seval]);try(first|rfl|omega))
 intro s ⟨g1,o0,hnx⟩
 refine qc9 ?_
 refine yK (fun s=>s.f 1=.ptr 0 0 0∧s.f 54=.bool (qBh ⟨kd,tg,sy,at_⟩)∧s.H 0=some (.own 4 [Decl.V ⟨kd,tg,sy,at_⟩] false)∧1≤s.next) ?_ ?_
 · repeat' with_reducible first
    |refine s_ ?_
    |simp -implicitDefEqProofs only[wZZ,seval,g1,o0]
    |(first|apply qJ|apply qK)<;>intro h h_<;>(try simp only[wD,reduceCtorEq]at h_)<;>(try exact wb_)<;>(try simp only[h])
    |refine t_ ?_
    |refine zf we_ (xU wf_) ?_
   all_goals(refine⟨?_,?_,?_,?_⟩)
   all_goals((try simp -implicitDefEqProofs only[wL,wM,wN,seval,g1,o0]);try(first|rfl|omega))
   all_goals(refine congrArg V.bool ?_;simp only[qBh, *];rfl)
 intro s ⟨g1,g54,o0,hnx⟩
 by_cases hb:qBh ⟨kd,tg,sy,at_⟩=true
 · have e:YL ⟨kd,tg,sy,at_⟩=false:=by unfold YL;rw[hb];rfl
   rw[e]
   repeat' with_reducible first
    |refine s_ ?_
    |simp -implicitDefEqProofs only[wZZ,seval,g1,g54,o0,hb]
   refine qF rfl (Or.inr rfl) ?_
   simp -implicitDefEqProofs only[wL,seval,g1,g54]
   refine er_ ?_
   try(with_reducible rfl)
 · have hb2:qBh ⟨kd,tg,sy,at_⟩=false:=by simpa using hb
   have e:YL ⟨kd,tg,sy,at_⟩=sy.all fun x=>qaU x (decide (kd=1)) (decide (kd<5)):=by unfold YL;rw[hb2];rfl
   rw[e]
   repeat' with_reducible first
    |refine s_ ?_
    |simp -implicitDefEqProofs only[wZZ,seval,g1,g54,o0,hb2]
   refine qi ?nx1 (fun(k:Nat) s=>s.f 1=?v1_1∧s.H 0=?o1_0∧s.f 3=vi k∧(k≤sy.length)∧(∀x∈sy.take k,qaU x (decide (kd=1)) (decide (kd<5))=true)) (fun k=>sy.length - k) (0) wj_ (by refine⟨?_,?_,?_,wo_,wo_⟩<;>first|(simp -implicitDefEqProofs only[wL,wM,wN,wX,seval,Option.some.injEq,g1,g54,o0]<;>exact wt_)|rfl|exact⟨_,rfl⟩) ?_
   intro k s hnx ⟨g1,o0,g3,k1_0,k1_1⟩
   by_cases hk:k<sy.length
   · have hx:=hs sy[k] (List.getElem_mem hk)
     have ht2:sy.take (k+1)=sy.take k++[sy[k]]:=by rw[List.take_add_one,ge_ hk];rfl
     repeat' with_reducible first
      |refine s_ ?_
      |simp -implicitDefEqProofs only[wZZ,seval,g1,g3,o0]
      |apply qa<;>intro h h_<;>(try simp only[wD,reduceCtorEq]at h_)<;>(try exact wb_)<;>(try simp only[h])
      |refine t_ ?_
      |refine zu we_ we_ we_ (j3 wf_) ?_
      |simp -implicitDefEqProofs (disch:=omega) only[w64,if_neg]
     · refine qF rfl (Or.inr rfl) ?_
       simp -implicitDefEqProofs only[wL,seval,g1,g3]
       refine er_ ?_
       try(with_reducible rfl)
       refine(List.all_eq_false.2 ⟨sy[k],List.getElem_mem hk,?_⟩).symm
       rw[h_];exact Bool.false_ne_true
     · refine⟨wk_,k+1,o_,?_⟩
       refine⟨?_,?_,?_,?_,?_⟩
       iterate 3 (focus(first|(simp -implicitDefEqProofs only[wL,wM,wN,wX,seval,Option.some.injEq,g1,g3,o0]<;>exact wt_)|rfl|exact⟨_,rfl⟩))
       all_goals try omega
       rw[ht2]
       intro x hx2
       rcases List.mem_append.1 hx2 with hx2|hx2
       · exact k1_1 x hx2
       · obtain rfl:=List.mem_singleton.1 hx2
         exact h_
   · repeat' with_reducible first
      |refine s_ ?_
      |simp -implicitDefEqProofs only[wZZ,seval,g1,g3,o0]
      |apply qa<;>intro h h_<;>(try simp only[wD,reduceCtorEq]at h_)<;>(try exact wb_)<;>(try simp only[h])
      |refine t_ ?_
     refine qF rfl (Or.inr rfl) ?_
     simp -implicitDefEqProofs only[wL,seval,g1,g3]
     refine er_ ?_
     try(with_reducible rfl)
     rw[List.take_of_length_le o_]at k1_1
     exact(List.all_eq_true.2 k1_1).symm

def JQ (q:UInt8):List UInt8→Int→Int
 |[],_=> -1
 |[c],i=>if c.toNat=10 then -1 else if c.toNat=q.toNat then i+1 else -1
 |c::d::r,i=>if c.toNat=10 then -1 else if c.toNat=q.toNat then i+1 else if c.toNat=92 then(if d.toNat=10 then -1 else JQ q r (i+2))else JQ q (d::r) (i+1)
theorem qbA (q c:UInt8) (r:List UInt8) (i:Int):JQ q (c::r) i=if c.toNat=10 then -1 else if c.toNat=q.toNat then i+1 else if c.toNat=92 then(if (r.headD 10).toNat=10 then -1 else JQ q r.tail (i+2))else JQ q r (i+1):=by
 cases r with
 |nil=>simp[JQ]
 |cons d r=>simp[JQ]
def XF:List UInt8→Int→Int
 |[],_=> -1
 |c::r,i=>if c.toNat=96 then i+1 else XF r (i+1)
def XR:List UInt8→Int→Int
 |[],i=>i
 |c::r,i=>if c.toNat=10 then i else XR r (i+1)
def Xd (tx:List UInt8):Nat→Int→Int
 |0,_=> -1
 |n+1,i=>if jX tx i [42,47]then i+2 else Xd tx n (i+1)
def YK (tx:List UInt8) (at_:Nat):Int:=
 let c:=tx.getD at_ 0
 if c.toNat=34∨c.toNat=39 then JQ c (tx.drop (at_+1)) (at_+1)else if c.toNat=96 then XF (tx.drop (at_+1)) (at_+1)
 else if jX tx at_ [47,47]then XR (tx.drop at_) at_ else if jX tx at_ [47,42]then Xd tx (tx.length - (at_+2)) (at_+2)else at_
theorem jq {tx:List UInt8} {at_:Nat} (hs:tx.length≤1099511627776) (ha:at_<tx.length):Pure Tryz.prog 172 [.str tx,vi at_] (vi (YK tx at_)):=by
 refine pure_intro Tryz.func172 nm_ ql4 (by show 2≤114;decide) ?_
 show ewp _ qdO _ _
 have hg:tx.getD at_ 0=tx[at_]:=by simp[List.getD,ha]
 have he:YK tx at_=if tx[at_].toNat=34∨tx[at_].toNat=39 then JQ tx[at_] (tx.drop (at_+1)) (at_+1)else if tx[at_].toNat=96 then XF (tx.drop (at_+1)) (at_+1)
  else if jX tx at_ [47,47]then XR (tx.drop at_) at_ else if jX tx at_ [47,42]then Xd tx (tx.length - (at_+2)) (at_+2)else at_:=by unfold YK;rw[hg]
 refine yK (fun s=>s.f 0=.str tx∧s.f 1=vi at_∧0≤s.next) ?_ ?_
 · repeat' with_reducible first
    |refine s_ ?_
    |simp -implicitDefEqProofs only[wZZ,seval]
   all_goals(refine⟨?_,?_,?_⟩)
   all_goals((try simp -implicitDefEqProofs only[wL,wM,wN,seval]);try(first|rfl|omega))
 intro s ⟨g0,g1,hnx⟩
 refine yR ?_
 refine jR ?_
 refine yK (fun s=>s.f 0=.str tx∧s.f 1=vi at_∧s.f 9=.bool (decide (tx[at_].toNat=34) || decide (tx[at_].toNat=39))∧0≤s.next) ?_ ?_
 · repeat' with_reducible first
    |refine s_ ?_
    |simp -implicitDefEqProofs only[wZZ,seval,g0,g1]
    |(first|apply qJ|apply qK)<;>intro h h_<;>(try simp only[wD,reduceCtorEq]at h_)<;>(try exact wb_)<;>(try simp only[h])
    |refine t_ ?_
   all_goals(refine⟨?_,?_,?_,?_⟩)
   all_goals((try simp -implicitDefEqProofs only[wL,wM,wN,seval,g0,g1]);try(first|rfl|omega))
   all_goals(refine congrArg V.bool ?_;rw[Bool.eq_iff_iff];simp;omega)
 intro s ⟨g0,g1,g9,hnx⟩
 by_cases h1:tx[at_].toNat=34∨tx[at_].toNat=39
 · rw [if_pos h1]at he
   rw[he]
   generalize hR:JQ tx[at_] (tx.drop (at_+1)) ((at_:Int)+1)=R
   have hb:(decide (tx[at_].toNat=34) || decide (tx[at_].toNat=39))=true:=by simpa using h1
   repeat' with_reducible first
    |refine s_ ?_
    |simp -implicitDefEqProofs only[wZZ,seval,g0,g1,g9,hb]
    |simp -implicitDefEqProofs (disch:=omega) only[w64,if_neg]
   refine qi ?nx1 (fun(k:Nat) s=>s.f 0=?v1_0∧s.f 1=?v1_1∧s.f 5=vi k∧(k≤tx.length+1)∧(JQ tx[at_] (tx.drop k) k=R)) (fun k=>tx.length+1 - k) (at_+1) wj_ (by refine⟨?_,?_,?_,wo_,(by rw[← hR];rfl)⟩<;>first|(simp -implicitDefEqProofs only[wL,wM,wN,wX,seval,Option.some.injEq,g0,g1,g9]<;>exact wt_)|rfl|exact⟨_,rfl⟩) ?_
   intro k s hnx ⟨g0,g1,g5,k1_0,k1_1⟩
   by_cases hk:k<tx.length
   · have hd:tx.drop k=tx[k]::tx.drop (k+1):=List.drop_eq_getElem_cons hk
     have hz:=w1_ k
     rw[hd,qbA]at k1_1
     repeat' with_reducible first
      |refine s_ ?_
      |simp -implicitDefEqProofs only[wZZ,seval,g0,g1,g5,hz]
      |(first|apply qa|apply qJ|apply qK)<;>intro h h_<;>(try simp only[wD,reduceCtorEq]at h_)<;>(try exact wb_)<;>(try simp only[h])
      |refine t_ ?_
      |simp -implicitDefEqProofs (disch:=omega) only[w64,if_neg]
     · refine qF rfl (Or.inr rfl) ?_
       simp -implicitDefEqProofs only[wL,seval,g0,g1,g5]
       refine er_ ?_
       try(with_reducible rfl)
       rw[← k1_1,if_neg o_,if_pos o_];rfl
     · refine qF rfl (Or.inr rfl) ?_
       simp -implicitDefEqProofs only[wL,seval,g0,g1,g5]
       refine er_ ?_
       try(with_reducible rfl)
       rw[← k1_1,if_neg o_,if_neg o_,if_pos o_,List.drop_eq_getElem_cons (show k+1<tx.length by omega),List.headD_cons,if_pos o_]
     · refine⟨wk_,k+2,o_,?_⟩
       refine⟨?_,?_,?_,?_,?_⟩
       iterate 3 (focus(first|(simp -implicitDefEqProofs only[wL,wM,wN,wX,seval,Option.some.injEq,g0,g1,g5]<;>exact wt_)|rfl|exact⟨_,rfl⟩))
       all_goals try omega
       rw[← k1_1,if_neg o_,if_neg o_,if_pos o_,List.drop_eq_getElem_cons (show k+1<tx.length by omega),List.headD_cons,if_neg o_];rfl
     · refine⟨wk_,k+2,o_,?_⟩
       refine⟨?_,?_,?_,?_,?_⟩
       iterate 3 (focus(first|(simp -implicitDefEqProofs only[wL,wM,wN,wX,seval,Option.some.injEq,g0,g1,g5]<;>exact wt_)|rfl|exact⟨_,rfl⟩))
       all_goals try omega
       rw[← k1_1,if_neg o_,if_neg o_,if_pos o_,List.drop_eq_nil_of_le (show tx.length≤k+1 by omega),List.drop_eq_nil_of_le (show tx.length≤k+2 by omega)];rfl
     · refine⟨wk_,k+1,o_,?_⟩
       refine⟨?_,?_,?_,?_,?_⟩
       iterate 3 (focus(first|(simp -implicitDefEqProofs only[wL,wM,wN,wX,seval,Option.some.injEq,g0,g1,g5]<;>exact wt_)|rfl|exact⟨_,rfl⟩))
       all_goals try omega
       rw[← k1_1,if_neg o_,if_neg o_,if_neg o_];rfl
     · refine qF rfl (Or.inr rfl) ?_
       simp -implicitDefEqProofs only[wL,seval,g0,g1,g5]
       refine er_ ?_
       try(with_reducible rfl)
       rw[← k1_1,if_pos o_]
   · rw[List.drop_eq_nil_of_le o_]at k1_1
     repeat' with_reducible first
      |refine s_ ?_
      |simp -implicitDefEqProofs only[wZZ,seval,g0,g1,g5]
      |(first|apply qJ|apply qK)<;>intro h h_<;>(try simp only[wD,reduceCtorEq]at h_)<;>(try exact wb_)<;>(try simp only[h])
     refine qF rfl (Or.inr rfl) ?_
     simp -implicitDefEqProofs only[wL,seval,g0,g1,g5]
     refine er_ ?_
     try(with_reducible rfl)
     rw[← k1_1];rfl
 · skip
   rw[if_neg h1]at he
   have hb:(decide (tx[at_].toNat=34) || decide (tx[at_].toNat=39))=false:=by simpa using h1
   by_cases h2:tx[at_].toNat=96
   · rw [if_pos h2]at he
     rw[he]
     generalize hR:XF (tx.drop (at_+1)) ((at_:Int)+1)=R
     repeat' with_reducible first
      |refine s_ ?_
      |simp -implicitDefEqProofs only[wZZ,seval,g0,g1,g9,hb]
      |apply qa<;>intro h h_<;>(try simp only[wD,reduceCtorEq]at h_)<;>(try exact wb_)<;>(try simp only[h])
      |refine t_ ?_
      |simp -implicitDefEqProofs (disch:=omega) only[w64,if_neg]
     refine qi ?nx2 (fun(k:Nat) s=>s.f 0=?v2_0∧s.f 6=vi k∧(k≤tx.length)∧(XF (tx.drop k) k=R)) (fun k=>tx.length - k) (at_+1) wj_ (by refine⟨?_,?_,wo_,(by rw[← hR];rfl)⟩<;>first|(simp -implicitDefEqProofs only[wL,wM,wN,wX,seval,Option.some.injEq,g0,g1,g9]<;>exact wt_)|rfl|exact⟨_,rfl⟩) ?_
     intro k s hnx ⟨g0,g6,k2_0,k2_1⟩
     by_cases hk:k<tx.length
     · rw[List.drop_eq_getElem_cons hk,XF]at k2_1
       repeat' with_reducible first
        |refine s_ ?_
        |simp -implicitDefEqProofs only[wZZ,seval,g0,g6]
        |apply qa<;>intro h h_<;>(try simp only[wD,reduceCtorEq]at h_)<;>(try exact wb_)<;>(try simp only[h])
        |refine t_ ?_
        |simp -implicitDefEqProofs (disch:=omega) only[w64,if_neg]
       · refine qF rfl (Or.inr rfl) ?_
         simp -implicitDefEqProofs only[wL,seval,g0,g6]
         refine er_ ?_
         try(with_reducible rfl)
         rw[← k2_1,if_pos o_];rfl
       · refine⟨wk_,k+1,o_,?_⟩
         refine⟨?_,?_,?_,?_⟩
         iterate 2 (focus(first|(simp -implicitDefEqProofs only[wL,wM,wN,wX,seval,Option.some.injEq,g0,g6]<;>exact wt_)|rfl|exact⟨_,rfl⟩))
         all_goals try omega
         rw[← k2_1,if_neg o_];rfl
     · rw[List.drop_eq_nil_of_le o_]at k2_1
       repeat' with_reducible first
        |refine s_ ?_
        |simp -implicitDefEqProofs only[wZZ,seval,g0,g6]
        |apply qa<;>intro h h_<;>(try simp only[wD,reduceCtorEq]at h_)<;>(try exact wb_)<;>(try simp only[h])
       refine qF rfl (Or.inr rfl) ?_
       simp -implicitDefEqProofs only[wL,seval,g0,g6]
       refine er_ ?_
       try(with_reducible rfl)
       rw[← k2_1];rfl
   · skip
     rw[if_neg h2]at he
     by_cases h3:jX tx at_ [47,47]=true
     · rw [if_pos h3]at he
       rw[he]
       generalize hR:XR (tx.drop at_) at_=R
       repeat' with_reducible first
        |refine s_ ?_
        |simp -implicitDefEqProofs only[wZZ,seval,g0,g1,g9,hb,h3]
        |apply qa<;>intro h h_<;>(try simp only[wD,reduceCtorEq]at h_)<;>(try exact wb_)<;>(try simp only[h])
        |refine t_ ?_
        |refine zu we_ we_ we_ (jv wf_ wf_ wf_ wf_) ?_
       refine qi ?nx3 (fun(k:Nat) s=>s.f 0=?v3_0∧s.f 7=vi k∧(k≤tx.length)∧(XR (tx.drop k) k=R)) (fun k=>tx.length - k) (at_) wj_ (by refine⟨?_,?_,wo_,(by rw[← hR])⟩<;>first|(simp -implicitDefEqProofs only[wL,wM,wN,wX,seval,Option.some.injEq,g0,g1,g9]<;>exact wt_)|rfl|exact⟨_,rfl⟩) ?_
       intro k s hnx ⟨g0,g7,k3_0,k3_1⟩
       by_cases hk:k<tx.length
       · rw[List.drop_eq_getElem_cons hk,XR]at k3_1
         repeat' with_reducible first
          |refine s_ ?_
          |simp -implicitDefEqProofs only[wZZ,seval,g0,g7]
          |(first|apply qa|apply qJ|apply qK)<;>intro h h_<;>(try simp only[wD,reduceCtorEq]at h_)<;>(try exact wb_)<;>(try simp only[h])
          |refine t_ ?_
          |simp -implicitDefEqProofs (disch:=omega) only[w64,if_neg]
         · refine⟨wk_,k+1,o_,?_⟩
           refine⟨?_,?_,?_,?_⟩
           iterate 2 (focus(first|(simp -implicitDefEqProofs only[wL,wM,wN,wX,seval,Option.some.injEq,g0,g7]<;>exact wt_)|rfl|exact⟨_,rfl⟩))
           all_goals try omega
           rw[← k3_1,if_neg o_];rfl
         · refine qF rfl (Or.inr rfl) ?_
           simp -implicitDefEqProofs only[wL,seval,g0,g7]
           refine er_ ?_
           try(with_reducible rfl)
           rw[← k3_1,if_pos o_]
       · rw[List.drop_eq_nil_of_le o_]at k3_1
         repeat' with_reducible first
          |refine s_ ?_
          |simp -implicitDefEqProofs only[wZZ,seval,g0,g7]
          |(first|apply qJ|apply qK)<;>intro h h_<;>(try simp only[wD,reduceCtorEq]at h_)<;>(try exact wb_)<;>(try simp only[h])
         refine qF rfl (Or.inr rfl) ?_
         simp -implicitDefEqProofs only[wL,seval,g0,g7]
         refine er_ ?_
         try(with_reducible rfl)
         rw[← k3_1];rfl
     · skip
       rw[if_neg h3]at he
       have h3b:jX tx at_ [47,47]=false:=by simpa using h3
       by_cases h4:jX tx at_ [47,42]=true
       · rw [if_pos h4]at he
         rw[he]
         generalize hR:Xd tx (tx.length - (at_+2)) ((at_:Int)+2)=R
         repeat' with_reducible first
          |refine s_ ?_
          |simp -implicitDefEqProofs only[wZZ,seval,g0,g1,g9,hb,h3b,h4]
          |apply qa<;>intro h h_<;>(try simp only[wD,reduceCtorEq]at h_)<;>(try exact wb_)<;>(try simp only[h])
          |refine t_ ?_
          |refine zu we_ we_ we_ (jv wf_ wf_ wf_ wf_) ?_
          |simp -implicitDefEqProofs (disch:=omega) only[w64,if_neg]
         refine qi ?nx4 (fun(k:Nat) s=>s.f 0=?v4_0∧s.f 8=vi k∧(Xd tx (tx.length - k) k=R)) (fun k=>tx.length - k) (at_+2) wj_ (by refine⟨?_,?_,(by rw[← hR];rfl)⟩<;>first|(simp -implicitDefEqProofs only[wL,wM,wN,wX,seval,Option.some.injEq,g0,g1,g9]<;>exact wt_)|rfl|exact⟨_,rfl⟩) ?_
         intro k s hnx ⟨g0,g8,k4_0⟩
         by_cases hk:k<tx.length
         · rw[show tx.length - k=(tx.length - (k+1))+1 by omega,Xd]at k4_0
           repeat' with_reducible first
            |refine s_ ?_
            |simp -implicitDefEqProofs only[wZZ,seval,g0,g8]
            |apply qa<;>intro h h_<;>(try simp only[wD,reduceCtorEq]at h_)<;>(try exact wb_)<;>(try simp only[h])
            |refine zu we_ we_ we_ (jv wf_ wf_ wf_ wf_) ?_
            |simp -implicitDefEqProofs (disch:=omega) only[w64,if_neg]
           · refine qF rfl (Or.inr rfl) ?_
             simp -implicitDefEqProofs only[wL,seval,g0,g8]
             refine er_ ?_
             try(with_reducible rfl)
             rw[← k4_0,if_pos (by assumption)]
           · refine⟨wk_,k+1,o_,?_⟩
             refine⟨?_,?_,?_⟩
             iterate 2 (focus(first|(simp -implicitDefEqProofs only[wL,wM,wN,wX,seval,Option.some.injEq,g0,g8]<;>exact wt_)|rfl|exact⟨_,rfl⟩))
             all_goals try omega
             rw[← k4_0,if_neg (by simp_all)];rfl
         · rw[show tx.length - k=0 by omega,Xd]at k4_0
           repeat' with_reducible first
            |refine s_ ?_
            |simp -implicitDefEqProofs only[wZZ,seval,g0,g8]
            |apply qa<;>intro h h_<;>(try simp only[wD,reduceCtorEq]at h_)<;>(try exact wb_)<;>(try simp only[h])
           refine qF rfl (Or.inr rfl) ?_
           simp -implicitDefEqProofs only[wL,seval,g0,g8]
           refine er_ ?_
           try(with_reducible rfl)
           exact k4_0
       · skip
         rw[if_neg h4]at he
         have h4b:jX tx at_ [47,42]=false:=by simpa using h4
         rw[he]
         repeat' with_reducible first
          |refine s_ ?_
          |simp -implicitDefEqProofs only[wZZ,seval,g0,g1,g9,hb,h3b,h4b]
          |apply qa<;>intro h h_<;>(try simp only[wD,reduceCtorEq]at h_)<;>(try exact wb_)<;>(try simp only[h])
          |refine t_ ?_
          |refine zu we_ we_ we_ (jv wf_ wf_ wf_ wf_) ?_
         refine qF rfl (Or.inr rfl) ?_
         simp -implicitDefEqProofs only[wL,seval,g0,g1,g9]
         refine er_ ?_
         try(with_reducible rfl)

theorem qfz {l:List UInt8} {k:Nat} (h:k<l.length):l.getD k 0=l[k]:=by simp[List.getD,h]
def endGo (tx:List UInt8):Nat→Int→Int→Int
 |0,_,_=> -1
 | n+1,i,d=>if i<tx.length then
  (if YK tx i.toNat<0 then -1 else if i<YK tx i.toNat then endGo tx n (YK tx i.toNat) d
   else if d+(if (tx.getD i.toNat 0).toNat=123 then 1 else 0) - (if (tx.getD i.toNat 0).toNat=125 then 1 else 0)=0 then i+1
   else endGo tx n (i+1) (d+(if (tx.getD i.toNat 0).toNat=123 then 1 else 0) - (if (tx.getD i.toNat 0).toNat=125 then 1 else 0)))
   else -1
def qMt (tx:List UInt8):Int:=if (tx.headD 0).toNat=123 then endGo tx (tx.length+1) 0 0 else -1
theorem Yp {tx : List UInt8} (hs:tx.length≤1099511627776):Pure Tryz.prog 152 [.str tx,vi 0] (vi (qMt tx)):=by
 refine pure_intro Tryz.func152 nm_ qnl (by show 2≤53;decide) ?_
 show ewp _ qbQ _ _
 by_cases h0:tx=[]
 · subst h0
   repeat' with_reducible first
    |refine s_ ?_
    |simp -implicitDefEqProofs only[wZZ,seval]
   refine qF rfl (Or.inr rfl) ?_
   simp -implicitDefEqProofs only[wL,seval]
   refine er_ ?_
   try(with_reducible rfl)
   rfl
 · have hl : 0 < tx.length:=List.length_pos_iff.2 h0
   have hh:tx.headD 0=tx[0]:=by cases tx with|nil=>exact absurd rfl h0|cons a r=>rfl
   have he:qMt tx=if tx[0].toNat=123 then endGo tx (tx.length+1) 0 0 else -1:=by unfold qMt;rw[hh]
   rw[he]
   by_cases hc:tx[0].toNat=123
   · rw [if_pos hc]
     generalize hR:endGo tx (tx.length+1) 0 0=R
     repeat' with_reducible first
      |refine s_ ?_
      |simp -implicitDefEqProofs only[wZZ,seval]
      |(first|apply qa|apply qJ|apply qK)<;>intro h h_<;>(try simp only[wD,reduceCtorEq]at h_)<;>(try exact wb_)<;>(try simp only[h])
      |refine t_ ?_
     refine qi ?nx1 (fun(p:Nat×Int) s=>s.f 0=?v1_0∧s.f 5=vi p.2∧s.f 6=vi p.1∧((-(p.1:Int)≤p.2∧p.2≤p.1))∧((∃n,tx.length<p.1+n∧endGo tx n p.1 p.2=R))) (fun p=>tx.length - p.1) ((0,0)) wj_ (by refine⟨?_,?_,?_,wo_,(by exact⟨tx.length+1,o_,hR⟩)⟩<;>first|(simp -implicitDefEqProofs only[wL,wM,wN,wX,seval,Option.some.injEq]<;>exact wt_)|rfl|exact⟨_,rfl⟩) ?_
     intro p s hnx ⟨g0,g5,g6,k1_0,k1_1⟩
     obtain ⟨i,d⟩:=p
     dsimp only at *
     obtain ⟨n,hn,hg⟩:=k1_1
     by_cases hi:i<tx.length
     · obtain ⟨n,rfl⟩: ∃m,n=m+1:=⟨n - 1,o_⟩
       rw[endGo,if_pos o_,Int.toNat_natCast,qfz hi]at hg
       by_cases hneg:YK tx i<0
       · rw[if_pos hneg]at hg
         repeat' with_reducible first
          |refine s_ ?_
          |simp -implicitDefEqProofs only[wZZ,seval,g0,g5,g6]
          |apply qa<;>intro h h_<;>(try simp only[wD,reduceCtorEq]at h_)<;>(try exact wb_)<;>(try simp only[h])
          |refine qA we_ we_ (jq wf_ wf_) ?_
         refine qF rfl (Or.inr rfl) ?_
         simp -implicitDefEqProofs only[wL,seval,g0,g5,g6]
         refine er_ ?_
         try(with_reducible rfl)
         exact hg
       · rw [if_neg hneg]at hg
         obtain ⟨m,hm⟩: ∃m:Nat,YK tx i=m:=⟨(YK tx i).toNat,o_⟩
         rw[hm]at hg
         by_cases hgt:(i:Int)<m
         · rw[if_pos hgt]at hg
           repeat' with_reducible first
            |refine s_ ?_
            |simp -implicitDefEqProofs only[wZZ,seval,g0,g5,g6,hm]
            |apply qa<;>intro h h_<;>(try simp only[wD,reduceCtorEq]at h_)<;>(try exact wb_)<;>(try simp only[h])
            |refine qA we_ we_ (jq wf_ wf_) ?_
           refine⟨wk_,(m,d),o_,?_⟩
           refine⟨?_,?_,?_,?_,?_⟩
           iterate 3 (focus(first|(simp -implicitDefEqProofs only[wL,wM,wN,wX,seval,Option.some.injEq,g0,g5,g6]<;>exact wt_)|rfl|exact⟨_,rfl⟩))
           all_goals try omega
           exact⟨n,o_,hg⟩
         · rw [if_neg hgt]at hg
           by_cases h1:tx[i].toNat=123
           · have h2: ¬ tx[i].toNat=125:=o_
             have hz:IntKind.i64.wrap (d+1)=d+1:=wrap64 o_ o_
             rw[if_pos h1,if_neg h2]at hg
             repeat' with_reducible first
              |refine s_ ?_
              |simp -implicitDefEqProofs only[wZZ,seval,g0,g5,g6,hm,hz]
              |apply qa<;>intro h h_<;>(try simp only[wD,reduceCtorEq]at h_)<;>(try exact wb_)<;>(try simp only[h])
              |refine t_ ?_
              |refine qA we_ we_ (jq wf_ wf_) ?_
              |simp -implicitDefEqProofs (disch:=omega) only[w64,if_neg]
             · refine qF rfl (Or.inr rfl) ?_
               simp -implicitDefEqProofs only[wL,seval,g0,g5,g6]
               refine er_ ?_
               try(with_reducible rfl)
               rw[← hg,if_pos o_];rfl
             · refine⟨wk_,(i+1,d+1),o_,?_⟩
               refine⟨?_,?_,?_,?_,?_⟩
               iterate 3 (focus(first|(simp -implicitDefEqProofs only[wL,wM,wN,wX,seval,Option.some.injEq,g0,g5,g6]<;>exact wt_)|rfl|exact⟨_,rfl⟩))
               all_goals try omega
               exact⟨n,o_,by rw[← hg,if_neg o_,Int.sub_zero];rfl⟩
           · by_cases h2:tx[i].toNat=125
             · have hz:IntKind.i64.wrap (d - 1)=d - 1:=wrap64 o_ o_
               rw[if_neg h1,if_pos h2,Int.add_zero]at hg
               repeat' with_reducible first
                |refine s_ ?_
                |simp -implicitDefEqProofs only[wZZ,seval,g0,g5,g6,hm,hz]
                |apply qa<;>intro h h_<;>(try simp only[wD,reduceCtorEq]at h_)<;>(try exact wb_)<;>(try simp only[h])
                |refine t_ ?_
                |refine qA we_ we_ (jq wf_ wf_) ?_
                |simp -implicitDefEqProofs (disch:=omega) only[w64,if_neg]
               · refine qF rfl (Or.inr rfl) ?_
                 simp -implicitDefEqProofs only[wL,seval,g0,g5,g6]
                 refine er_ ?_
                 try(with_reducible rfl)
                 rw[← hg,if_pos o_];rfl
               · refine⟨wk_,(i+1,d - 1),o_,?_⟩
                 refine⟨?_,?_,?_,?_,?_⟩
                 iterate 3 (focus(first|(simp -implicitDefEqProofs only[wL,wM,wN,wX,seval,Option.some.injEq,g0,g5,g6]<;>exact wt_)|rfl|exact⟨_,rfl⟩))
                 all_goals try omega
                 exact⟨n,o_,by rw[← hg,if_neg o_];rfl⟩
             · rw[if_neg h1,if_neg h2,Int.add_zero,Int.sub_zero]at hg
               repeat' with_reducible first
                |refine s_ ?_
                |simp -implicitDefEqProofs only[wZZ,seval,g0,g5,g6,hm]
                |apply qa<;>intro h h_<;>(try simp only[wD,reduceCtorEq]at h_)<;>(try exact wb_)<;>(try simp only[h])
                |refine t_ ?_
                |refine qA we_ we_ (jq wf_ wf_) ?_
                |simp -implicitDefEqProofs (disch:=omega) only[w64,if_neg]
               · refine qF rfl (Or.inr rfl) ?_
                 simp -implicitDefEqProofs only[wL,seval,g0,g5,g6]
                 refine er_ ?_
                 try(with_reducible rfl)
                 rw[← hg,if_pos o_];rfl
               · refine⟨wk_,(i+1,d),o_,?_⟩
                 refine⟨?_,?_,?_,?_,?_⟩
                 iterate 3 (focus(first|(simp -implicitDefEqProofs only[wL,wM,wN,wX,seval,Option.some.injEq,g0,g5,g6]<;>exact wt_)|rfl|exact⟨_,rfl⟩))
                 all_goals try omega
                 exact⟨n,o_,by rw[← hg,if_neg o_];rfl⟩
     · have hR2:R= -1:=by
        rw[← hg];cases n with
        |zero=>rfl
        |succ n=>rw[endGo,if_neg o_]
       repeat' with_reducible first
        |refine s_ ?_
        |simp -implicitDefEqProofs only[wZZ,seval,g0,g5,g6]
        |apply qa<;>intro h h_<;>(try simp only[wD,reduceCtorEq]at h_)<;>(try exact wb_)<;>(try simp only[h])
       refine qF rfl (Or.inr rfl) ?_
       simp -implicitDefEqProofs only[wL,seval,g0,g5,g6]
       refine er_ ?_
       try(with_reducible rfl)
       exact hR2.symm
   · skip
     rw[if_neg hc]
     repeat' with_reducible first
      |refine s_ ?_
      |simp -implicitDefEqProofs only[wZZ,seval]
      |(first|apply qa|apply qJ|apply qK)<;>intro h h_<;>(try simp only[wD,reduceCtorEq]at h_)<;>(try exact wb_)<;>(try simp only[h])
      |refine t_ ?_
     refine qF rfl (Or.inr rfl) ?_
     simp -implicitDefEqProofs only[wL,seval]
     refine er_ ?_
     try(with_reducible rfl)
end Go.Proofs
