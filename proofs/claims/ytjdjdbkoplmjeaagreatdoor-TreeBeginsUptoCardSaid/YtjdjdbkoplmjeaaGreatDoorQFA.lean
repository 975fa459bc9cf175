/- Part of a proof that a law of the given program answers true. -/
import Derived.Test.YtjdjdbkoplmjeaaGreatDoorQCA
import Derived.Test.YtjdjdbkoplmjeaaGreatDoorQEC
set_option linter.unusedSimpArgs false
set_option linter.unusedVariables false
namespace Go.Proofs
open Go.E
structure Sym where
 name:List UInt8:=[]
 lit:Bool:=false
 num:Int:=0
 at_:Int:=0
 deriving DecidableEq,Inhabited
structure Part where
 sym:Sym:={}
 code:List UInt8:=[]
 at_:Int:=0
 deriving DecidableEq,Inhabited
structure Alt where
 parts:List Part:=[]
 prec:Sym:={}
 at_:Int:=0
 deriving DecidableEq,Inhabited
structure Rule where
 left:List UInt8:=[]
 alts:List Alt:=[]
 at_:Int:=0
 deriving DecidableEq,Inhabited
structure Decl where
 kind:Int:=0
 tag:List UInt8:=[]
 syms:List Sym:=[]
 at_:Int:=0
 deriving DecidableEq,Inhabited
structure Source where
 pro:List UInt8:=[]
 decls:List Decl:=[]
 rules:List Rule:=[]
 tail:List UInt8:=[]
 deriving DecidableEq,Inhabited
@[reducible] def Sym.V (x:Sym):V:= .agg [.str x.name,.bool x.lit,vi x.num,vi x.at_]
@[reducible] def Part.V (x:Part):V:= .agg [.str x.sym.name,.bool x.sym.lit,vi x.sym.num,vi x.sym.at_,.str x.code,vi x.at_]
@[reducible] def Alt.V (x:Alt):V:= .agg [.sl 6 false (x.parts.map Part.V),.str x.prec.name,.bool x.prec.lit,vi x.prec.num,vi x.prec.at_,vi x.at_]
@[reducible] def Rule.V (x:Rule):V:= .agg [.str x.left,.sl 6 false (x.alts.map Alt.V),vi x.at_]
@[reducible] def Decl.V (x:Decl):V:= .agg [vi x.kind,.str x.tag,.sl 4 false (x.syms.map Sym.V),vi x.at_]
@[reducible] def Source.V (x:Source):V:= .agg [.str x.pro,.sl 4 false (x.decls.map Decl.V),.sl 3 false (x.rules.map Rule.V),.str x.tail]
theorem KO {i n:Int} (hn:0<n) (h:n≤4611686018427387904):(if i.tmod n<0 then IntKind.i64.wrap (i.tmod n+n)else i.tmod n)=i % n:=by
 have h1:=Int.tmod_lt_of_pos i hn
 have h2: - n<i.tmod n:=by
  have:=Int.tmod_lt_of_pos (-i) hn
  rw[Int.neg_tmod]at this;omega
 have e:i.tmod n=i % n∨i.tmod n+n=i % n:=by
  rw[Int.tmod_eq_emod]
  have:=Int.emod_lt_of_pos i hn
  have:=Int.emod_nonneg i (show n≠0 by omega)
  split
  · left;omega
  · right;omega
 have h3:=Int.emod_nonneg i (show n≠0 by omega)
 have h4:=Int.emod_lt_of_pos i hn
 split
 · rw[wrap64 o_ o_];omega
 · omega
theorem Jh {i n:Int} (hn:0<n) (hm:n≤4611686018427387904):Pure Tryz.prog 30 [vi i,vi n] (vi (i % n)):=by
 refine pure_intro Tryz.func30 nm_ qCY (by show 2≤15;decide) ?_
 show ewp _ qh6 _ _
 have e:=KO (i:=i) hn hm
 by_cases h:i.tmod n<0
 · rw[if_pos h]at e
   have hne: ¬ (n=0):=o_
   repeat' with_reducible first
    |refine s_ ?_
    |simp -implicitDefEqProofs only[wZZ,seval,hne,e]
    |apply qa<;>intro h h_<;>(try simp only[wD,reduceCtorEq]at h_)<;>(try exact wb_)<;>(try simp only[h])
   refine qD rfl (Or.inr rfl) ?_
   simp -implicitDefEqProofs only[wL,seval]
   refine er_ ?_
   try(with_reducible rfl)
 · rw[if_neg h]at e
   have hne: ¬ (n=0):=o_
   repeat' with_reducible first
    |refine s_ ?_
    |simp -implicitDefEqProofs only[wZZ,seval,hne,e]
    |apply qa<;>intro h h_<;>(try simp only[wD,reduceCtorEq]at h_)<;>(try exact wb_)<;>(try simp only[h])
   refine qD rfl (Or.inr rfl) ?_
   simp -implicitDefEqProofs only[wL,seval]
   refine er_ ?_
   try(with_reducible rfl)

@[reducible] def Qj (s:List UInt8) (n:Int):List UInt8:=s.take n.toNat
theorem zL {s:List UInt8} {n:Int} (hs:s.length≤1099511627776) (hn:0≤n):Pure Tryz.prog 28 [.str s,vi n] (.str (Qj s n)):=by
 refine pure_intro Tryz.func28 nm_ qCk (by show 2≤13;decide) ?_
 show ewp _ qvX _ _
 by_cases h:n<s.length
 · repeat' with_reducible first
    |refine s_ ?_
    |simp -implicitDefEqProofs only[wZZ,seval]
    |apply qa<;>intro h h_<;>(try simp only[wD,reduceCtorEq]at h_)<;>(try exact wb_)<;>(try simp only[h])
    |apply qzi;omega;omega
   refine qD rfl (Or.inr rfl) ?_
   simp -implicitDefEqProofs only[wL,seval]
   refine er_ ?_
   try(with_reducible rfl)
 · have e:Qj s n=s:=List.take_of_length_le o_
   rw[e]
   repeat' with_reducible first
    |refine s_ ?_
    |simp -implicitDefEqProofs only[wZZ,seval]
    |apply qa<;>intro h h_<;>(try simp only[wD,reduceCtorEq]at h_)<;>(try exact wb_)<;>(try simp only[h])
   refine qD rfl (Or.inr rfl) ?_
   simp -implicitDefEqProofs only[wL,seval]
   refine er_ ?_
   try(with_reducible rfl)
@[reducible] def Qz (x:Sym):Sym:=⟨Qj x.name 25,x.lit,x.num,x.at_⟩
theorem j6 {x:Sym} (hs:x.name.length≤1099511627776):Pure Tryz.prog 29 [x.V] ((Qz x).V):=by
 refine pure_intro Tryz.func29 nm_ qvZ (by show 1≤13;decide) ?_
 show ewp _ qBS _ _
 repeat' with_reducible first
  |refine s_ ?_
  |simp -implicitDefEqProofs only[wZZ,seval]
  |refine t_ ?_
  |refine xA we_ we_ (zL wf_ wf_) ?_
 apply qen (t:=2) rfl (Or.inr rfl);(focus(first|rfl|((try simp -implicitDefEqProofs only[wL,wM,wN,seval]);rfl)));(focus(first|rfl|((try simp -implicitDefEqProofs only[wL,wM,wN,seval]);rfl)));(exact wu_);(try exact qg)
def Vd (c:UInt8):Bool:=(decide (97≤c.toNat) && decide (c.toNat≤122)) || (decide (65≤c.toNat) && decide (c.toNat≤90)) || decide (c.toNat=95)
def qbL (c:UInt8):Bool:=decide (48≤c.toNat) && decide (c.toNat≤57)
theorem Ja {c:UInt8}:Pure Tryz.prog 116 [.int .u8 c.toNat] (.bool (Vd c)):=by
 refine pure_intro Tryz.func116 nm_ qj4 (by show 1≤21;decide) ?_
 show ewp _ qhH _ _
 repeat' with_reducible first
  |refine s_ ?_
  |simp -implicitDefEqProofs only[wZZ,seval]
  |(first|apply qj|apply qx)<;>intro h h_<;>(try simp only[wD,reduceCtorEq]at h_)<;>(try exact wb_)<;>(try simp only[h])
 all_goals refine qD rfl (Or.inr rfl) ?_
 all_goals(try simp -implicitDefEqProofs only[wL,seval])
 all_goals refine er_ ?_
 all_goals(try(with_reducible rfl))
 all_goals(rw[Bool.eq_iff_iff];simp[Vd];omega)
theorem JG {c:UInt8}:Pure Tryz.prog 117 [.int .u8 c.toNat] (.bool (qbL c)):=by
 refine pure_intro Tryz.func117 nm_ qnJ (by show 1≤9;decide) ?_
 show ewp _ qhl _ _
 repeat' with_reducible first
  |refine s_ ?_
  |simp -implicitDefEqProofs only[wZZ,seval]
  |(first|apply qj|apply qx)<;>intro h h_<;>(try simp only[wD,reduceCtorEq]at h_)<;>(try exact wb_)<;>(try simp only[h])
 all_goals refine qD rfl (Or.inr rfl) ?_
 all_goals(try simp -implicitDefEqProofs only[wL,seval])
 all_goals refine er_ ?_
 all_goals(try(with_reducible rfl))
 all_goals(rw[Bool.eq_iff_iff];simp[qbL];omega)
def qgG:List UInt8:=[112,113,114,115]
def j3 (s:List UInt8) (at_:Int) (w:List UInt8):Bool:=decide (at_+w.length≤s.length) && decide ((s.take (at_+w.length).toNat).drop at_.toNat=w)
theorem jm {s w:List UInt8} {at_:Int} (hs:s.length≤1099511627776) (hw:w.length≤1099511627776) (ha:0≤at_) (hb:at_≤1099511627776):Pure Tryz.prog 130 [.str s,vi at_,.str w] (.bool (j3 s at_ w)):=by
 refine pure_intro Tryz.func130 nm_ qni (by show 3≤25;decide) ?_
 show ewp _ qhv _ _
 have h1:IntKind.i64.wrap ((s.length:Int) - at_)=(s.length:Int) - at_:=wrap64 o_ o_
 repeat' with_reducible first
  |refine s_ ?_
  |simp -implicitDefEqProofs only[wZZ,seval,h1]
  |(first|apply qj|apply qx)<;>intro h h_<;>(try simp only[wD,reduceCtorEq]at h_)<;>(try exact wb_)<;>(try simp only[h])
  |apply qbM;omega;omega;omega
  |simp -implicitDefEqProofs (disch:=omega) only[w64,if_neg]
 all_goals refine qD rfl (Or.inr rfl) ?_
 all_goals(try simp -implicitDefEqProofs only[wL,seval])
 all_goals refine er_ ?_
 all_goals(try(with_reducible rfl))
 · unfold j3
   have e:decide (at_+(w.length:Int)≤(s.length:Int))=true:=by rw[decide_eq_true_eq];omega
   rw[e];rfl
 · unfold j3
   have e:decide (at_+(w.length:Int)≤(s.length:Int))=false:=by rw[decide_eq_false_iff_not];omega
   rw[e];rfl
def Zy (c:UInt8):Bool:=decide (c.toNat=10) || decide (c.toNat=9) || decide (c.toNat=13) || decide (c.toNat=92) || decide (c.toNat=39) || (decide (32≤c.toNat) && decide (c.toNat≤126))
def KL (c:UInt8):UInt8:=if c.toNat=10 then 110 else if c.toNat=9 then 116 else if c.toNat=13 then 114 else if c.toNat=92 then c else if c.toNat=39 then c else 0
theorem Jk {c:UInt8}:Pure Tryz.prog 115 [.int .u8 c.toNat] (.tup [.int .u8 (KL c).toNat,.bool (Zy c)]):=by
 refine pure_intro Tryz.func115 nm_ qi8 (by show 1≤21;decide) ?_
 show ewp _ qfd _ _
 repeat' with_reducible first
  |refine s_ ?_
  |simp -implicitDefEqProofs only[wZZ,seval]
  |(first|apply qa|apply qj|apply qx)<;>intro h h_<;>(try simp only[wD,reduceCtorEq]at h_)<;>(try exact wb_)<;>(try simp only[h])
 all_goals refine qjn rfl (Or.inr rfl) ?_
 all_goals(try simp -implicitDefEqProofs only[wL,seval])
 all_goals(refine qkg ?_ ?_<;>refine er_ ?_<;>(try(with_reducible rfl)))
 all_goals first
  |(unfold KL;(repeat' split)<;>first|(exfalso;omega)|rfl)
  |(rw[Bool.eq_iff_iff];simp[Zy];omega)
@[reducible] def qJ7 (k:Int):List UInt8:=[UInt8.ofNat (97+k).toNat]
@[reducible] def qcr (k:Int):Sym:={name:=(qgG.take (k % 4+1).toNat).drop (k % 4).toNat,lit:=true}

def Z0:List UInt8→Bool→Nat
 |[],_=>0
 |c::r,more=>if Vd c || (more && (qbL c || decide (c.toNat=46)))then Z0 r true+1 else 0
theorem qap (c:UInt8) (r:List UInt8) (more:Bool):Z0 (c::r) more=if Vd c || (more && (qbL c || decide (c.toNat=46)))then Z0 r true+1 else 0:=rfl
theorem Z9 {tx:List UInt8} (hs:tx.length≤1099511627776):Pure Tryz.prog 99 [.str tx,vi 0] (vi (Z0 tx false)):=by
 refine pure_intro Tryz.func99 nm_ qAZ (by show 2≤43;decide) ?_
 show ewp _ qg0 _ _
 repeat' with_reducible first
  |refine s_ ?_
  |simp -implicitDefEqProofs only[wZZ,seval]
 refine qb ?nx1 (fun(n:Nat) s=>s.f 0=?v1_0∧s.f 1=?v1_1∧s.f 5=vi n∧(n≤tx.length)∧(Z0 tx false=n+Z0 (tx.drop n) (decide (0<n)))) (fun n=>tx.length - n) (0) wj_ (by refine⟨?_,?_,?_,wo_,wo_⟩<;>first|(simp -implicitDefEqProofs only[wL,wM,wN,wX,seval,Option.some.injEq]<;>exact wt_)|rfl|exact⟨_,rfl⟩) ?_
 intro n s hnx ⟨g0,g1,g5,k1_0,k1_1⟩
 have hz:IntKind.i64.wrap (0+(n:Int))=n:=by rw[Int.zero_add];exact wrap64 o_ o_
 by_cases hn:n<tx.length
 · have hd:tx.drop n=tx[n]::tx.drop (n+1):=List.drop_eq_getElem_cons hn
   rw[hd,qap]at k1_1
   have h0:decide (0<n+1)=true:=by simp
   repeat' with_reducible first
    |refine s_ ?_
    |simp -implicitDefEqProofs only[wZZ,seval,g0,g1,g5,hz]
    |(first|apply qa|apply qj|apply qx)<;>intro h h_<;>(try simp only[wD,reduceCtorEq]at h_)<;>(try exact wb_)<;>(try simp only[h])
    |refine t_ ?_
    |refine cq1 Ja we_ ?_
    |refine cq1 JG we_ ?_
    |simp -implicitDefEqProofs (disch:=omega) only[w64,if_neg]
   · refine⟨wk_,n+1,o_,?_⟩
     refine⟨?_,?_,?_,?_,?_⟩
     iterate 3 (focus(first|(simp -implicitDefEqProofs only[wL,wM,wN,wX,seval,Option.some.injEq,g0,g1,g5]<;>exact wt_)|rfl|exact⟨_,rfl⟩))
     all_goals try omega
     rw[k1_1,h0,if_pos (by rw[Bool.or_eq_true,Bool.and_eq_true,Bool.or_eq_true,decide_eq_true_eq,decide_eq_true_eq];first|exact Or.inl (by assumption)|exact Or.inr ⟨o_,Or.inl (by assumption)⟩|exact Or.inr ⟨o_,Or.inr o_⟩)];omega
   · refine qD rfl (Or.inr rfl) ?_
     simp -implicitDefEqProofs only[wL,seval,g0,g1,g5]
     refine er_ ?_
     try(with_reducible rfl)
     rw[k1_1,if_neg (by rw[Bool.or_eq_true,Bool.and_eq_true,Bool.or_eq_true,decide_eq_true_eq,decide_eq_true_eq];rintro (h|⟨h,h|h⟩)<;>first|omega|simp_all)];rfl
   · refine⟨wk_,n+1,o_,?_⟩
     refine⟨?_,?_,?_,?_,?_⟩
     iterate 3 (focus(first|(simp -implicitDefEqProofs only[wL,wM,wN,wX,seval,Option.some.injEq,g0,g1,g5]<;>exact wt_)|rfl|exact⟨_,rfl⟩))
     all_goals try omega
     rw[k1_1,h0,if_pos (by rw[Bool.or_eq_true,Bool.and_eq_true,Bool.or_eq_true,decide_eq_true_eq,decide_eq_true_eq];first|exact Or.inl (by assumption)|exact Or.inr ⟨o_,Or.inl (by assumption)⟩|exact Or.inr ⟨o_,Or.inr o_⟩)];omega
   · refine qD rfl (Or.inr rfl) ?_
     simp -implicitDefEqProofs only[wL,seval,g0,g1,g5]
     refine er_ ?_
     try(with_reducible rfl)
     rw[k1_1,if_neg (by rw[Bool.or_eq_true,Bool.and_eq_true,Bool.or_eq_true,decide_eq_true_eq,decide_eq_true_eq];rintro (h|⟨h,h|h⟩)<;>first|omega|simp_all)];rfl
   · refine⟨wk_,n+1,o_,?_⟩
     refine⟨?_,?_,?_,?_,?_⟩
     iterate 3 (focus(first|(simp -implicitDefEqProofs only[wL,wM,wN,wX,seval,Option.some.injEq,g0,g1,g5]<;>exact wt_)|rfl|exact⟨_,rfl⟩))
     all_goals try omega
     rw[k1_1,h0,if_pos (by rw[Bool.or_eq_true,Bool.and_eq_true,Bool.or_eq_true,decide_eq_true_eq,decide_eq_true_eq];first|exact Or.inl (by assumption)|exact Or.inr ⟨o_,Or.inl (by assumption)⟩|exact Or.inr ⟨o_,Or.inr o_⟩)];omega
 · repeat' with_reducible first
    |refine s_ ?_
    |simp -implicitDefEqProofs only[wZZ,seval,g0,g1,g5,hz]
    |(first|apply qj|apply qx)<;>intro h h_<;>(try simp only[wD,reduceCtorEq]at h_)<;>(try exact wb_)<;>(try simp only[h])
   refine qD rfl (Or.inr rfl) ?_
   simp -implicitDefEqProofs only[wL,seval,g0,g1,g5]
   refine er_ ?_
   try(with_reducible rfl)
   rw[List.drop_eq_nil_of_le o_]at k1_1
   rw[k1_1];simp[Z0]
def qav (tx:List UInt8):Bool:=decide (1≤tx.length) && decide (tx.length≤20) && decide (Z0 tx false=tx.length)
theorem yh {tx:List UInt8} (hs:tx.length≤1099511627776):Pure Tryz.prog 86 [.str tx] (.bool (qav tx)):=by
 refine pure_intro Tryz.func86 nm_ qou (by show 1≤18;decide) ?_
 show ewp _ qsF _ _
 repeat' with_reducible first
  |refine s_ ?_
  |simp -implicitDefEqProofs only[wZZ,seval]
  |(first|apply qj|apply qx)<;>intro h h_<;>(try simp only[wD,reduceCtorEq]at h_)<;>(try exact wb_)<;>(try simp only[h])
  |refine xA we_ we_ (Z9 wf_) ?_
 all_goals refine qD rfl (Or.inr rfl) ?_
 all_goals(try simp -implicitDefEqProofs only[wL,seval])
 all_goals refine er_ ?_
 all_goals(try(with_reducible rfl))
 all_goals(rw[Bool.eq_iff_iff];simp[qav];omega)
@[reducible] def Sym.none (x:Sym):Bool:=decide (x.name=[]) && !x.lit && decide (x.num=0)
theorem Qq {x:Sym}:Pure Tryz.prog 100 [x.V] (.bool x.none):=by
 refine pure_intro Tryz.func100 nm_ qnC (by show 1≤16;decide) ?_
 show ewp _ qie _ _
 obtain ⟨nm,lt,nu,at_⟩:=x
 repeat' with_reducible first
  |refine s_ ?_
  |simp -implicitDefEqProofs only[wZZ,seval]
  |(first|apply qj|apply qx)<;>intro h h_<;>(try simp only[wD,reduceCtorEq]at h_)<;>(try exact wb_)<;>(try simp only[h])
  |refine t_ ?_
 all_goals refine qD rfl (Or.inr rfl) ?_
 all_goals(try simp -implicitDefEqProofs only[wL,seval])
 all_goals refine er_ ?_
 all_goals(try(with_reducible rfl))
 all_goals(simp_all [Sym.none])

def qcA (x:Sym) (num lit:Bool):Bool:=if x.lit then lit && decide (x.name.length=1) && Zy (x.name.headD 0) && decide (x.num=0)else qav x.name && (decide (x.num=0) || (num && decide (1≤x.num) && decide (x.num≤50000)))
theorem xq {x:Sym} {num lit:Bool} (hs:x.name.length≤1099511627776):Pure Tryz.prog 98 [x.V,.bool num,.bool lit] (.bool (qcA x num lit)):=by
 refine pure_intro Tryz.func98 nm_ qsO (by show 3≤53;decide) ?_
 show ewp _ qhf _ _
 obtain ⟨nm,lt,nu,at_⟩:=x
 repeat' with_reducible first
  |refine s_ ?_
  |simp -implicitDefEqProofs only[wZZ,seval]
  |(first|apply qa|apply qj|apply qx)<;>intro h h_<;>(try simp only[wD,reduceCtorEq]at h_)<;>(try exact wb_)<;>(try simp only[h])
  |refine t_ ?_
  |refine cq1 Jk we_ ?_
  |refine kz we_ (yh wf_) ?_
 all_goals refine qD rfl (Or.inr rfl) ?_
 all_goals(try simp -implicitDefEqProofs only[wL,seval])
 all_goals refine er_ ?_
 all_goals(try(with_reducible rfl))
 all_goals first
  |(simp_all [qcA];done)
  |(simp_all [qcA];omega)
  | (obtain ⟨c,hc⟩: ∃c,nm=[c]:=List.length_eq_one_iff.1 o_
     subst hc
     simp_all [qcA])

def Sym.Fits (x:Sym):Prop:=x.name.length≤1099511627776
def qlo (d:Decl):Bool:=decide (d.kind<1) || decide (6<d.kind) || decide ((d.syms.length:Int)=0) || (decide (d.kind=6) && (!decide ((d.syms.length:Int)=1) || !decide (d.tag=[]))) || (decide (d.kind=5) && decide (d.tag=[])) || (!decide (d.tag=[]) && !qav d.tag)
def XE (d:Decl):Bool:= !qlo d && d.syms.all fun x=>qcA x (decide (d.kind=1)) (decide (d.kind<5))
theorem Zx {d:Decl} (ht:d.tag.length≤1099511627776) (hl:d.syms.length≤1099511627776) (hs: ∀x∈d.syms,x.name.length≤1099511627776):Pure Tryz.prog 85 [d.V] (.bool (XE d)):=by
 refine pure_intro Tryz.func85 nm_ qxQ (by show 1≤75;decide) ?_
 show ewp _ qij _ _
 obtain ⟨kd,tg,sy,at_⟩:=d
 dsimp only at ht hl hs
 refine vU (fun s=>s.f 1=.ptr 0 0 0∧s.H 0=some (.own 4 [Decl.V ⟨kd,tg,sy,at_⟩] false)∧1≤s.next) ?_ ?_
 · repeat' with_reducible first
    |refine s_ ?_
    |simp -implicitDefEqProofs only[wZZ,seval]
    |refine t_ ?_
   all_goals(refine⟨?_,?_,?_⟩)
   all_goals((try simp -implicitDefEqProofs only[wL,wM,wN,seval]);try(first|rfl|omega))
 intro s ⟨g1,o0,hnx⟩
 refine qeC ?_
 refine vU (fun s=>s.f 1=.ptr 0 0 0∧s.f 54=.bool (qlo ⟨kd,tg,sy,at_⟩)∧s.H 0=some (.own 4 [Decl.V ⟨kd,tg,sy,at_⟩] false)∧1≤s.next) ?_ ?_
 · repeat' with_reducible first
    |refine s_ ?_
    |simp -implicitDefEqProofs only[wZZ,seval,g1,o0]
    |(first|apply qj|apply qx)<;>intro h h_<;>(try simp only[wD,reduceCtorEq]at h_)<;>(try exact wb_)<;>(try simp only[h])
    |refine t_ ?_
    |refine kz we_ (yh wf_) ?_
   all_goals(refine⟨?_,?_,?_,?_⟩)
   all_goals((try simp -implicitDefEqProofs only[wL,wM,wN,seval,g1,o0]);try(first|rfl|omega))
   all_goals(refine congrArg V.bool ?_;simp only[qlo, *];rfl)
 intro s ⟨g1,g54,o0,hnx⟩
 by_cases hb:qlo ⟨kd,tg,sy,at_⟩=true
 · have e:XE ⟨kd,tg,sy,at_⟩=false:=by unfold XE;rw[hb];rfl
   rw[e]
   repeat' with_reducible first
    |refine s_ ?_
    |simp -implicitDefEqProofs only[wZZ,seval,g1,g54,o0,hb]
   refine qD rfl (Or.inr rfl) ?_
   simp -implicitDefEqProofs only[wL,seval,g1,g54]
   refine er_ ?_
   try(with_reducible rfl)
 · have hb2:qlo ⟨kd,tg,sy,at_⟩=false:=by simpa using hb
   have e:XE ⟨kd,tg,sy,at_⟩=sy.all fun x=>qcA x (decide (kd=1)) (decide (kd<5)):=by unfold XE;rw[hb2];rfl
   rw[e]
   repeat' with_reducible first
    |refine s_ ?_
    |simp -implicitDefEqProofs only[wZZ,seval,g1,g54,o0,hb2]
   refine qb ?nx1 (fun(k:Nat) s=>s.f 1=?v1_1∧s.H 0=?o1_0∧s.f 3=vi k∧(k≤sy.length)∧(∀x∈sy.take k,qcA x (decide (kd=1)) (decide (kd<5))=true)) (fun k=>sy.length - k) (0) wj_ (by refine⟨?_,?_,?_,wo_,wo_⟩<;>first|(simp -implicitDefEqProofs only[wL,wM,wN,wX,seval,Option.some.injEq,g1,g54,o0]<;>exact wt_)|rfl|exact⟨_,rfl⟩) ?_
   intro k s hnx ⟨g1,o0,g3,k1_0,k1_1⟩
   by_cases hk:k<sy.length
   · have hx:=hs sy[k] (List.getElem_mem hk)
     have ht2:sy.take (k+1)=sy.take k++[sy[k]]:=by rw[List.take_add_one,ge_ hk];rfl
     repeat' with_reducible first
      |refine s_ ?_
      |simp -implicitDefEqProofs only[wZZ,seval,g1,g3,o0]
      |apply qa<;>intro h h_<;>(try simp only[wD,reduceCtorEq]at h_)<;>(try exact wb_)<;>(try simp only[h])
      |refine t_ ?_
      |refine Qv we_ we_ we_ (xq wf_) ?_
      |simp -implicitDefEqProofs (disch:=omega) only[w64,if_neg]
     · refine qD rfl (Or.inr rfl) ?_
       simp -implicitDefEqProofs only[wL,seval,g1,g3]
       refine er_ ?_
       try(with_reducible rfl)
       refine(List.all_eq_false.2 ⟨sy[k],List.getElem_mem hk,?_⟩).symm
       rw[h_];exact Bool.false_ne_true
     · refine⟨wk_,k+1,o_,?_⟩
       refine⟨?_,?_,?_,?_,?_⟩
       iterate 3 (focus(first|(simp -implicitDefEqProofs only[wL,wM,wN,wX,seval,Option.some.injEq,g1,g3,o0]<;>exact wt_)|rfl|exact⟨_,rfl⟩))
       all_goals try omega
       rw[ht2]
       intro x hx2
       rcases List.mem_append.1 hx2 with hx2|hx2
       · exact k1_1 x hx2
       · obtain rfl:=List.mem_singleton.1 hx2
         exact h_
   · repeat' with_reducible first
      |refine s_ ?_
      |simp -implicitDefEqProofs only[wZZ,seval,g1,g3,o0]
      |apply qa<;>intro h h_<;>(try simp only[wD,reduceCtorEq]at h_)<;>(try exact wb_)<;>(try simp only[h])
      |refine t_ ?_
     refine qD rfl (Or.inr rfl) ?_
     simp -implicitDefEqProofs only[wL,seval,g1,g3]
     refine er_ ?_
     try(with_reducible rfl)
     rw[List.take_of_length_le o_]at k1_1
     exact(List.all_eq_true.2 k1_1).symm

def Jv (q:UInt8):List UInt8→Int→Int
 |[],_=> -1
 |[c],i=>if c.toNat=10 then -1 else if c.toNat=q.toNat then i+1 else -1
 |c::d::r,i=>if c.toNat=10 then -1 else if c.toNat=q.toNat then i+1 else if c.toNat=92 then(if d.toNat=10 then -1 else Jv q r (i+2))else Jv q (d::r) (i+1)
theorem qcW (q c:UInt8) (r:List UInt8) (i:Int):Jv q (c::r) i=if c.toNat=10 then -1 else if c.toNat=q.toNat then i+1 else if c.toNat=92 then(if (r.headD 10).toNat=10 then -1 else Jv q r.tail (i+2))else Jv q r (i+1):=by
 cases r with
 |nil=>simp[Jv]
 |cons d r=>simp[Jv]
def Yf:List UInt8→Int→Int
 |[],_=> -1
 |c::r,i=>if c.toNat=96 then i+1 else Yf r (i+1)
def Yo:List UInt8→Int→Int
 |[],i=>i
 |c::r,i=>if c.toNat=10 then i else Yo r (i+1)
def JK (tx:List UInt8):Nat→Int→Int
 |0,_=> -1
 |n+1,i=>if j3 tx i [42,47]then i+2 else JK tx n (i+1)
def Vi (tx:List UInt8) (at_:Nat):Int:=
 let c:=tx.getD at_ 0
 if c.toNat=34∨c.toNat=39 then Jv c (tx.drop (at_+1)) (at_+1)else if c.toNat=96 then Yf (tx.drop (at_+1)) (at_+1)
 else if j3 tx at_ [47,47]then Yo (tx.drop at_) at_ else if j3 tx at_ [47,42]then JK tx (tx.length - (at_+2)) (at_+2)else at_
theorem jl {tx:List UInt8} {at_:Nat} (hs:tx.length≤1099511627776) (ha:at_<tx.length):Pure Tryz.prog 118 [.str tx,vi at_] (vi (Vi tx at_)):=by
 refine pure_intro Tryz.func118 nm_ qk9 (by show 2≤114;decide) ?_
 show ewp _ qel _ _
 have hg:tx.getD at_ 0=tx[at_]:=by simp[List.getD,ha]
 have he:Vi tx at_=if tx[at_].toNat=34∨tx[at_].toNat=39 then Jv tx[at_] (tx.drop (at_+1)) (at_+1)else if tx[at_].toNat=96 then Yf (tx.drop (at_+1)) (at_+1)
  else if j3 tx at_ [47,47]then Yo (tx.drop at_) at_ else if j3 tx at_ [47,42]then JK tx (tx.length - (at_+2)) (at_+2)else at_:=by unfold Vi;rw[hg]
 refine vU (fun s=>s.f 0=.str tx∧s.f 1=vi at_∧0≤s.next) ?_ ?_
 · repeat' with_reducible first
    |refine s_ ?_
    |simp -implicitDefEqProofs only[wZZ,seval]
   all_goals(refine⟨?_,?_,?_⟩)
   all_goals((try simp -implicitDefEqProofs only[wL,wM,wN,seval]);try(first|rfl|omega))
 intro s ⟨g0,g1,hnx⟩
 refine xM ?_
 refine xH ?_
 refine vU (fun s=>s.f 0=.str tx∧s.f 1=vi at_∧s.f 9=.bool (decide (tx[at_].toNat=34) || decide (tx[at_].toNat=39))∧0≤s.next) ?_ ?_
 · repeat' with_reducible first
    |refine s_ ?_
    |simp -implicitDefEqProofs only[wZZ,seval,g0,g1]
    |(first|apply qj|apply qx)<;>intro h h_<;>(try simp only[wD,reduceCtorEq]at h_)<;>(try exact wb_)<;>(try simp only[h])
    |refine t_ ?_
   all_goals(refine⟨?_,?_,?_,?_⟩)
   all_goals((try simp -implicitDefEqProofs only[wL,wM,wN,seval,g0,g1]);try(first|rfl|omega))
   all_goals(refine congrArg V.bool ?_;rw[Bool.eq_iff_iff];simp;omega)
 intro s ⟨g0,g1,g9,hnx⟩
 by_cases h1:tx[at_].toNat=34∨tx[at_].toNat=39
 · rw [if_pos h1]at he
   rw[he]
   generalize hR:Jv tx[at_] (tx.drop (at_+1)) ((at_:Int)+1)=R
   have hb:(decide (tx[at_].toNat=34) || decide (tx[at_].toNat=39))=true:=by simpa using h1
   repeat' with_reducible first
    |refine s_ ?_
    |simp -implicitDefEqProofs only[wZZ,seval,g0,g1,g9,hb]
    |simp -implicitDefEqProofs (disch:=omega) only[w64,if_neg]
   refine qb ?nx1 (fun(k:Nat) s=>s.f 0=?v1_0∧s.f 1=?v1_1∧s.f 5=vi k∧(k≤tx.length+1)∧(Jv tx[at_] (tx.drop k) k=R)) (fun k=>tx.length+1 - k) (at_+1) wj_ (by refine⟨?_,?_,?_,wo_,(by rw[← hR];rfl)⟩<;>first|(simp -implicitDefEqProofs only[wL,wM,wN,wX,seval,Option.some.injEq,g0,g1,g9]<;>exact wt_)|rfl|exact⟨_,rfl⟩) ?_
   intro k s hnx ⟨g0,g1,g5,k1_0,k1_1⟩
   by_cases hk:k<tx.length
   · have hd:tx.drop k=tx[k]::tx.drop (k+1):=List.drop_eq_getElem_cons hk
     have hz:=w1_ k
     rw[hd,qcW]at k1_1
     repeat' with_reducible first
      |refine s_ ?_
      |simp -implicitDefEqProofs only[wZZ,seval,g0,g1,g5,hz]
      |(first|apply qa|apply qj|apply qx)<;>intro h h_<;>(try simp only[wD,reduceCtorEq]at h_)<;>(try exact wb_)<;>(try simp only[h])
      |refine t_ ?_
      |simp -implicitDefEqProofs (disch:=omega) only[w64,if_neg]
     · refine qD rfl (Or.inr rfl) ?_
       simp -implicitDefEqProofs only[wL,seval,g0,g1,g5]
       refine er_ ?_
       try(with_reducible rfl)
       rw[← k1_1,if_neg o_,if_pos o_];rfl
     · refine qD rfl (Or.inr rfl) ?_
       simp -implicitDefEqProofs only[wL,seval,g0,g1,g5]
       refine er_ ?_
       try(with_reducible rfl)
       rw[← k1_1,if_neg o_,if_neg o_,if_pos o_,List.drop_eq_getElem_cons (show k+1<tx.length by omega),List.headD_cons,if_pos o_]
     · refine⟨wk_,k+2,o_,?_⟩
       refine⟨?_,?_,?_,?_,?_⟩
       iterate 3 (focus(first|(simp -implicitDefEqProofs only[wL,wM,wN,wX,seval,Option.some.injEq,g0,g1,g5]<;>exact wt_)|rfl|exact⟨_,rfl⟩))
       all_goals try omega
       rw[← k1_1,if_neg o_,if_neg o_,if_pos o_,List.drop_eq_getElem_cons (show k+1<tx.length by omega),List.headD_cons,if_neg o_];rfl
     · refine⟨wk_,k+2,o_,?_⟩
       refine⟨?_,?_,?_,?_,?_⟩
       iterate 3 (focus(first|(simp -implicitDefEqProofs only[wL,wM,wN,wX,seval,Option.some.injEq,g0,g1,g5]<;>exact wt_)|rfl|exact⟨_,rfl⟩))
       all_goals try omega
       rw[← k1_1,if_neg o_,if_neg o_,if_pos o_,List.drop_eq_nil_of_le (show tx.length≤k+1 by omega),List.drop_eq_nil_of_le (show tx.length≤k+2 by omega)];rfl
     · refine⟨wk_,k+1,o_,?_⟩
       refine⟨?_,?_,?_,?_,?_⟩
       iterate 3 (focus(first|(simp -implicitDefEqProofs only[wL,wM,wN,wX,seval,Option.some.injEq,g0,g1,g5]<;>exact wt_)|rfl|exact⟨_,rfl⟩))
       all_goals try omega
       rw[← k1_1,if_neg o_,if_neg o_,if_neg o_];rfl
     · refine qD rfl (Or.inr rfl) ?_
       simp -implicitDefEqProofs only[wL,seval,g0,g1,g5]
       refine er_ ?_
       try(with_reducible rfl)
       rw[← k1_1,if_pos o_]
   · rw[List.drop_eq_nil_of_le o_]at k1_1
     repeat' with_reducible first
      |refine s_ ?_
      |simp -implicitDefEqProofs only[wZZ,seval,g0,g1,g5]
      |(first|apply qj|apply qx)<;>intro h h_<;>(try simp only[wD,reduceCtorEq]at h_)<;>(try exact wb_)<;>(try simp only[h])
     refine qD rfl (Or.inr rfl) ?_
     simp -implicitDefEqProofs only[wL,seval,g0,g1,g5]
     refine er_ ?_
     try(with_reducible rfl)
     rw[← k1_1];rfl
 · skip
   rw[if_neg h1]at he
   have hb:(decide (tx[at_].toNat=34) || decide (tx[at_].toNat=39))=false:=by simpa using h1
   by_cases h2:tx[at_].toNat=96
   · rw [if_pos h2]at he
     rw[he]
     generalize hR:Yf (tx.drop (at_+1)) ((at_:Int)+1)=R
     repeat' with_reducible first
      |refine s_ ?_
      |simp -implicitDefEqProofs only[wZZ,seval,g0,g1,g9,hb]
      |apply qa<;>intro h h_<;>(try simp only[wD,reduceCtorEq]at h_)<;>(try exact wb_)<;>(try simp only[h])
      |refine t_ ?_
      |simp -implicitDefEqProofs (disch:=omega) only[w64,if_neg]
     refine qb ?nx2 (fun(k:Nat) s=>s.f 0=?v2_0∧s.f 6=vi k∧(k≤tx.length)∧(Yf (tx.drop k) k=R)) (fun k=>tx.length - k) (at_+1) wj_ (by refine⟨?_,?_,wo_,(by rw[← hR];rfl)⟩<;>first|(simp -implicitDefEqProofs only[wL,wM,wN,wX,seval,Option.some.injEq,g0,g1,g9]<;>exact wt_)|rfl|exact⟨_,rfl⟩) ?_
     intro k s hnx ⟨g0,g6,k2_0,k2_1⟩
     by_cases hk:k<tx.length
     · rw[List.drop_eq_getElem_cons hk,Yf]at k2_1
       repeat' with_reducible first
        |refine s_ ?_
        |simp -implicitDefEqProofs only[wZZ,seval,g0,g6]
        |apply qa<;>intro h h_<;>(try simp only[wD,reduceCtorEq]at h_)<;>(try exact wb_)<;>(try simp only[h])
        |refine t_ ?_
        |simp -implicitDefEqProofs (disch:=omega) only[w64,if_neg]
       · refine qD rfl (Or.inr rfl) ?_
         simp -implicitDefEqProofs only[wL,seval,g0,g6]
         refine er_ ?_
         try(with_reducible rfl)
         rw[← k2_1,if_pos o_];rfl
       · refine⟨wk_,k+1,o_,?_⟩
         refine⟨?_,?_,?_,?_⟩
         iterate 2 (focus(first|(simp -implicitDefEqProofs only[wL,wM,wN,wX,seval,Option.some.injEq,g0,g6]<;>exact wt_)|rfl|exact⟨_,rfl⟩))
         all_goals try omega
         rw[← k2_1,if_neg o_];rfl
     · rw[List.drop_eq_nil_of_le o_]at k2_1
       repeat' with_reducible first
        |refine s_ ?_
        |simp -implicitDefEqProofs only[wZZ,seval,g0,g6]
        |apply qa<;>intro h h_<;>(try simp only[wD,reduceCtorEq]at h_)<;>(try exact wb_)<;>(try simp only[h])
       refine qD rfl (Or.inr rfl) ?_
       simp -implicitDefEqProofs only[wL,seval,g0,g6]
       refine er_ ?_
       try(with_reducible rfl)
       rw[← k2_1];rfl
   · skip
     rw[if_neg h2]at he
     by_cases h3:j3 tx at_ [47,47]=true
     · rw [if_pos h3]at he
       rw[he]
       generalize hR:Yo (tx.drop at_) at_=R
       repeat' with_reducible first
        |refine s_ ?_
        |simp -implicitDefEqProofs only[wZZ,seval,g0,g1,g9,hb,h3]
        |apply qa<;>intro h h_<;>(try simp only[wD,reduceCtorEq]at h_)<;>(try exact wb_)<;>(try simp only[h])
        |refine t_ ?_
        |refine Qv we_ we_ we_ (jm wf_ wf_ wf_ wf_) ?_
       refine qb ?nx3 (fun(k:Nat) s=>s.f 0=?v3_0∧s.f 7=vi k∧(k≤tx.length)∧(Yo (tx.drop k) k=R)) (fun k=>tx.length - k) (at_) wj_ (by refine⟨?_,?_,wo_,(by rw[← hR])⟩<;>first|(simp -implicitDefEqProofs only[wL,wM,wN,wX,seval,Option.some.injEq,g0,g1,g9]<;>exact wt_)|rfl|exact⟨_,rfl⟩) ?_
       intro k s hnx ⟨g0,g7,k3_0,k3_1⟩
       by_cases hk:k<tx.length
       · rw[List.drop_eq_getElem_cons hk,Yo]at k3_1
         repeat' with_reducible first
          |refine s_ ?_
          |simp -implicitDefEqProofs only[wZZ,seval,g0,g7]
          |(first|apply qa|apply qj|apply qx)<;>intro h h_<;>(try simp only[wD,reduceCtorEq]at h_)<;>(try exact wb_)<;>(try simp only[h])
          |refine t_ ?_
          |simp -implicitDefEqProofs (disch:=omega) only[w64,if_neg]
         · refine⟨wk_,k+1,o_,?_⟩
           refine⟨?_,?_,?_,?_⟩
           iterate 2 (focus(first|(simp -implicitDefEqProofs only[wL,wM,wN,wX,seval,Option.some.injEq,g0,g7]<;>exact wt_)|rfl|exact⟨_,rfl⟩))
           all_goals try omega
           rw[← k3_1,if_neg o_];rfl
         · refine qD rfl (Or.inr rfl) ?_
           simp -implicitDefEqProofs only[wL,seval,g0,g7]
           refine er_ ?_
           try(with_reducible rfl)
           rw[← k3_1,if_pos o_]
       · rw[List.drop_eq_nil_of_le o_]at k3_1
         repeat' with_reducible first
          |refine s_ ?_
          |simp -implicitDefEqProofs only[wZZ,seval,g0,g7]
          |(first|apply qj|apply qx)<;>intro h h_<;>(try simp only[wD,reduceCtorEq]at h_)<;>(try exact wb_)<;>(try simp only[h])
         refine qD rfl (Or.inr rfl) ?_
         simp -implicitDefEqProofs only[wL,seval,g0,g7]
         refine er_ ?_
         try(with_reducible rfl)
         rw[← k3_1];rfl
     · skip
       rw[if_neg h3]at he
       have h3b:j3 tx at_ [47,47]=false:=by simpa using h3
       by_cases h4:j3 tx at_ [47,42]=true
       · rw [if_pos h4]at he
         rw[he]
         generalize hR:JK tx (tx.length - (at_+2)) ((at_:Int)+2)=R
         repeat' with_reducible first
          |refine s_ ?_
          |simp -implicitDefEqProofs only[wZZ,seval,g0,g1,g9,hb,h3b,h4]
          |apply qa<;>intro h h_<;>(try simp only[wD,reduceCtorEq]at h_)<;>(try exact wb_)<;>(try simp only[h])
          |refine t_ ?_
          |refine Qv we_ we_ we_ (jm wf_ wf_ wf_ wf_) ?_
          |simp -implicitDefEqProofs (disch:=omega) only[w64,if_neg]
         refine qb ?nx4 (fun(k:Nat) s=>s.f 0=?v4_0∧s.f 8=vi k∧(JK tx (tx.length - k) k=R)) (fun k=>tx.length - k) (at_+2) wj_ (by refine⟨?_,?_,(by rw[← hR];rfl)⟩<;>first|(simp -implicitDefEqProofs only[wL,wM,wN,wX,seval,Option.some.injEq,g0,g1,g9]<;>exact wt_)|rfl|exact⟨_,rfl⟩) ?_
         intro k s hnx ⟨g0,g8,k4_0⟩
         by_cases hk:k<tx.length
         · rw[show tx.length - k=(tx.length - (k+1))+1 by omega,JK]at k4_0
           repeat' with_reducible first
            |refine s_ ?_
            |simp -implicitDefEqProofs only[wZZ,seval,g0,g8]
            |apply qa<;>intro h h_<;>(try simp only[wD,reduceCtorEq]at h_)<;>(try exact wb_)<;>(try simp only[h])
            |refine Qv we_ we_ we_ (jm wf_ wf_ wf_ wf_) ?_
            |simp -implicitDefEqProofs (disch:=omega) only[w64,if_neg]
           · refine qD rfl (Or.inr rfl) ?_
             simp -implicitDefEqProofs only[wL,seval,g0,g8]
             refine er_ ?_
             try(with_reducible rfl)
             rw[← k4_0,if_pos (by assumption)]
           · refine⟨wk_,k+1,o_,?_⟩
             refine⟨?_,?_,?_⟩
             iterate 2 (focus(first|(simp -implicitDefEqProofs only[wL,wM,wN,wX,seval,Option.some.injEq,g0,g8]<;>exact wt_)|rfl|exact⟨_,rfl⟩))
             all_goals try omega
             rw[← k4_0,if_neg (by simp_all)];rfl
         · rw[show tx.length - k=0 by omega,JK]at k4_0
           repeat' with_reducible first
            |refine s_ ?_
            |simp -implicitDefEqProofs only[wZZ,seval,g0,g8]
            |apply qa<;>intro h h_<;>(try simp only[wD,reduceCtorEq]at h_)<;>(try exact wb_)<;>(try simp only[h])
           refine qD rfl (Or.inr rfl) ?_
           simp -implicitDefEqProofs only[wL,seval,g0,g8]
           refine er_ ?_
           try(with_reducible rfl)
           exact k4_0
       · skip
         rw[if_neg h4]at he
         have h4b:j3 tx at_ [47,42]=false:=by simpa using h4
         rw[he]
         repeat' with_reducible first
          |refine s_ ?_
          |simp -implicitDefEqProofs only[wZZ,seval,g0,g1,g9,hb,h3b,h4b]
          |apply qa<;>intro h h_<;>(try simp only[wD,reduceCtorEq]at h_)<;>(try exact wb_)<;>(try simp only[h])
          |refine t_ ?_
          |refine Qv we_ we_ we_ (jm wf_ wf_ wf_ wf_) ?_
         refine qD rfl (Or.inr rfl) ?_
         simp -implicitDefEqProofs only[wL,seval,g0,g1,g9]
         refine er_ ?_
         try(with_reducible rfl)

theorem qf2 {l:List UInt8} {k:Nat} (h:k<l.length):l.getD k 0=l[k]:=by simp[List.getD,h]
def endGo (tx:List UInt8):Nat→Int→Int→Int
 |0,_,_=> -1
 | n+1,i,d=>if i<tx.length then
  (if Vi tx i.toNat<0 then -1 else if i<Vi tx i.toNat then endGo tx n (Vi tx i.toNat) d
   else if d+(if (tx.getD i.toNat 0).toNat=123 then 1 else 0) - (if (tx.getD i.toNat 0).toNat=125 then 1 else 0)=0 then i+1
   else endGo tx n (i+1) (d+(if (tx.getD i.toNat 0).toNat=123 then 1 else 0) - (if (tx.getD i.toNat 0).toNat=125 then 1 else 0)))
   else -1
def qET (tx:List UInt8):Int:=if (tx.headD 0).toNat=123 then endGo tx (tx.length+1) 0 0 else -1
theorem Vg {tx : List UInt8} (hs:tx.length≤1099511627776):Pure Tryz.prog 101 [.str tx,vi 0] (vi (qET tx)):=by
 refine pure_intro Tryz.func101 nm_ qmN (by show 2≤53;decide) ?_
 show ewp _ qdT _ _
 by_cases h0:tx=[]
 · subst h0
   repeat' with_reducible first
    |refine s_ ?_
    |simp -implicitDefEqProofs only[wZZ,seval]
   refine qD rfl (Or.inr rfl) ?_
   simp -implicitDefEqProofs only[wL,seval]
   refine er_ ?_
   try(with_reducible rfl)
   rfl
 · have hl : 0 < tx.length:=List.length_pos_iff.2 h0
   have hh:tx.headD 0=tx[0]:=by cases tx with|nil=>exact absurd rfl h0|cons a r=>rfl
   have he:qET tx=if tx[0].toNat=123 then endGo tx (tx.length+1) 0 0 else -1:=by unfold qET;rw[hh]
   rw[he]
   by_cases hc:tx[0].toNat=123
   · rw [if_pos hc]
     generalize hR:endGo tx (tx.length+1) 0 0=R
     repeat' with_reducible first
      |refine s_ ?_
      |simp -implicitDefEqProofs only[wZZ,seval]
      |(first|apply qa|apply qj|apply qx)<;>intro h h_<;>(try simp only[wD,reduceCtorEq]at h_)<;>(try exact wb_)<;>(try simp only[h])
      |refine t_ ?_
     refine qb ?nx1 (fun(p:Nat×Int) s=>s.f 0=?v1_0∧s.f 5=vi p.2∧s.f 6=vi p.1∧((-(p.1:Int)≤p.2∧p.2≤p.1))∧((∃n,tx.length<p.1+n∧endGo tx n p.1 p.2=R))) (fun p=>tx.length - p.1) ((0,0)) wj_ (by refine⟨?_,?_,?_,wo_,(by exact⟨tx.length+1,o_,hR⟩)⟩<;>first|(simp -implicitDefEqProofs only[wL,wM,wN,wX,seval,Option.some.injEq]<;>exact wt_)|rfl|exact⟨_,rfl⟩) ?_
     intro p s hnx ⟨g0,g5,g6,k1_0,k1_1⟩
     obtain ⟨i,d⟩:=p
     dsimp only at *
     obtain ⟨n,hn,hg⟩:=k1_1
     by_cases hi:i<tx.length
     · obtain ⟨n,rfl⟩: ∃m,n=m+1:=⟨n - 1,o_⟩
       rw[endGo,if_pos o_,Int.toNat_natCast,qf2 hi]at hg
       by_cases hneg:Vi tx i<0
       · rw[if_pos hneg]at hg
         repeat' with_reducible first
          |refine s_ ?_
          |simp -implicitDefEqProofs only[wZZ,seval,g0,g5,g6]
          |apply qa<;>intro h h_<;>(try simp only[wD,reduceCtorEq]at h_)<;>(try exact wb_)<;>(try simp only[h])
          |refine xA we_ we_ (jl wf_ wf_) ?_
         refine qD rfl (Or.inr rfl) ?_
         simp -implicitDefEqProofs only[wL,seval,g0,g5,g6]
         refine er_ ?_
         try(with_reducible rfl)
         exact hg
       · rw [if_neg hneg]at hg
         obtain ⟨m,hm⟩: ∃m:Nat,Vi tx i=m:=⟨(Vi tx i).toNat,o_⟩
         rw[hm]at hg
         by_cases hgt:(i:Int)<m
         · rw[if_pos hgt]at hg
           repeat' with_reducible first
            |refine s_ ?_
            |simp -implicitDefEqProofs only[wZZ,seval,g0,g5,g6,hm]
            |apply qa<;>intro h h_<;>(try simp only[wD,reduceCtorEq]at h_)<;>(try exact wb_)<;>(try simp only[h])
            |refine xA we_ we_ (jl wf_ wf_) ?_
           refine⟨wk_,(m,d),o_,?_⟩
           refine⟨?_,?_,?_,?_,?_⟩
           iterate 3 (focus(first|(simp -implicitDefEqProofs only[wL,wM,wN,wX,seval,Option.some.injEq,g0,g5,g6]<;>exact wt_)|rfl|exact⟨_,rfl⟩))
           all_goals try omega
           exact⟨n,o_,hg⟩
         · rw [if_neg hgt]at hg
           by_cases h1:tx[i].toNat=123
           · have h2: ¬ tx[i].toNat=125:=o_
             have hz:IntKind.i64.wrap (d+1)=d+1:=wrap64 o_ o_
             rw[if_pos h1,if_neg h2]at hg
             repeat' with_reducible first
              |refine s_ ?_
              |simp -implicitDefEqProofs only[wZZ,seval,g0,g5,g6,hm,hz]
              |apply qa<;>intro h h_<;>(try simp only[wD,reduceCtorEq]at h_)<;>(try exact wb_)<;>(try simp only[h])
              |refine t_ ?_
              |refine xA we_ we_ (jl wf_ wf_) ?_
              |simp -implicitDefEqProofs (disch:=omega) only[w64,if_neg]
             · refine qD rfl (Or.inr rfl) ?_
               simp -implicitDefEqProofs only[wL,seval,g0,g5,g6]
               refine er_ ?_
               try(with_reducible rfl)
               rw[← hg,if_pos o_];rfl
             · refine⟨wk_,(i+1,d+1),o_,?_⟩
               refine⟨?_,?_,?_,?_,?_⟩
               iterate 3 (focus(first|(simp -implicitDefEqProofs only[wL,wM,wN,wX,seval,Option.some.injEq,g0,g5,g6]<;>exact wt_)|rfl|exact⟨_,rfl⟩))
               all_goals try omega
               exact⟨n,o_,by rw[← hg,if_neg o_,Int.sub_zero];rfl⟩
           · by_cases h2:tx[i].toNat=125
             · have hz:IntKind.i64.wrap (d - 1)=d - 1:=wrap64 o_ o_
               rw[if_neg h1,if_pos h2,Int.add_zero]at hg
               repeat' with_reducible first
                |refine s_ ?_
                |simp -implicitDefEqProofs only[wZZ,seval,g0,g5,g6,hm,hz]
                |apply qa<;>intro h h_<;>(try simp only[wD,reduceCtorEq]at h_)<;>(try exact wb_)<;>(try simp only[h])
                |refine t_ ?_
                |refine xA we_ we_ (jl wf_ wf_) ?_
                |simp -implicitDefEqProofs (disch:=omega) only[w64,if_neg]
               · refine qD rfl (Or.inr rfl) ?_
                 simp -implicitDefEqProofs only[wL,seval,g0,g5,g6]
                 refine er_ ?_
                 try(with_reducible rfl)
                 rw[← hg,if_pos o_];rfl
               · refine⟨wk_,(i+1,d - 1),o_,?_⟩
                 refine⟨?_,?_,?_,?_,?_⟩
                 iterate 3 (focus(first|(simp -implicitDefEqProofs only[wL,wM,wN,wX,seval,Option.some.injEq,g0,g5,g6]<;>exact wt_)|rfl|exact⟨_,rfl⟩))
                 all_goals try omega
                 exact⟨n,o_,by rw[← hg,if_neg o_];rfl⟩
             · rw[if_neg h1,if_neg h2,Int.add_zero,Int.sub_zero]at hg
               repeat' with_reducible first
                |refine s_ ?_
                |simp -implicitDefEqProofs only[wZZ,seval,g0,g5,g6,hm]
                |apply qa<;>intro h h_<;>(try simp only[wD,reduceCtorEq]at h_)<;>(try exact wb_)<;>(try simp only[h])
                |refine t_ ?_
                |refine xA we_ we_ (jl wf_ wf_) ?_
                |simp -implicitDefEqProofs (disch:=omega) only[w64,if_neg]
               · refine qD rfl (Or.inr rfl) ?_
                 simp -implicitDefEqProofs only[wL,seval,g0,g5,g6]
                 refine er_ ?_
                 try(with_reducible rfl)
                 rw[← hg,if_pos o_];rfl
               · refine⟨wk_,(i+1,d),o_,?_⟩
                 refine⟨?_,?_,?_,?_,?_⟩
                 iterate 3 (focus(first|(simp -implicitDefEqProofs only[wL,wM,wN,wX,seval,Option.some.injEq,g0,g5,g6]<;>exact wt_)|rfl|exact⟨_,rfl⟩))
                 all_goals try omega
                 exact⟨n,o_,by rw[← hg,if_neg o_];rfl⟩
     · have hR2:R= -1:=by
        rw[← hg];cases n with
        |zero=>rfl
        |succ n=>rw[endGo,if_neg o_]
       repeat' with_reducible first
        |refine s_ ?_
        |simp -implicitDefEqProofs only[wZZ,seval,g0,g5,g6]
        |apply qa<;>intro h h_<;>(try simp only[wD,reduceCtorEq]at h_)<;>(try exact wb_)<;>(try simp only[h])
       refine qD rfl (Or.inr rfl) ?_
       simp -implicitDefEqProofs only[wL,seval,g0,g5,g6]
       refine er_ ?_
       try(with_reducible rfl)
       exact hR2.symm
   · skip
     rw[if_neg hc]
     repeat' with_reducible first
      |refine s_ ?_
      |simp -implicitDefEqProofs only[wZZ,seval]
      |(first|apply qa|apply qj|apply qx)<;>intro h h_<;>(try simp only[wD,reduceCtorEq]at h_)<;>(try exact wb_)<;>(try simp only[h])
      |refine t_ ?_
     refine qD rfl (Or.inr rfl) ?_
     simp -implicitDefEqProofs only[wL,seval]
     refine er_ ?_
     try(with_reducible rfl)

def JI (p:Part):Bool:=if p.code=[]then qcA p.sym false true else p.sym.none && decide (qET p.code=p.code.length)
def qdb (a:Alt):Bool:=a.parts.all JI && (a.prec.none || qcA a.prec false true)
def Part.Fits (p:Part):Prop:=p.sym.name.length≤1099511627776∧p.code.length≤1099511627776
def Alt.Fits (a:Alt):Prop:=a.parts.length≤1099511627776∧(∀p∈a.parts,p.Fits)∧a.prec.name.length≤1099511627776
theorem Jb {a:Alt} (hf:a.Fits):Pure Tryz.prog 87 [a.V] (.bool (qdb a)):=by
 refine pure_intro Tryz.func87 nm_ qrt (by show 1≤54;decide) ?_
 show ewp _ qhj _ _
 obtain ⟨hl,hp,hn⟩:=hf
 obtain ⟨ps,pc,at_⟩:=a
 dsimp only at hl hp hn
 repeat' with_reducible first
  |refine s_ ?_
  |simp -implicitDefEqProofs only[wZZ,seval]
  |refine t_ ?_
 refine qb ?nx1 (fun(k:Nat) s=>s.f 1=?v1_1∧s.H 0=?o1_0∧s.f 3=vi k∧(k≤ps.length)∧(∀x∈ps.take k,JI x=true)) (fun k=>ps.length - k) (0) wj_ (by refine⟨?_,?_,?_,wo_,wo_⟩<;>first|(simp -implicitDefEqProofs only[wL,wM,wN,wX,seval,Option.some.injEq]<;>exact wt_)|rfl|exact⟨_,rfl⟩) ?_
 intro k s hnx ⟨g1,o0,g3,k1_0,k1_1⟩
 by_cases hk:k<ps.length
 · have hx:=hp ps[k] (List.getElem_mem hk)
   have ht2:ps.take (k+1)=ps.take k++[ps[k]]:=by rw[List.take_add_one,ge_ hk];rfl
   have hbad:JI ps[k]=false→qdb ⟨ps,pc,at_⟩=false:=fun h=>by
    unfold qdb;rw[List.all_eq_false.2 ⟨ps[k],List.getElem_mem hk,by rw[h];exact Bool.false_ne_true⟩];rfl
   have hgood:JI ps[k]=true→ ∀x∈ps.take (k+1),JI x=true:=fun h x hx2=>by
    rw[ht2]at hx2
    rcases List.mem_append.1 hx2 with hx2|hx2
    · exact k1_1 x hx2
    · obtain rfl:=List.mem_singleton.1 hx2
      exact h
   obtain ⟨hx1,hx2⟩:=hx
   repeat' with_reducible first
    |refine s_ ?_
    |simp -implicitDefEqProofs only[wZZ,seval,g1,g3,o0]
    |(first|apply qa|apply qj|apply qx)<;>intro h h_<;>(try simp only[wD,reduceCtorEq]at h_)<;>(try exact wb_)<;>(try simp only[h])
    |refine t_ ?_
    |apply jZ;exact wu_;exact wu_;(focus((try simp -implicitDefEqProofs only[wE,Nat.reduceAdd]);rfl))
    |refine Qv we_ we_ we_ (xq wf_) ?_
    |refine cq1 Qq we_ ?_
    |refine xA we_ we_ (Vg wf_) ?_
    |simp -implicitDefEqProofs (disch:=omega) only[w64,if_neg]
   · refine⟨wk_,k+1,o_,?_⟩
     refine⟨?_,?_,?_,?_,?_⟩
     iterate 3 (focus(first|(simp -implicitDefEqProofs only[wL,wM,wN,wX,seval,Option.some.injEq,g1,g3,o0]<;>exact wt_)|rfl|exact⟨_,rfl⟩))
     all_goals try omega
     exact hgood (by simp_all [JI,Sym.none])
   · refine qD rfl (Or.inr rfl) ?_
     simp -implicitDefEqProofs only[wL,seval,g1,g3]
     refine er_ ?_
     try(with_reducible rfl)
     exact(hbad (by simp_all [JI,Sym.none])).symm
   · refine qD rfl (Or.inr rfl) ?_
     simp -implicitDefEqProofs only[wL,seval,g1,g3]
     refine er_ ?_
     try(with_reducible rfl)
     exact(hbad (by simp_all [JI,Sym.none])).symm
   · refine⟨wk_,k+1,o_,?_⟩
     refine⟨?_,?_,?_,?_,?_⟩
     iterate 3 (focus(first|(simp -implicitDefEqProofs only[wL,wM,wN,wX,seval,Option.some.injEq,g1,g3,o0]<;>exact wt_)|rfl|exact⟨_,rfl⟩))
     all_goals try omega
     exact hgood (by simp_all [JI,Sym.none])
   · refine qD rfl (Or.inr rfl) ?_
     simp -implicitDefEqProofs only[wL,seval,g1,g3]
     refine er_ ?_
     try(with_reducible rfl)
     exact(hbad (by simp_all [JI,Sym.none])).symm
 · rw[List.take_of_length_le o_]at k1_1
   have e:qdb ⟨ps,pc,at_⟩=(pc.none || qcA pc false true):=by unfold qdb;rw[List.all_eq_true.2 k1_1];rfl
   rw[e]
   repeat' with_reducible first
    |refine s_ ?_
    |simp -implicitDefEqProofs only[wZZ,seval,g1,g3,o0]
    |(first|apply qa|apply qj|apply qx)<;>intro h h_<;>(try simp only[wD,reduceCtorEq]at h_)<;>(try exact wb_)<;>(try simp only[h])
    |apply jZ;exact wu_;exact wu_;(focus((try simp -implicitDefEqProofs only[wE,Nat.reduceAdd]);rfl))
    |refine t_ ?_
    |refine Qv we_ we_ we_ (xq wf_) ?_
    |refine cq1 Qq we_ ?_
   all_goals refine qD rfl (Or.inr rfl) ?_
   all_goals(try simp -implicitDefEqProofs only[wL,seval,g1,g3])
   all_goals refine er_ ?_
   all_goals(try(with_reducible rfl))
   all_goals simp_all
def qnl:List UInt8→Bool
 |[]=>false
 |[_]=>false
 |a::b::r=>(decide (a=37) && decide (b=125)) || qnl (b::r)
def YQ (r:Rule):Bool:=qav r.left && !decide (r.alts=[]) && r.alts.all qdb
def xQ (x:Source):Bool:= !qnl x.pro && x.decls.all XE && x.rules.all YQ && !decide (x.rules=[])
def Decl.Fits (d:Decl):Prop:=d.tag.length≤1099511627776∧d.syms.length≤1099511627776∧ ∀x∈d.syms,x.name.length≤1099511627776
def Rule.Fits (r:Rule):Prop:=r.left.length≤1099511627776∧r.alts.length≤1099511627776∧ ∀a∈r.alts,a.Fits
def Source.Fits (x:Source):Prop:=x.pro.length≤1099511627776∧x.tail.length≤1099511627776∧x.decls.length≤1099511627776∧(∀d∈x.decls,d.Fits)∧x.rules.length≤1099511627776∧ ∀r∈x.rules,r.Fits
theorem Y3 {α:Type} {p:α→Bool} {l:List α} {k:Nat} (hk:k<l.length) (h: ∀x∈l.take k,p x=true) (hx:p l[k]=true): ∀x∈l.take (k+1),p x=true:=by
 rw[List.take_add_one,ge_ hk]
 intro x h2
 rcases List.mem_append.1 h2 with h2|h2
 · exact h x h2
 · obtain rfl:=List.mem_singleton.1 h2
   exact hx
theorem qaA {α:Type} {p:α→Bool} {l:List α} {k:Nat} (hk:k<l.length) (hx:p l[k]=false):l.all p=false:=
 List.all_eq_false.2 ⟨l[k],List.getElem_mem hk,by rw[hx];exact Bool.false_ne_true⟩
theorem qeo (a b:UInt8) (r:List UInt8):qnl (a::b::r)=((decide (a=37) && decide (b=125)) || qnl (b::r)):=rfl
theorem Zd {x:Source} (hf:x.Fits):Pure Tryz.prog 63 [x.V] (.bool (xQ x)):=by
 refine pure_intro Tryz.func63 nm_ qpY (by show 1≤77;decide) ?_
 show ewp _ qib _ _
 obtain ⟨hp,ht,hdl,hd,hrl,hr⟩:=hf
 obtain ⟨pro,ds,rs,tl⟩:=x
 dsimp only at hp ht hdl hd hrl hr
 repeat' with_reducible first
  |refine s_ ?_
  |simp -implicitDefEqProofs only[wZZ,seval]
  |refine t_ ?_
 refine qb ?nx1 (fun(k:Nat) s=>s.f 1=?v1_1∧s.H 0=?o1_0∧s.f 3=vi k∧(k≤pro.length)∧(qnl (pro.drop k)=qnl pro)) (fun k=>pro.length - k) (0) wj_ (by refine⟨?_,?_,?_,wo_,wo_⟩<;>first|(simp -implicitDefEqProofs only[wL,wM,wN,wX,seval,Option.some.injEq]<;>exact wt_)|rfl|exact⟨_,rfl⟩) ?_
 intro k s hnx ⟨g1,o0,g3,k1_0,k1_1⟩
 by_cases hk:k+1<pro.length
 · have hz:=w1_ k
   have hz2:IntKind.i64.wrap ((k:Int)+2)=(k:Int)+2:=wrap64 o_ o_
   have e1:pro.drop k=pro[k]::pro[k+1]::pro.drop (k+2):=by rw[List.drop_eq_getElem_cons o_,List.drop_eq_getElem_cons hk]
   have e2:pro.drop (k+1)=pro[k+1]::pro.drop (k+2):=by rw[List.drop_eq_getElem_cons hk]
   have e3:(pro.take (k+2)).drop k=[pro[k],pro[k+1]]:=by
    rw[List.drop_take,e1,show k+2 - k=2 by omega];rfl
   have e4:((pro.take ((k:Int)+2).toNat).drop k)=[pro[k],pro[k+1]]:=by
    rw[show ((k:Int)+2).toNat=k+2 by omega,e3]
   rw[e1,qeo,← e2]at k1_1
   repeat' with_reducible first
    |refine s_ ?_
    |simp -implicitDefEqProofs only[wZZ,seval,g1,g3,o0,hz,hz2]
    |apply qa<;>intro h h_<;>(try simp only[wD,reduceCtorEq]at h_)<;>(try exact wb_)<;>(try simp only[h])
    |apply qbM;omega;omega;omega
    |refine t_ ?_
   · refine qD rfl (Or.inr rfl) ?_
     simp -implicitDefEqProofs only[wL,seval,g1,g3]
     refine er_ ?_
     try(with_reducible rfl)
     rw[e4]at h_
     simp at h_
     simp[h_.1,h_.2]at k1_1
     simp[xQ,k1_1]
   · refine⟨wk_,k+1,o_,?_⟩
     refine⟨?_,?_,?_,?_,?_⟩
     iterate 3 (focus(first|(simp -implicitDefEqProofs only[wL,wM,wN,wX,seval,Option.some.injEq,g1,g3,o0]<;>exact wt_)|rfl|exact⟨_,rfl⟩))
     all_goals try omega
     rw[e4]at h_
     simp at h_
     rw[← k1_1]
     by_cases h37:pro[k]=37
     · simp[h_ h37]
     · simp[h37]
 · have hpc :qnl pro=false:=by
    rw[← k1_1]
    by_cases hk2:k<pro.length
    · rw[List.drop_eq_getElem_cons hk2,List.drop_eq_nil_of_le o_];rfl
    · rw[List.drop_eq_nil_of_le o_];rfl
   have hz:=w1_ k
   repeat' with_reducible first
    |refine s_ ?_
    |simp -implicitDefEqProofs only[wZZ,seval,g1,g3,o0,hz]
    |apply qa<;>intro h h_<;>(try simp only[wD,reduceCtorEq]at h_)<;>(try exact wb_)<;>(try simp only[h])
    |refine t_ ?_
   refine qb ?nx2 (fun(k:Nat) s=>s.f 1=?v2_1∧s.H 0=?o2_0∧s.f 4=vi k∧(k≤ds.length)∧(∀x∈ds.take k,XE x=true)) (fun k=>ds.length - k) (0) wj_ (by refine⟨?_,?_,?_,wo_,wo_⟩<;>first|(simp -implicitDefEqProofs only[wL,wM,wN,wX,seval,Option.some.injEq,g1,g3,o0]<;>exact wt_)|rfl|exact⟨_,rfl⟩) ?_
   intro k s hnx ⟨g1,o0,g4,k2_0,k2_1⟩
   by_cases hk:k<ds.length
   · obtain ⟨hx1,hx2,hx3⟩:=hd ds[k] (List.getElem_mem hk)
     repeat' with_reducible first
      |refine s_ ?_
      |simp -implicitDefEqProofs only[wZZ,seval,g1,g4,o0]
      |apply qa<;>intro h h_<;>(try simp only[wD,reduceCtorEq]at h_)<;>(try exact wb_)<;>(try simp only[h])
      |refine t_ ?_
      |refine kz we_ (Zx wf_ wf_ wf_) ?_
      |simp -implicitDefEqProofs (disch:=omega) only[w64,if_neg]
     · refine qD rfl (Or.inr rfl) ?_
       simp -implicitDefEqProofs only[wL,seval,g1,g4]
       refine er_ ?_
       try(with_reducible rfl)
       have:=qaA hk (p:=XE) (by simpa using h_)
       simp[xQ,this]
     · refine⟨wk_,k+1,o_,?_⟩
       refine⟨?_,?_,?_,?_,?_⟩
       iterate 3 (focus(first|(simp -implicitDefEqProofs only[wL,wM,wN,wX,seval,Option.some.injEq,g1,g4,o0]<;>exact wt_)|rfl|exact⟨_,rfl⟩))
       all_goals try omega
       exact Y3 hk k2_1 (by simpa using h_)
   · rw [List.take_of_length_le o_]at k2_1
     repeat' with_reducible first
      |refine s_ ?_
      |simp -implicitDefEqProofs only[wZZ,seval,g1,g4,o0]
      |apply qa<;>intro h h_<;>(try simp only[wD,reduceCtorEq]at h_)<;>(try exact wb_)<;>(try simp only[h])
      |refine t_ ?_
     refine qb ?nx3 (fun(k:Nat) s=>s.f 1=?v3_1∧s.H 0=?o3_0∧s.f 5=vi k∧(k≤rs.length)∧(∀x∈rs.take k,YQ x=true)) (fun k=>rs.length - k) (0) wj_ (by refine⟨?_,?_,?_,wo_,wo_⟩<;>first|(simp -implicitDefEqProofs only[wL,wM,wN,wX,seval,Option.some.injEq,g1,g4,o0]<;>exact wt_)|rfl|exact⟨_,rfl⟩) ?_
     intro k s hnx ⟨g1,o0,g5,k3_0,k3_1⟩
     by_cases hk:k<rs.length
     · obtain ⟨hx1,hx2,hx3⟩:=hr rs[k] (List.getElem_mem hk)
       obtain ⟨n0,hn0⟩: ∃n0,n0=s.next:=⟨_,rfl⟩
       have hbad:YQ rs[k]=false→xQ ⟨pro,ds,rs,tl⟩=false:=fun h=>by
        simp[xQ,qaA hk h]
       repeat' with_reducible first
        |refine s_ ?_
        |simp -implicitDefEqProofs only[wZZ,seval,g1,g5,o0]
        |(first|apply qa|apply qj|apply qx)<;>intro h h_<;>(try simp only[wD,reduceCtorEq]at h_)<;>(try exact wb_)<;>(try simp only[h])
        |refine t_ ?_
        |refine kz we_ (yh wf_) ?_
       · refine qD rfl (Or.inr rfl) ?_
         simp -implicitDefEqProofs only[wL,seval,g1,g5]
         refine er_ ?_
         try(with_reducible rfl)
         refine(hbad ?_).symm
         have:rs[k].alts=[]:=List.length_eq_zero_iff.1 o_
         simp[YQ,this]
       · rw [← hn0]
         refine qb ?nx4 (fun(j:Nat) s=>s.f 1=?v4_1∧s.f 5=?v4_5∧s.f 6=?v4_6∧s.H 0=?o4_0∧s.H (n0+5+5)=?o4_1∧s.f 7=vi j∧(j≤rs[k].alts.length)∧(∀x∈rs[k].alts.take j,qdb x=true)) (fun j=>rs[k].alts.length - j) (0) wj_ (by refine⟨?_,?_,?_,?_,?_,?_,wo_,wo_⟩<;>first|(simp -implicitDefEqProofs only[wL,wM,wN,wX,seval,Option.some.injEq,g1,g5,o0]<;>exact wt_)|rfl|exact⟨_,rfl⟩) ?_
         intro j s hnx ⟨g1,g5,g6,o0,o1,g7,k4_0,k4_1⟩
         by_cases hj:j<rs[k].alts.length
         · have hx4:=hx3 rs[k].alts[j] (List.getElem_mem hj)
           repeat' with_reducible first
            |refine s_ ?_
            |simp -implicitDefEqProofs only[wZZ,seval,g1,g5,g6,g7,o0,o1]
            |apply qa<;>intro h h_<;>(try simp only[wD,reduceCtorEq]at h_)<;>(try exact wb_)<;>(try simp only[h])
            |refine t_ ?_
            |refine kz we_ (Jb wf_) ?_
            |simp -implicitDefEqProofs (disch:=omega) only[w64,if_neg]
           · refine qD rfl (Or.inr rfl) ?_
             simp -implicitDefEqProofs only[wL,seval,g1,g5,g6,g7]
             refine er_ ?_
             try(with_reducible rfl)
             refine(hbad ?_).symm
             have:=qaA hj (p:=qdb) (by simpa using h_)
             simp[YQ,this]
           · refine⟨wk_,j+1,o_,?_⟩
             refine⟨?_,?_,?_,?_,?_,?_,?_,?_⟩
             iterate 6 (focus(first|(simp -implicitDefEqProofs only[wL,wM,wN,wX,seval,Option.some.injEq,g1,g5,g6,g7,o0,o1]<;>exact wt_)|rfl|exact⟨_,rfl⟩))
             all_goals try omega
             exact Y3 hj k4_1 (by simpa using h_)
         · rw[List.take_of_length_le o_]at k4_1
           repeat' with_reducible first
            |refine s_ ?_
            |simp -implicitDefEqProofs only[wZZ,seval,g1,g5,g6,g7,o0,o1]
            |apply qa<;>intro h h_<;>(try simp only[wD,reduceCtorEq]at h_)<;>(try exact wb_)<;>(try simp only[h])
            |refine t_ ?_
            |simp -implicitDefEqProofs (disch:=omega) only[w64,if_neg]
           refine⟨wk_,k+1,o_,?_⟩
           refine⟨?_,?_,?_,?_,?_⟩
           iterate 3 (focus(first|(simp -implicitDefEqProofs only[wL,wM,wN,wX,seval,Option.some.injEq,g1,g5,g6,g7,o0,o1]<;>exact wt_)|rfl|exact⟨_,rfl⟩))
           all_goals try omega
           refine Y3 hk k3_1 ?_
           have e1:rs[k].alts.all qdb=true:=List.all_eq_true.2 k4_1
           have e0: ¬ (rs[k].alts.length:Int)=0:=by assumption
           have e2: ¬ rs[k].alts=[]:=fun e=>by rw[e]at e0;exact e0 rfl
           have e3:qav rs[k].left=true:=by assumption
           simp[YQ,e1,e2,e3]
       · skip
         refine qD rfl (Or.inr rfl) ?_
         simp -implicitDefEqProofs only[wL,seval,g1,g5]
         refine er_ ?_
         try(with_reducible rfl)
         refine(hbad ?_).symm
         have:qav rs[k].left=false:=by simpa using h_
         simp[YQ,this]
     · rw[List.take_of_length_le o_]at k3_1
       repeat' with_reducible first
        |refine s_ ?_
        |simp -implicitDefEqProofs only[wZZ,seval,g1,g5,o0]
        |apply qa<;>intro h h_<;>(try simp only[wD,reduceCtorEq]at h_)<;>(try exact wb_)<;>(try simp only[h])
        |refine t_ ?_
       refine qD rfl (Or.inr rfl) ?_
       simp -implicitDefEqProofs only[wL,seval,g1,g5]
       refine er_ ?_
       try(with_reducible rfl)
       have e1:ds.all XE=true:=List.all_eq_true.2 k2_1
       have e2:rs.all YQ=true:=List.all_eq_true.2 k3_1
       by_cases e3:rs=[]
       · subst e3;simp[xQ]
       · have:0<rs.length:=List.length_pos_iff.2 e3
         simp[xQ,hpc,e1,e2,e3]
         omega
end Go.Proofs
