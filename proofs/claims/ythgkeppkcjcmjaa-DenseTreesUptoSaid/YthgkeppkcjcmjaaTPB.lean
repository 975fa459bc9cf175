/- Part of a proof that a law of the given program answers true. -/
import Derived.Test.YthgkeppkcjcmjaaTCA
import Derived.Test.YthgkeppkcjcmjaaTEC
set_option linter.unusedSimpArgs false
set_option linter.unusedVariables false
namespace Go.Proofs
open Go.E
theorem j5 {a:List Int} {x:Int} (ha:a.length≤4611686018427387903):Pure Try.prog 34 [ints a,vi x] (.bool (decide (x∈a))):=by
 refine pure_intro Try.func34 nm_ qC0 (by show 2≤18;decide) ?_
 show ewp _ qjB _ _
 repeat' with_reducible first
  |refine s_ ?_
  |simp only[wZZ,seval]
 refine qb ?nx1 (fun(k:Nat) s=>s.f 0=?v1_0∧s.f 1=?v1_1∧s.f 5=vi k∧(k≤a.length)∧(x ∉ a.take k)) (fun k=>a.length - k) (0) wj_ (by refine⟨?_,?_,?_,wo_,wo_⟩<;>first|(simp only[wL,wM,wN,wX,seval,Option.some.injEq]<;>exact wt_)|rfl|exact⟨_,rfl⟩) ?_
 intro k s hnx ⟨g0,g1,g5,k1_0,k1_1⟩
 repeat' with_reducible first
  |refine s_ ?_
  |simp only[wZZ,seval,g0,g1,g5]
  |apply qa<;>intro h h_<;>(try simp only[wD,reduceCtorEq]at h_)<;>(try exact wb_)<;>(try simp only[h])
  |refine t_ ?_
  |simp(disch:=omega) only[w64,if_neg]
 · refine qA rfl (Or.inr rfl) ?_
   simp only[wL,seval,g0,g1,g5]
   refine er_ ?_
   try(with_reducible rfl)
   rw[eq_comm,decide_eq_true_eq,← h_];exact List.getElem_mem _
 · refine⟨wk_,k+1,o_,?_⟩
   refine⟨?_,?_,?_,?_,?_⟩
   iterate 3 (focus(first|(simp only[wL,wM,wN,wX,seval,Option.some.injEq,g0,g1,g5]<;>exact wt_)|rfl|exact⟨_,rfl⟩))
   all_goals try omega
   rw[List.take_add_one,ge_ o_]
   simp only[Option.toList_some,List.mem_append,List.mem_singleton,not_or]
   exact⟨k1_1,fun e=>h_ e.symm⟩
 · refine qA rfl (Or.inr rfl) ?_
   simp only[wL,seval,g0,g1,g5]
   refine er_ ?_
   try(with_reducible rfl)
   rw[eq_comm,decide_eq_false_iff_not]
   rwa [List.take_of_length_le o_]at k1_1
theorem qep {α:Type} {a b:List α} {k:Nat} (hk: ∀i,i<k→a[i]?=b[i]?) (h1:a.length≤k) (h2:b.length≤k):a=b:=by
 refine List.ext_getElem? fun i=>?_
 by_cases hi:i<k
 · exact hk i hi
 · rw[List.getElem?_eq_none o_,List.getElem?_eq_none o_]
theorem qoG {α:Type} {a b:List α} {k:Nat} (hk: ∀i,i<k→a[i]?=b[i]?) (h1:k<a.length) (h2:k<b.length) (e:a[k]=b[k]): ∀i,i<k+1→a[i]?=b[i]?:=by
 intro i hi
 by_cases he:i=k
 · subst he;rw[ge_ h1,ge_ h2,e]
 · exact hk i o_
theorem jX {a b:List Int} (ha:a.length≤4611686018427387903) (hb:b.length≤4611686018427387903):Pure Try.prog 21 [ints a,ints b] (.bool (decide (a=b))):=by
 refine pure_intro Try.func21 nm_ qBB (by show 2≤26;decide) ?_
 show ewp _ qiP _ _
 repeat' with_reducible first
  |refine s_ ?_
  |simp only[wZZ,seval]
  |apply qa<;>intro h h_<;>(try simp only[wD,reduceCtorEq]at h_)<;>(try exact wb_)<;>(try simp only[h])
 · refine qA rfl (Or.inr rfl) ?_
   simp only[wL,seval]
   refine er_ ?_
   try(with_reducible rfl)
   rw[eq_comm,decide_eq_false_iff_not]
   intro e;subst e;exact h_ rfl
 refine qb ?nx1 (fun(k:Nat) s=>s.f 0=?v1_0∧s.f 1=?v1_1∧s.f 5=vi k∧(k≤a.length)∧(∀i,i<k→a[i]?=b[i]?)) (fun k=>a.length - k) (0) wj_ (by refine⟨?_,?_,?_,wo_,wo_⟩<;>first|(simp only[wL,wM,wN,wX,seval,Option.some.injEq]<;>exact wt_)|rfl|exact⟨_,rfl⟩) ?_
 intro k s hnx ⟨g0,g1,g5,k1_0,k1_1⟩
 repeat' with_reducible first
  |refine s_ ?_
  |simp only[wZZ,seval,g0,g1,g5]
  |apply qa<;>intro h h_<;>(try simp only[wD,reduceCtorEq]at h_)<;>(try exact wb_)<;>(try simp only[h])
  |refine t_ ?_
  |simp(disch:=omega) only[w64,if_neg]
 · refine qA rfl (Or.inr rfl) ?_
   simp only[wL,seval,g0,g1,g5]
   refine er_ ?_
   try(with_reducible rfl)
   rw[eq_comm,decide_eq_false_iff_not]
   intro e;subst e;exact h_ rfl
 · refine⟨wk_,k+1,o_,?_⟩
   refine⟨?_,?_,?_,?_,?_⟩
   iterate 3 (focus(first|(simp only[wL,wM,wN,wX,seval,Option.some.injEq,g0,g1,g5]<;>exact wt_)|rfl|exact⟨_,rfl⟩))
   all_goals try omega
   exact qoG k1_1 o_ o_ (by simpa using h_)
 · refine qA rfl (Or.inr rfl) ?_
   simp only[wL,seval,g0,g1,g5]
   refine er_ ?_
   try(with_reducible rfl)
   rw[eq_comm,decide_eq_true_eq]
   exact qep k1_1 o_ o_
def Xv (l:List Int) (x:Int):Nat→Nat
 |0=>0
 |k+1=>if x<l.getD k 0 then Xv l x k else k+1
theorem QX (l:List Int) (x:Int) (k:Nat):Xv l x (k+1)=if x<l.getD k 0 then Xv l x k else k+1:=rfl
theorem qa0 (l:List Int) (x:Int) (k:Nat):Xv l x k≤k:=by
 induction k with
 |zero=>exact Nat.le_refl _
 |succ k ih=>unfold Xv;split<;>omega
def jm (l:List Int) (x:Int):List Int:=
 if 0<Xv l x l.length∧l.getD (Xv l x l.length - 1) 0=x then l else l.take (Xv l x l.length)++[x]++l.drop (Xv l x l.length)
theorem QW (l:List Int) (x:Int):(jm l x).length≤l.length+1:=by
 unfold jm;split
 · omega
 · simp;have:=qa0 l x l.length;omega
theorem getD_eq {l:List Int} {k:Nat} (h:k<l.length):l.getD k 0=l[k]:=by simp[List.getD,h]
theorem zM {l:List Int} {x:Int} (hl:l.length≤1099511627776):Pure Try.prog 57 [ints l,vi x] (ints (jm l x)):=by
 refine pure_intro Try.func57 nm_ qtp (by show 2≤47;decide) ?_
 show ewp _ qjo _ _
 repeat' with_reducible first
  |refine s_ ?_
  |simp only[wZZ,seval]
 refine qb ?nx1 (fun(k:Nat) s=>s.f 0=?v1_0∧s.f 1=?v1_1∧s.f 5=vi k∧(k≤l.length)∧(Xv l x k=Xv l x l.length)) (fun k=>k) (l.length) wj_ (by refine⟨?_,?_,?_,wo_,wo_⟩<;>first|(simp only[wL,wM,wN,wX,seval,Option.some.injEq]<;>exact wt_)|rfl|exact⟨_,rfl⟩) ?_
 intro k s hnx ⟨g0,g1,g5,k1_0,k1_1⟩
 by_cases hk:k=0
 · subst hk
   have hc:Xv l x l.length=0:=k1_1.symm
   have hp:jm l x=[]++[x]++l:=by unfold jm;rw[hc];simp
   rw[hp]
   repeat' with_reducible first
    |refine s_ ?_
    |simp only[wZZ,seval,g0,g1,g5]
    |apply XE;(focus(first|exact qU.sl|exact qU.asl|exact qU.str));exact wf_;(focus(unfold maxLen;first|omega|(simp only[wZ]<;>omega)))
    |(refine VI ?_;simp only[wM,wN,seval,g0,g1,g5];apply qb5;(focus(first|exact qU.sl|exact qU.asl|exact qU.str));(exact wf_);(focus(unfold maxLen;first|omega|(simp only[wZ]<;>omega))))
    |apply yX;omega;exact wf_
    |apply kD;omega;exact wf_
   refine qA rfl (Or.inr rfl) ?_
   simp only[wL,seval,g0,g1,g5]
   refine er_ ?_
   try(with_reducible rfl)
   simp
 · obtain ⟨m,rfl⟩: ∃m,k=m+1:=⟨k - 1,o_⟩
   have hm:m<l.length:=o_
   rw[QX,getD_eq hm]at k1_1
   by_cases hgt:x<l[m]
   · rw[if_pos hgt]at k1_1
     repeat' with_reducible first
      |refine s_ ?_
      |simp only[wZZ,seval,g0,g1,g5]
      |(first|apply qa|apply qg|apply qh)<;>intro h h_<;>(try simp only[wD,reduceCtorEq]at h_)<;>(try exact wb_)<;>(try simp only[h])
      |refine t_ ?_
      |simp(disch:=omega) only[w64,if_neg]
     refine⟨wk_,m,o_,?_⟩
     refine⟨?_,?_,?_,?_,?_⟩
     iterate 3 (focus(first|(simp only[wL,wM,wN,wX,seval,Option.some.injEq,g0,g1,g5]<;>exact wt_)|rfl|exact⟨_,rfl⟩))
     all_goals try omega
   · rw [if_neg hgt]at k1_1
     have hp:jm l x=if l[m]=x then l else l.take (m+1)++[x]++l.drop (m+1):=by
      unfold jm;rw[← k1_1];simp[ge_ hm]
     by_cases hx:l[m]=x
     · rw[hp,if_pos hx]
       repeat' with_reducible first
        |refine s_ ?_
        |simp only[wZZ,seval,g0,g1,g5]
        |(first|apply qa|apply qg|apply qh)<;>intro h h_<;>(try simp only[wD,reduceCtorEq]at h_)<;>(try exact wb_)<;>(try simp only[h])
        |refine t_ ?_
        |simp(disch:=omega) only[w64,if_neg]
       refine qA rfl (Or.inr rfl) ?_
       simp only[wL,seval,g0,g1,g5]
       refine er_ ?_
       try(with_reducible rfl)
     · rw[hp,if_neg hx]
       repeat' with_reducible first
        |refine s_ ?_
        |simp only[wZZ,seval,g0,g1,g5]
        |(first|apply qa|apply qg|apply qh)<;>intro h h_<;>(try simp only[wD,reduceCtorEq]at h_)<;>(try exact wb_)<;>(try simp only[h])
        |refine t_ ?_
        |apply XE;(focus(first|exact qU.sl|exact qU.asl|exact qU.str));exact wf_;(focus(unfold maxLen;first|omega|(simp only[wZ]<;>omega)))
        |(refine VI ?_;simp only[wM,wN,seval,g0,g1,g5];apply qb5;(focus(first|exact qU.sl|exact qU.asl|exact qU.str));(exact wf_);(focus(unfold maxLen;first|omega|(simp only[wZ]<;>omega))))
        |apply yX;omega;exact wf_
        |apply kD;omega;exact wf_
        |simp(disch:=omega) only[w64,if_neg]
       refine qA rfl (Or.inr rfl) ?_
       simp only[wL,seval,g0,g1,g5]
       refine er_ ?_
       try(with_reducible rfl)

structure Sym where
 name:List UInt8:=[]
 lit:Bool:=false
 num:Int:=0
 at_:Int:=0
 deriving DecidableEq,Inhabited
structure Part where
 sym:Sym:={}
 code:List UInt8:=[]
 at_:Int:=0
 deriving DecidableEq,Inhabited
structure Alt where
 parts:List Part:=[]
 prec:Sym:={}
 at_:Int:=0
 deriving DecidableEq,Inhabited
structure Rule where
 left:List UInt8:=[]
 alts:List Alt:=[]
 at_:Int:=0
 deriving DecidableEq,Inhabited
structure Decl where
 kind:Int:=0
 tag:List UInt8:=[]
 syms:List Sym:=[]
 at_:Int:=0
 deriving DecidableEq,Inhabited
structure Source where
 pro:List UInt8:=[]
 decls:List Decl:=[]
 rules:List Rule:=[]
 tail:List UInt8:=[]
 deriving DecidableEq,Inhabited
@[reducible] def Sym.V (x:Sym):V:= .agg [.str x.name,.bool x.lit,vi x.num,vi x.at_]
@[reducible] def Part.V (x:Part):V:= .agg [.str x.sym.name,.bool x.sym.lit,vi x.sym.num,vi x.sym.at_,.str x.code,vi x.at_]
@[reducible] def Alt.V (x:Alt):V:= .agg [.sl 6 false (x.parts.map Part.V),.str x.prec.name,.bool x.prec.lit,vi x.prec.num,vi x.prec.at_,vi x.at_]
@[reducible] def Rule.V (x:Rule):V:= .agg [.str x.left,.sl 6 false (x.alts.map Alt.V),vi x.at_]
@[reducible] def Decl.V (x:Decl):V:= .agg [vi x.kind,.str x.tag,.sl 4 false (x.syms.map Sym.V),vi x.at_]
@[reducible] def Source.V (x:Source):V:= .agg [.str x.pro,.sl 4 false (x.decls.map Decl.V),.sl 3 false (x.rules.map Rule.V),.str x.tail]
theorem qar {i n:Int} (hn:0<n) (h:n≤4611686018427387904):(if i.tmod n<0 then IntKind.i64.wrap (i.tmod n+n)else i.tmod n)=i % n:=by
 have h1:=Int.tmod_lt_of_pos i hn
 have h2: - n<i.tmod n:=by
  have:=Int.tmod_lt_of_pos (-i) hn
  rw[Int.neg_tmod]at this;omega
 have e:i.tmod n=i % n∨i.tmod n+n=i % n:=by
  rw[Int.tmod_eq_emod]
  have:=Int.emod_lt_of_pos i hn
  have:=Int.emod_nonneg i (show n≠0 by omega)
  split
  · left;omega
  · right;omega
 have h3:=Int.emod_nonneg i (show n≠0 by omega)
 have h4:=Int.emod_lt_of_pos i hn
 split
 · rw[wrap64 o_ o_];omega
 · omega
theorem jU {i n:Int} (hn:0<n) (hm:n≤4611686018427387904):Pure Try.prog 20 [vi i,vi n] (vi (i % n)):=by
 refine pure_intro Try.func20 nm_ qs3 (by show 2≤15;decide) ?_
 show ewp _ qjP _ _
 have e:=qar (i:=i) hn hm
 by_cases h:i.tmod n<0
 · rw[if_pos h]at e
   have hne: ¬ (n=0):=o_
   repeat' with_reducible first
    |refine s_ ?_
    |simp only[wZZ,seval,hne,e]
    |apply qa<;>intro h h_<;>(try simp only[wD,reduceCtorEq]at h_)<;>(try exact wb_)<;>(try simp only[h])
   refine qA rfl (Or.inr rfl) ?_
   simp only[wL,seval]
   refine er_ ?_
   try(with_reducible rfl)
 · rw[if_neg h]at e
   have hne: ¬ (n=0):=o_
   repeat' with_reducible first
    |refine s_ ?_
    |simp only[wZZ,seval,hne,e]
    |apply qa<;>intro h h_<;>(try simp only[wD,reduceCtorEq]at h_)<;>(try exact wb_)<;>(try simp only[h])
   refine qA rfl (Or.inr rfl) ?_
   simp only[wL,seval]
   refine er_ ?_
   try(with_reducible rfl)

@[reducible] def Qj (s:List UInt8) (n:Int):List UInt8:=s.take n.toNat
theorem zP {s:List UInt8} {n:Int} (hs:s.length≤1099511627776) (hn:0≤n):Pure Try.prog 42 [.str s,vi n] (.str (Qj s n)):=by
 refine pure_intro Try.func42 nm_ qDl (by show 2≤13;decide) ?_
 show ewp _ qDp _ _
 by_cases h:n<s.length
 · repeat' with_reducible first
    |refine s_ ?_
    |simp only[wZZ,seval]
    |apply qa<;>intro h h_<;>(try simp only[wD,reduceCtorEq]at h_)<;>(try exact wb_)<;>(try simp only[h])
    |apply qHW;omega;omega
   refine qA rfl (Or.inr rfl) ?_
   simp only[wL,seval]
   refine er_ ?_
   try(with_reducible rfl)
 · have e:Qj s n=s:=List.take_of_length_le o_
   rw[e]
   repeat' with_reducible first
    |refine s_ ?_
    |simp only[wZZ,seval]
    |apply qa<;>intro h h_<;>(try simp only[wD,reduceCtorEq]at h_)<;>(try exact wb_)<;>(try simp only[h])
   refine qA rfl (Or.inr rfl) ?_
   simp only[wL,seval]
   refine er_ ?_
   try(with_reducible rfl)
@[reducible] def QJ (x:Sym):Sym:=⟨Qj x.name 25,x.lit,x.num,x.at_⟩
theorem jP {x:Sym} (hs:x.name.length≤1099511627776):Pure Try.prog 43 [x.V] ((QJ x).V):=by
 refine pure_intro Try.func43 nm_ qFC (by show 1≤13;decide) ?_
 show ewp _ qDL _ _
 repeat' with_reducible first
  |refine s_ ?_
  |simp only[wZZ,seval]
  |refine t_ ?_
  |refine kM we_ we_ (zP wf_ wf_) ?_
 apply qat (t:=2) rfl (Or.inr rfl);(focus(first|rfl|((try simp only[wL,wM,wN,seval]);rfl)));(focus(first|rfl|((try simp only[wL,wM,wN,seval]);rfl)));(exact wu_);(try exact qc)
def V6 (c:UInt8):Bool:=(decide (97≤c.toNat) && decide (c.toNat≤122)) || (decide (65≤c.toNat) && decide (c.toNat≤90)) || decide (c.toNat=95)
def qcG (c:UInt8):Bool:=decide (48≤c.toNat) && decide (c.toNat≤57)
theorem JP {c:UInt8}:Pure Try.prog 116 [.int .u8 c.toNat] (.bool (V6 c)):=by
 refine pure_intro Try.func116 nm_ qoV (by show 1≤21;decide) ?_
 show ewp _ qju _ _
 repeat' with_reducible first
  |refine s_ ?_
  |simp only[wZZ,seval]
  |(first|apply qg|apply qh)<;>intro h h_<;>(try simp only[wD,reduceCtorEq]at h_)<;>(try exact wb_)<;>(try simp only[h])
 all_goals refine qA rfl (Or.inr rfl) ?_
 all_goals(try simp only[wL,seval])
 all_goals refine er_ ?_
 all_goals(try(with_reducible rfl))
 all_goals(rw[Bool.eq_iff_iff];simp[V6];omega)
theorem XI {c:UInt8}:Pure Try.prog 117 [.int .u8 c.toNat] (.bool (qcG c)):=by
 refine pure_intro Try.func117 nm_ qnb (by show 1≤9;decide) ?_
 show ewp _ qjw _ _
 repeat' with_reducible first
  |refine s_ ?_
  |simp only[wZZ,seval]
  |(first|apply qg|apply qh)<;>intro h h_<;>(try simp only[wD,reduceCtorEq]at h_)<;>(try exact wb_)<;>(try simp only[h])
 all_goals refine qA rfl (Or.inr rfl) ?_
 all_goals(try simp only[wL,seval])
 all_goals refine er_ ?_
 all_goals(try(with_reducible rfl))
 all_goals(rw[Bool.eq_iff_iff];simp[qcG];omega)
def jY (s:List UInt8) (at_:Int) (w:List UInt8):Bool:=decide (at_+w.length≤s.length) && decide ((s.take (at_+w.length).toNat).drop at_.toNat=w)
theorem jd {s w:List UInt8} {at_:Int} (hs:s.length≤1099511627776) (hw:w.length≤1099511627776) (ha:0≤at_) (hb:at_≤1099511627776):Pure Try.prog 119 [.str s,vi at_,.str w] (.bool (jY s at_ w)):=by
 refine pure_intro Try.func119 nm_ qqV (by show 3≤25;decide) ?_
 show ewp _ qiT _ _
 have h1:IntKind.i64.wrap ((s.length:Int) - at_)=(s.length:Int) - at_:=wrap64 o_ o_
 repeat' with_reducible first
  |refine s_ ?_
  |simp only[wZZ,seval,h1]
  |(first|apply qg|apply qh)<;>intro h h_<;>(try simp only[wD,reduceCtorEq]at h_)<;>(try exact wb_)<;>(try simp only[h])
  |apply qcE;omega;omega;omega
  |simp(disch:=omega) only[w64,if_neg]
 all_goals refine qA rfl (Or.inr rfl) ?_
 all_goals(try simp only[wL,seval])
 all_goals refine er_ ?_
 all_goals(try(with_reducible rfl))
 · unfold jY
   have e:decide (at_+(w.length:Int)≤(s.length:Int))=true:=by rw[decide_eq_true_eq];omega
   rw[e];rfl
 · unfold jY
   have e:decide (at_+(w.length:Int)≤(s.length:Int))=false:=by rw[decide_eq_false_iff_not];omega
   rw[e];rfl
def qaW (c:UInt8):Bool:=decide (c.toNat=10) || decide (c.toNat=9) || decide (c.toNat=13) || decide (c.toNat=92) || decide (c.toNat=39) || (decide (32≤c.toNat) && decide (c.toNat≤126))
def qhW (c:UInt8):UInt8:=if c.toNat=10 then 110 else if c.toNat=9 then 116 else if c.toNat=13 then 114 else if c.toNat=92 then c else if c.toNat=39 then c else 0
theorem JU {c:UInt8}:Pure Try.prog 115 [.int .u8 c.toNat] (.tup [.int .u8 (qhW c).toNat,.bool (qaW c)]):=by
 refine pure_intro Try.func115 nm_ qrT (by show 1≤21;decide) ?_
 show ewp _ qeP _ _
 repeat' with_reducible first
  |refine s_ ?_
  |simp only[wZZ,seval]
  |(first|apply qa|apply qg|apply qh)<;>intro h h_<;>(try simp only[wD,reduceCtorEq]at h_)<;>(try exact wb_)<;>(try simp only[h])
 all_goals refine qeI rfl (Or.inr rfl) ?_
 all_goals(try simp only[wL,seval])
 all_goals(refine qmb ?_ ?_<;>refine er_ ?_<;>(try(with_reducible rfl)))
 all_goals first
  |(unfold qhW;(repeat' split)<;>first|(exfalso;omega)|rfl)
  |(rw[Bool.eq_iff_iff];simp[qaW];omega)

def Jt:List UInt8→Bool→Nat
 |[],_=>0
 |c::r,more=>if V6 c || (more && (qcG c || decide (c.toNat=46)))then Jt r true+1 else 0
theorem qbo (c:UInt8) (r:List UInt8) (more:Bool):Jt (c::r) more=if V6 c || (more && (qcG c || decide (c.toNat=46)))then Jt r true+1 else 0:=rfl
theorem JN {tx:List UInt8} (hs:tx.length≤1099511627776):Pure Try.prog 112 [.str tx,vi 0] (vi (Jt tx false)):=by
 refine pure_intro Try.func112 nm_ qqm (by show 2≤43;decide) ?_
 show ewp _ qeD _ _
 repeat' with_reducible first
  |refine s_ ?_
  |simp only[wZZ,seval]
 refine qb ?nx1 (fun(n:Nat) s=>s.f 0=?v1_0∧s.f 1=?v1_1∧s.f 5=vi n∧(n≤tx.length)∧(Jt tx false=n+Jt (tx.drop n) (decide (0<n)))) (fun n=>tx.length - n) (0) wj_ (by refine⟨?_,?_,?_,wo_,wo_⟩<;>first|(simp only[wL,wM,wN,wX,seval,Option.some.injEq]<;>exact wt_)|rfl|exact⟨_,rfl⟩) ?_
 intro n s hnx ⟨g0,g1,g5,k1_0,k1_1⟩
 have hz:IntKind.i64.wrap (0+(n:Int))=n:=by rw[Int.zero_add];exact wrap64 o_ o_
 by_cases hn:n<tx.length
 · have hd:tx.drop n=tx[n]::tx.drop (n+1):=List.drop_eq_getElem_cons hn
   rw[hd,qbo]at k1_1
   have h0:decide (0<n+1)=true:=by simp
   repeat' with_reducible first
    |refine s_ ?_
    |simp only[wZZ,seval,g0,g1,g5,hz]
    |(first|apply qa|apply qg|apply qh)<;>intro h h_<;>(try simp only[wD,reduceCtorEq]at h_)<;>(try exact wb_)<;>(try simp only[h])
    |refine t_ ?_
    |refine cq1 JP we_ ?_
    |refine cq1 XI we_ ?_
    |simp(disch:=omega) only[w64,if_neg]
   · refine⟨wk_,n+1,o_,?_⟩
     refine⟨?_,?_,?_,?_,?_⟩
     iterate 3 (focus(first|(simp only[wL,wM,wN,wX,seval,Option.some.injEq,g0,g1,g5]<;>exact wt_)|rfl|exact⟨_,rfl⟩))
     all_goals try omega
     rw[k1_1,h0,if_pos (by rw[Bool.or_eq_true,Bool.and_eq_true,Bool.or_eq_true,decide_eq_true_eq,decide_eq_true_eq];first|exact Or.inl (by assumption)|exact Or.inr ⟨o_,Or.inl (by assumption)⟩|exact Or.inr ⟨o_,Or.inr o_⟩)];omega
   · refine qA rfl (Or.inr rfl) ?_
     simp only[wL,seval,g0,g1,g5]
     refine er_ ?_
     try(with_reducible rfl)
     rw[k1_1,if_neg (by rw[Bool.or_eq_true,Bool.and_eq_true,Bool.or_eq_true,decide_eq_true_eq,decide_eq_true_eq];rintro (h|⟨h,h|h⟩)<;>first|omega|simp_all)];rfl
   · refine⟨wk_,n+1,o_,?_⟩
     refine⟨?_,?_,?_,?_,?_⟩
     iterate 3 (focus(first|(simp only[wL,wM,wN,wX,seval,Option.some.injEq,g0,g1,g5]<;>exact wt_)|rfl|exact⟨_,rfl⟩))
     all_goals try omega
     rw[k1_1,h0,if_pos (by rw[Bool.or_eq_true,Bool.and_eq_true,Bool.or_eq_true,decide_eq_true_eq,decide_eq_true_eq];first|exact Or.inl (by assumption)|exact Or.inr ⟨o_,Or.inl (by assumption)⟩|exact Or.inr ⟨o_,Or.inr o_⟩)];omega
   · refine qA rfl (Or.inr rfl) ?_
     simp only[wL,seval,g0,g1,g5]
     refine er_ ?_
     try(with_reducible rfl)
     rw[k1_1,if_neg (by rw[Bool.or_eq_true,Bool.and_eq_true,Bool.or_eq_true,decide_eq_true_eq,decide_eq_true_eq];rintro (h|⟨h,h|h⟩)<;>first|omega|simp_all)];rfl
   · refine⟨wk_,n+1,o_,?_⟩
     refine⟨?_,?_,?_,?_,?_⟩
     iterate 3 (focus(first|(simp only[wL,wM,wN,wX,seval,Option.some.injEq,g0,g1,g5]<;>exact wt_)|rfl|exact⟨_,rfl⟩))
     all_goals try omega
     rw[k1_1,h0,if_pos (by rw[Bool.or_eq_true,Bool.and_eq_true,Bool.or_eq_true,decide_eq_true_eq,decide_eq_true_eq];first|exact Or.inl (by assumption)|exact Or.inr ⟨o_,Or.inl (by assumption)⟩|exact Or.inr ⟨o_,Or.inr o_⟩)];omega
 · repeat' with_reducible first
    |refine s_ ?_
    |simp only[wZZ,seval,g0,g1,g5,hz]
    |(first|apply qg|apply qh)<;>intro h h_<;>(try simp only[wD,reduceCtorEq]at h_)<;>(try exact wb_)<;>(try simp only[h])
   refine qA rfl (Or.inr rfl) ?_
   simp only[wL,seval,g0,g1,g5]
   refine er_ ?_
   try(with_reducible rfl)
   rw[List.drop_eq_nil_of_le o_]at k1_1
   rw[k1_1];simp[Jt]
def qbw (tx:List UInt8):Bool:=decide (1≤tx.length) && decide (tx.length≤20) && decide (Jt tx false=tx.length)
theorem xX {tx:List UInt8} (hs:tx.length≤1099511627776):Pure Try.prog 106 [.str tx] (.bool (qbw tx)):=by
 refine pure_intro Try.func106 nm_ qqM (by show 1≤18;decide) ?_
 show ewp _ qiY _ _
 repeat' with_reducible first
  |refine s_ ?_
  |simp only[wZZ,seval]
  |(first|apply qg|apply qh)<;>intro h h_<;>(try simp only[wD,reduceCtorEq]at h_)<;>(try exact wb_)<;>(try simp only[h])
  |refine kM we_ we_ (JN wf_) ?_
 all_goals refine qA rfl (Or.inr rfl) ?_
 all_goals(try simp only[wL,seval])
 all_goals refine er_ ?_
 all_goals(try(with_reducible rfl))
 all_goals(rw[Bool.eq_iff_iff];simp[qbw];omega)
@[reducible] def Sym.none (x:Sym):Bool:=decide (x.name=[]) && !x.lit && decide (x.num=0)
theorem Qp {x:Sym}:Pure Try.prog 113 [x.V] (.bool x.none):=by
 refine pure_intro Try.func113 nm_ qqs (by show 1≤16;decide) ?_
 show ewp _ qiu _ _
 obtain ⟨nm,lt,nu,at_⟩:=x
 repeat' with_reducible first
  |refine s_ ?_
  |simp only[wZZ,seval]
  |(first|apply qg|apply qh)<;>intro h h_<;>(try simp only[wD,reduceCtorEq]at h_)<;>(try exact wb_)<;>(try simp only[h])
  |refine t_ ?_
 all_goals refine qA rfl (Or.inr rfl) ?_
 all_goals(try simp only[wL,seval])
 all_goals refine er_ ?_
 all_goals(try(with_reducible rfl))
 all_goals(simp_all [Sym.none])

def qcR (x:Sym) (num lit:Bool):Bool:=if x.lit then lit && decide (x.name.length=1) && qaW (x.name.headD 0) && decide (x.num=0)else qbw x.name && (decide (x.num=0) || (num && decide (1≤x.num) && decide (x.num≤50000)))
theorem jW {x:Sym} {num lit:Bool} (hs:x.name.length≤1099511627776):Pure Try.prog 111 [x.V,.bool num,.bool lit] (.bool (qcR x num lit)):=by
 refine pure_intro Try.func111 nm_ qkd (by show 3≤53;decide) ?_
 show ewp _ qfa _ _
 obtain ⟨nm,lt,nu,at_⟩:=x
 repeat' with_reducible first
  |refine s_ ?_
  |simp only[wZZ,seval]
  |(first|apply qa|apply qg|apply qh)<;>intro h h_<;>(try simp only[wD,reduceCtorEq]at h_)<;>(try exact wb_)<;>(try simp only[h])
  |refine t_ ?_
  |refine cq1 JU we_ ?_
  |refine JA we_ (xX wf_) ?_
 all_goals refine qA rfl (Or.inr rfl) ?_
 all_goals(try simp only[wL,seval])
 all_goals refine er_ ?_
 all_goals(try(with_reducible rfl))
 all_goals first
  |(simp_all [qcR];done)
  |(simp_all [qcR];omega)
  | (obtain ⟨c,hc⟩: ∃c,nm=[c]:=List.length_eq_one_iff.1 o_
     subst hc
     simp_all [qcR])

def Sym.Fits (x:Sym):Prop:=x.name.length≤1099511627776
def qkR (d:Decl):Bool:=decide (d.kind<1) || decide (6<d.kind) || decide ((d.syms.length:Int)=0) || (decide (d.kind=6) && (!decide ((d.syms.length:Int)=1) || !decide (d.tag=[]))) || (decide (d.kind=5) && decide (d.tag=[])) || (!decide (d.tag=[]) && !qbw d.tag)
def YH (d:Decl):Bool:= !qkR d && d.syms.all fun x=>qcR x (decide (d.kind=1)) (decide (d.kind<5))
theorem Jl {d:Decl} (ht:d.tag.length≤1099511627776) (hl:d.syms.length≤1099511627776) (hs: ∀x∈d.syms,x.name.length≤1099511627776):Pure Try.prog 105 [d.V] (.bool (YH d)):=by
 refine pure_intro Try.func105 nm_ qlF (by show 1≤75;decide) ?_
 show ewp _ qdW _ _
 obtain ⟨kd,tg,sy,at_⟩:=d
 dsimp only at ht hl hs
 refine yS (fun s=>s.f 1=.ptr 0 0 0∧s.H 0=some (.own 4 [Decl.V ⟨kd,tg,sy,at_⟩] false)∧1≤s.next) ?_ ?_
 · repeat' with_reducible first
    |refine s_ ?_
    |simp only[wZZ,seval]
    |refine t_ ?_
   all_goals(refine⟨?_,?_,?_⟩)
   all_goals((try simp only[wL,wM,wN,seval]);try(first|rfl|omega))
 intro s ⟨g1,o0,hnx⟩
 refine qeY ?_
 refine yS (fun s=>s.f 1=.ptr 0 0 0∧s.f 54=.bool (qkR ⟨kd,tg,sy,at_⟩)∧s.H 0=some (.own 4 [Decl.V ⟨kd,tg,sy,at_⟩] false)∧1≤s.next) ?_ ?_
 · repeat' with_reducible first
    |refine s_ ?_
    |simp only[wZZ,seval,g1,o0]
    |(first|apply qg|apply qh)<;>intro h h_<;>(try simp only[wD,reduceCtorEq]at h_)<;>(try exact wb_)<;>(try simp only[h])
    |refine t_ ?_
    |refine JA we_ (xX wf_) ?_
   all_goals(refine⟨?_,?_,?_,?_⟩)
   all_goals((try simp only[wL,wM,wN,seval,g1,o0]);try(first|rfl|omega))
   all_goals(refine congrArg V.bool ?_;simp only[qkR, *];rfl)
 intro s ⟨g1,g54,o0,hnx⟩
 by_cases hb:qkR ⟨kd,tg,sy,at_⟩=true
 · have e:YH ⟨kd,tg,sy,at_⟩=false:=by unfold YH;rw[hb];rfl
   rw[e]
   repeat' with_reducible first
    |refine s_ ?_
    |simp only[wZZ,seval,g1,g54,o0,hb]
   refine qA rfl (Or.inr rfl) ?_
   simp only[wL,seval,g1,g54]
   refine er_ ?_
   try(with_reducible rfl)
 · have hb2:qkR ⟨kd,tg,sy,at_⟩=false:=by simpa using hb
   have e:YH ⟨kd,tg,sy,at_⟩=sy.all fun x=>qcR x (decide (kd=1)) (decide (kd<5)):=by unfold YH;rw[hb2];rfl
   rw[e]
   repeat' with_reducible first
    |refine s_ ?_
    |simp only[wZZ,seval,g1,g54,o0,hb2]
   refine qb ?nx1 (fun(k:Nat) s=>s.f 1=?v1_1∧s.H 0=?o1_0∧s.f 3=vi k∧(k≤sy.length)∧(∀x∈sy.take k,qcR x (decide (kd=1)) (decide (kd<5))=true)) (fun k=>sy.length - k) (0) wj_ (by refine⟨?_,?_,?_,wo_,wo_⟩<;>first|(simp only[wL,wM,wN,wX,seval,Option.some.injEq,g1,g54,o0]<;>exact wt_)|rfl|exact⟨_,rfl⟩) ?_
   intro k s hnx ⟨g1,o0,g3,k1_0,k1_1⟩
   by_cases hk:k<sy.length
   · have hx:=hs sy[k] (List.getElem_mem hk)
     have ht2:sy.take (k+1)=sy.take k++[sy[k]]:=by rw[List.take_add_one,ge_ hk];rfl
     repeat' with_reducible first
      |refine s_ ?_
      |simp only[wZZ,seval,g1,g3,o0]
      |apply qa<;>intro h h_<;>(try simp only[wD,reduceCtorEq]at h_)<;>(try exact wb_)<;>(try simp only[h])
      |refine t_ ?_
      |refine Qm we_ we_ we_ (jW wf_) ?_
      |simp(disch:=omega) only[w64,if_neg]
     · refine qA rfl (Or.inr rfl) ?_
       simp only[wL,seval,g1,g3]
       refine er_ ?_
       try(with_reducible rfl)
       refine(List.all_eq_false.2 ⟨sy[k],List.getElem_mem hk,?_⟩).symm
       rw[h_];exact Bool.false_ne_true
     · refine⟨wk_,k+1,o_,?_⟩
       refine⟨?_,?_,?_,?_,?_⟩
       iterate 3 (focus(first|(simp only[wL,wM,wN,wX,seval,Option.some.injEq,g1,g3,o0]<;>exact wt_)|rfl|exact⟨_,rfl⟩))
       all_goals try omega
       rw[ht2]
       intro x hx2
       rcases List.mem_append.1 hx2 with hx2|hx2
       · exact k1_1 x hx2
       · obtain rfl:=List.mem_singleton.1 hx2
         exact h_
   · repeat' with_reducible first
      |refine s_ ?_
      |simp only[wZZ,seval,g1,g3,o0]
      |apply qa<;>intro h h_<;>(try simp only[wD,reduceCtorEq]at h_)<;>(try exact wb_)<;>(try simp only[h])
      |refine t_ ?_
     refine qA rfl (Or.inr rfl) ?_
     simp only[wL,seval,g1,g3]
     refine er_ ?_
     try(with_reducible rfl)
     rw[List.take_of_length_le o_]at k1_1
     exact(List.all_eq_true.2 k1_1).symm

def X8 (q:UInt8):List UInt8→Int→Int
 |[],_=> -1
 |[c],i=>if c.toNat=10 then -1 else if c.toNat=q.toNat then i+1 else -1
 |c::d::r,i=>if c.toNat=10 then -1 else if c.toNat=q.toNat then i+1 else if c.toNat=92 then(if d.toNat=10 then -1 else X8 q r (i+2))else X8 q (d::r) (i+1)
theorem qcQ (q c:UInt8) (r:List UInt8) (i:Int):X8 q (c::r) i=if c.toNat=10 then -1 else if c.toNat=q.toNat then i+1 else if c.toNat=92 then(if (r.headD 10).toNat=10 then -1 else X8 q r.tail (i+2))else X8 q r (i+1):=by
 cases r with
 |nil=>simp[X8]
 |cons d r=>simp[X8]
def Vt:List UInt8→Int→Int
 |[],_=> -1
 |c::r,i=>if c.toNat=96 then i+1 else Vt r (i+1)
def YR:List UInt8→Int→Int
 |[],i=>i
 |c::r,i=>if c.toNat=10 then i else YR r (i+1)
def Yz (tx:List UInt8):Nat→Int→Int
 |0,_=> -1
 |n+1,i=>if jY tx i [42,47]then i+2 else Yz tx n (i+1)
def V9 (tx:List UInt8) (at_:Nat):Int:=
 let c:=tx.getD at_ 0
 if c.toNat=34∨c.toNat=39 then X8 c (tx.drop (at_+1)) (at_+1)else if c.toNat=96 then Vt (tx.drop (at_+1)) (at_+1)
 else if jY tx at_ [47,47]then YR (tx.drop at_) at_ else if jY tx at_ [47,42]then Yz tx (tx.length - (at_+2)) (at_+2)else at_
theorem jb {tx:List UInt8} {at_:Nat} (hs:tx.length≤1099511627776) (ha:at_<tx.length):Pure Try.prog 118 [.str tx,vi at_] (vi (V9 tx at_)):=by
 refine pure_intro Try.func118 nm_ qoF (by show 2≤114;decide) ?_
 show ewp _ qez _ _
 have hg:tx.getD at_ 0=tx[at_]:=by simp[List.getD,ha]
 have he:V9 tx at_=if tx[at_].toNat=34∨tx[at_].toNat=39 then X8 tx[at_] (tx.drop (at_+1)) (at_+1)else if tx[at_].toNat=96 then Vt (tx.drop (at_+1)) (at_+1)
  else if jY tx at_ [47,47]then YR (tx.drop at_) at_ else if jY tx at_ [47,42]then Yz tx (tx.length - (at_+2)) (at_+2)else at_:=by unfold V9;rw[hg]
 refine yS (fun s=>s.f 0=.str tx∧s.f 1=vi at_∧0≤s.next) ?_ ?_
 · repeat' with_reducible first
    |refine s_ ?_
    |simp only[wZZ,seval]
   all_goals(refine⟨?_,?_,?_⟩)
   all_goals((try simp only[wL,wM,wN,seval]);try(first|rfl|omega))
 intro s ⟨g0,g1,hnx⟩
 refine kV ?_
 refine kU ?_
 refine yS (fun s=>s.f 0=.str tx∧s.f 1=vi at_∧s.f 9=.bool (decide (tx[at_].toNat=34) || decide (tx[at_].toNat=39))∧0≤s.next) ?_ ?_
 · repeat' with_reducible first
    |refine s_ ?_
    |simp only[wZZ,seval,g0,g1]
    |(first|apply qg|apply qh)<;>intro h h_<;>(try simp only[wD,reduceCtorEq]at h_)<;>(try exact wb_)<;>(try simp only[h])
    |refine t_ ?_
   all_goals(refine⟨?_,?_,?_,?_⟩)
   all_goals((try simp only[wL,wM,wN,seval,g0,g1]);try(first|rfl|omega))
   all_goals(refine congrArg V.bool ?_;rw[Bool.eq_iff_iff];simp;omega)
 intro s ⟨g0,g1,g9,hnx⟩
 by_cases h1:tx[at_].toNat=34∨tx[at_].toNat=39
 · rw [if_pos h1]at he
   rw[he]
   generalize hR:X8 tx[at_] (tx.drop (at_+1)) ((at_:Int)+1)=R
   have hb:(decide (tx[at_].toNat=34) || decide (tx[at_].toNat=39))=true:=by simpa using h1
   repeat' with_reducible first
    |refine s_ ?_
    |simp only[wZZ,seval,g0,g1,g9,hb]
    |simp(disch:=omega) only[w64,if_neg]
   refine qb ?nx1 (fun(k:Nat) s=>s.f 0=?v1_0∧s.f 1=?v1_1∧s.f 5=vi k∧(k≤tx.length+1)∧(X8 tx[at_] (tx.drop k) k=R)) (fun k=>tx.length+1 - k) (at_+1) wj_ (by refine⟨?_,?_,?_,wo_,(by rw[← hR];rfl)⟩<;>first|(simp only[wL,wM,wN,wX,seval,Option.some.injEq,g0,g1,g9]<;>exact wt_)|rfl|exact⟨_,rfl⟩) ?_
   intro k s hnx ⟨g0,g1,g5,k1_0,k1_1⟩
   by_cases hk:k<tx.length
   · have hd:tx.drop k=tx[k]::tx.drop (k+1):=List.drop_eq_getElem_cons hk
     have hz:=w1_ k
     rw[hd,qcQ]at k1_1
     repeat' with_reducible first
      |refine s_ ?_
      |simp only[wZZ,seval,g0,g1,g5,hz]
      |(first|apply qa|apply qg|apply qh)<;>intro h h_<;>(try simp only[wD,reduceCtorEq]at h_)<;>(try exact wb_)<;>(try simp only[h])
      |refine t_ ?_
      |simp(disch:=omega) only[w64,if_neg]
     · refine qA rfl (Or.inr rfl) ?_
       simp only[wL,seval,g0,g1,g5]
       refine er_ ?_
       try(with_reducible rfl)
       rw[← k1_1,if_neg o_,if_pos o_];rfl
     · refine qA rfl (Or.inr rfl) ?_
       simp only[wL,seval,g0,g1,g5]
       refine er_ ?_
       try(with_reducible rfl)
       rw[← k1_1,if_neg o_,if_neg o_,if_pos o_,List.drop_eq_getElem_cons (show k+1<tx.length by omega),List.headD_cons,if_pos o_]
     · refine⟨wk_,k+2,o_,?_⟩
       refine⟨?_,?_,?_,?_,?_⟩
       iterate 3 (focus(first|(simp only[wL,wM,wN,wX,seval,Option.some.injEq,g0,g1,g5]<;>exact wt_)|rfl|exact⟨_,rfl⟩))
       all_goals try omega
       rw[← k1_1,if_neg o_,if_neg o_,if_pos o_,List.drop_eq_getElem_cons (show k+1<tx.length by omega),List.headD_cons,if_neg o_];rfl
     · refine⟨wk_,k+2,o_,?_⟩
       refine⟨?_,?_,?_,?_,?_⟩
       iterate 3 (focus(first|(simp only[wL,wM,wN,wX,seval,Option.some.injEq,g0,g1,g5]<;>exact wt_)|rfl|exact⟨_,rfl⟩))
       all_goals try omega
       rw[← k1_1,if_neg o_,if_neg o_,if_pos o_,List.drop_eq_nil_of_le (show tx.length≤k+1 by omega),List.drop_eq_nil_of_le (show tx.length≤k+2 by omega)];rfl
     · refine⟨wk_,k+1,o_,?_⟩
       refine⟨?_,?_,?_,?_,?_⟩
       iterate 3 (focus(first|(simp only[wL,wM,wN,wX,seval,Option.some.injEq,g0,g1,g5]<;>exact wt_)|rfl|exact⟨_,rfl⟩))
       all_goals try omega
       rw[← k1_1,if_neg o_,if_neg o_,if_neg o_];rfl
     · refine qA rfl (Or.inr rfl) ?_
       simp only[wL,seval,g0,g1,g5]
       refine er_ ?_
       try(with_reducible rfl)
       rw[← k1_1,if_pos o_]
   · rw[List.drop_eq_nil_of_le o_]at k1_1
     repeat' with_reducible first
      |refine s_ ?_
      |simp only[wZZ,seval,g0,g1,g5]
      |(first|apply qg|apply qh)<;>intro h h_<;>(try simp only[wD,reduceCtorEq]at h_)<;>(try exact wb_)<;>(try simp only[h])
     refine qA rfl (Or.inr rfl) ?_
     simp only[wL,seval,g0,g1,g5]
     refine er_ ?_
     try(with_reducible rfl)
     rw[← k1_1];rfl
 · skip
   rw[if_neg h1]at he
   have hb:(decide (tx[at_].toNat=34) || decide (tx[at_].toNat=39))=false:=by simpa using h1
   by_cases h2:tx[at_].toNat=96
   · rw [if_pos h2]at he
     rw[he]
     generalize hR:Vt (tx.drop (at_+1)) ((at_:Int)+1)=R
     repeat' with_reducible first
      |refine s_ ?_
      |simp only[wZZ,seval,g0,g1,g9,hb]
      |apply qa<;>intro h h_<;>(try simp only[wD,reduceCtorEq]at h_)<;>(try exact wb_)<;>(try simp only[h])
      |refine t_ ?_
      |simp(disch:=omega) only[w64,if_neg]
     refine qb ?nx2 (fun(k:Nat) s=>s.f 0=?v2_0∧s.f 6=vi k∧(k≤tx.length)∧(Vt (tx.drop k) k=R)) (fun k=>tx.length - k) (at_+1) wj_ (by refine⟨?_,?_,wo_,(by rw[← hR];rfl)⟩<;>first|(simp only[wL,wM,wN,wX,seval,Option.some.injEq,g0,g1,g9]<;>exact wt_)|rfl|exact⟨_,rfl⟩) ?_
     intro k s hnx ⟨g0,g6,k2_0,k2_1⟩
     by_cases hk:k<tx.length
     · rw[List.drop_eq_getElem_cons hk,Vt]at k2_1
       repeat' with_reducible first
        |refine s_ ?_
        |simp only[wZZ,seval,g0,g6]
        |apply qa<;>intro h h_<;>(try simp only[wD,reduceCtorEq]at h_)<;>(try exact wb_)<;>(try simp only[h])
        |refine t_ ?_
        |simp(disch:=omega) only[w64,if_neg]
       · refine qA rfl (Or.inr rfl) ?_
         simp only[wL,seval,g0,g6]
         refine er_ ?_
         try(with_reducible rfl)
         rw[← k2_1,if_pos o_];rfl
       · refine⟨wk_,k+1,o_,?_⟩
         refine⟨?_,?_,?_,?_⟩
         iterate 2 (focus(first|(simp only[wL,wM,wN,wX,seval,Option.some.injEq,g0,g6]<;>exact wt_)|rfl|exact⟨_,rfl⟩))
         all_goals try omega
         rw[← k2_1,if_neg o_];rfl
     · rw[List.drop_eq_nil_of_le o_]at k2_1
       repeat' with_reducible first
        |refine s_ ?_
        |simp only[wZZ,seval,g0,g6]
        |apply qa<;>intro h h_<;>(try simp only[wD,reduceCtorEq]at h_)<;>(try exact wb_)<;>(try simp only[h])
       refine qA rfl (Or.inr rfl) ?_
       simp only[wL,seval,g0,g6]
       refine er_ ?_
       try(with_reducible rfl)
       rw[← k2_1];rfl
   · skip
     rw[if_neg h2]at he
     by_cases h3:jY tx at_ [47,47]=true
     · rw [if_pos h3]at he
       rw[he]
       generalize hR:YR (tx.drop at_) at_=R
       repeat' with_reducible first
        |refine s_ ?_
        |simp only[wZZ,seval,g0,g1,g9,hb,h3]
        |apply qa<;>intro h h_<;>(try simp only[wD,reduceCtorEq]at h_)<;>(try exact wb_)<;>(try simp only[h])
        |refine t_ ?_
        |refine Qm we_ we_ we_ (jd wf_ wf_ wf_ wf_) ?_
       refine qb ?nx3 (fun(k:Nat) s=>s.f 0=?v3_0∧s.f 7=vi k∧(k≤tx.length)∧(YR (tx.drop k) k=R)) (fun k=>tx.length - k) (at_) wj_ (by refine⟨?_,?_,wo_,(by rw[← hR])⟩<;>first|(simp only[wL,wM,wN,wX,seval,Option.some.injEq,g0,g1,g9]<;>exact wt_)|rfl|exact⟨_,rfl⟩) ?_
       intro k s hnx ⟨g0,g7,k3_0,k3_1⟩
       by_cases hk:k<tx.length
       · rw[List.drop_eq_getElem_cons hk,YR]at k3_1
         repeat' with_reducible first
          |refine s_ ?_
          |simp only[wZZ,seval,g0,g7]
          |(first|apply qa|apply qg|apply qh)<;>intro h h_<;>(try simp only[wD,reduceCtorEq]at h_)<;>(try exact wb_)<;>(try simp only[h])
          |refine t_ ?_
          |simp(disch:=omega) only[w64,if_neg]
         · refine⟨wk_,k+1,o_,?_⟩
           refine⟨?_,?_,?_,?_⟩
           iterate 2 (focus(first|(simp only[wL,wM,wN,wX,seval,Option.some.injEq,g0,g7]<;>exact wt_)|rfl|exact⟨_,rfl⟩))
           all_goals try omega
           rw[← k3_1,if_neg o_];rfl
         · refine qA rfl (Or.inr rfl) ?_
           simp only[wL,seval,g0,g7]
           refine er_ ?_
           try(with_reducible rfl)
           rw[← k3_1,if_pos o_]
       · rw[List.drop_eq_nil_of_le o_]at k3_1
         repeat' with_reducible first
          |refine s_ ?_
          |simp only[wZZ,seval,g0,g7]
          |(first|apply qg|apply qh)<;>intro h h_<;>(try simp only[wD,reduceCtorEq]at h_)<;>(try exact wb_)<;>(try simp only[h])
         refine qA rfl (Or.inr rfl) ?_
         simp only[wL,seval,g0,g7]
         refine er_ ?_
         try(with_reducible rfl)
         rw[← k3_1];rfl
     · skip
       rw[if_neg h3]at he
       have h3b:jY tx at_ [47,47]=false:=by simpa using h3
       by_cases h4:jY tx at_ [47,42]=true
       · rw [if_pos h4]at he
         rw[he]
         generalize hR:Yz tx (tx.length - (at_+2)) ((at_:Int)+2)=R
         repeat' with_reducible first
          |refine s_ ?_
          |simp only[wZZ,seval,g0,g1,g9,hb,h3b,h4]
          |apply qa<;>intro h h_<;>(try simp only[wD,reduceCtorEq]at h_)<;>(try exact wb_)<;>(try simp only[h])
          |refine t_ ?_
          |refine Qm we_ we_ we_ (jd wf_ wf_ wf_ wf_) ?_
          |simp(disch:=omega) only[w64,if_neg]
         refine qb ?nx4 (fun(k:Nat) s=>s.f 0=?v4_0∧s.f 8=vi k∧(Yz tx (tx.length - k) k=R)) (fun k=>tx.length - k) (at_+2) wj_ (by refine⟨?_,?_,(by rw[← hR];rfl)⟩<;>first|(simp only[wL,wM,wN,wX,seval,Option.some.injEq,g0,g1,g9]<;>exact wt_)|rfl|exact⟨_,rfl⟩) ?_
         intro k s hnx ⟨g0,g8,k4_0⟩
         by_cases hk:k<tx.length
         · rw[show tx.length - k=(tx.length - (k+1))+1 by omega,Yz]at k4_0
           repeat' with_reducible first
            |refine s_ ?_
            |simp only[wZZ,seval,g0,g8]
            |apply qa<;>intro h h_<;>(try simp only[wD,reduceCtorEq]at h_)<;>(try exact wb_)<;>(try simp only[h])
            |refine Qm we_ we_ we_ (jd wf_ wf_ wf_ wf_) ?_
            |simp(disch:=omega) only[w64,if_neg]
           · refine qA rfl (Or.inr rfl) ?_
             simp only[wL,seval,g0,g8]
             refine er_ ?_
             try(with_reducible rfl)
             rw[← k4_0,if_pos (by assumption)]
           · refine⟨wk_,k+1,o_,?_⟩
             refine⟨?_,?_,?_⟩
             iterate 2 (focus(first|(simp only[wL,wM,wN,wX,seval,Option.some.injEq,g0,g8]<;>exact wt_)|rfl|exact⟨_,rfl⟩))
             all_goals try omega
             rw[← k4_0,if_neg (by simp_all)];rfl
         · rw[show tx.length - k=0 by omega,Yz]at k4_0
           repeat' with_reducible first
            |refine s_ ?_
            |simp only[wZZ,seval,g0,g8]
            |apply qa<;>intro h h_<;>(try simp only[wD,reduceCtorEq]at h_)<;>(try exact wb_)<;>(try simp only[h])
           refine qA rfl (Or.inr rfl) ?_
           simp only[wL,seval,g0,g8]
           refine er_ ?_
           try(with_reducible rfl)
           exact k4_0
       · skip
         rw[if_neg h4]at he
         have h4b:jY tx at_ [47,42]=false:=by simpa using h4
         rw[he]
         repeat' with_reducible first
          |refine s_ ?_
          |simp only[wZZ,seval,g0,g1,g9,hb,h3b,h4b]
          |apply qa<;>intro h h_<;>(try simp only[wD,reduceCtorEq]at h_)<;>(try exact wb_)<;>(try simp only[h])
          |refine t_ ?_
          |refine Qm we_ we_ we_ (jd wf_ wf_ wf_ wf_) ?_
         refine qA rfl (Or.inr rfl) ?_
         simp only[wL,seval,g0,g1,g9]
         refine er_ ?_
         try(with_reducible rfl)
end Go.Proofs
