/- Part of a proof that a law of the given program answers true. -/
import Derived.Test.YthgkeppkcjcmjaaDCA
import Derived.Test.YthgkeppkcjcmjaaDEC
set_option linter.unusedSimpArgs false
set_option linter.unusedVariables false
namespace Go.Proofs
open Go.E
theorem Zf {a:List Int} {x:Int} (ha:a.length≤4611686018427387903):Pure Try.prog 34 [ints a,vi x] (.bool (decide (x∈a))):=by
 refine pure_intro Try.func34 qvx qzS (by show 2≤18;decide) ?_
 show ewp _ qjk _ _
 repeat' with_reducible first
  |refine s_ ?_
  |simp only[wZZ,seval]
 refine qd ?nx1 (fun(k:Nat) s=>s.f 0=?v1_0∧s.f 1=?v1_1∧s.f 5=vi k∧(k≤a.length)∧(x ∉ a.take k)) (fun k=>a.length - k) (0) wj_ (by refine⟨?_,?_,?_,wo_,wo_⟩<;>first|(simp only[wL,wM,wN,wX,seval,Option.some.injEq]<;>exact wt_)|rfl|exact⟨_,rfl⟩) ?_
 intro k s hnx ⟨g0,g1,g5,k1_0,k1_1⟩
 repeat' with_reducible first
  |refine s_ ?_
  |simp only[wZZ,seval,g0,g1,g5]
  |apply qa<;>intro h h_<;>(try simp only[wD,reduceCtorEq]at h_)<;>(try exact wb_)<;>(try simp only[h])
  |refine t_ ?_
  |simp(disch:=omega) only[w64,if_neg]
 · refine qw rfl (Or.inr rfl) ?_
   simp only[wL,seval,g0,g1,g5]
   refine er_ ?_
   try(with_reducible rfl)
   rw[eq_comm,decide_eq_true_eq,← h_];exact List.getElem_mem _
 · refine⟨wk_,k+1,(by omega),?_⟩
   refine⟨?_,?_,?_,?_,?_⟩
   iterate 3 (focus(first|(simp only[wL,wM,wN,wX,seval,Option.some.injEq,g0,g1,g5]<;>exact wt_)|rfl|exact⟨_,rfl⟩))
   all_goals try omega
   rw[List.take_add_one,ge_ (by omega)]
   simp only[Option.toList_some,List.mem_append,List.mem_singleton,not_or]
   exact⟨k1_1,fun e=>h_ e.symm⟩
 · refine qw rfl (Or.inr rfl) ?_
   simp only[wL,seval,g0,g1,g5]
   refine er_ ?_
   try(with_reducible rfl)
   rw[eq_comm,decide_eq_false_iff_not]
   rwa [List.take_of_length_le (by omega)]at k1_1
theorem qef {α:Type} {a b:List α} {k:Nat} (hk: ∀i,i<k→a[i]?=b[i]?) (h1:a.length≤k) (h2:b.length≤k):a=b:=by
 refine List.ext_getElem? fun i=>?_
 by_cases hi:i<k
 · exact hk i hi
 · rw[List.getElem?_eq_none (by omega),List.getElem?_eq_none (by omega)]
theorem qlj {α:Type} {a b:List α} {k:Nat} (hk: ∀i,i<k→a[i]?=b[i]?) (h1:k<a.length) (h2:k<b.length) (e:a[k]=b[k]): ∀i,i<k+1→a[i]?=b[i]?:=by
 intro i hi
 by_cases he:i=k
 · subst he;rw[ge_ h1,ge_ h2,e]
 · exact hk i (by omega)
theorem vY {a b:List Int} (ha:a.length≤4611686018427387903) (hb:b.length≤4611686018427387903):Pure Try.prog 21 [ints a,ints b] (.bool (decide (a=b))):=by
 refine pure_intro Try.func21 qFn qyS (by show 2≤26;decide) ?_
 show ewp _ qhP _ _
 repeat' with_reducible first
  |refine s_ ?_
  |simp only[wZZ,seval]
  |apply qa<;>intro h h_<;>(try simp only[wD,reduceCtorEq]at h_)<;>(try exact wb_)<;>(try simp only[h])
 · refine qw rfl (Or.inr rfl) ?_
   simp only[wL,seval]
   refine er_ ?_
   try(with_reducible rfl)
   rw[eq_comm,decide_eq_false_iff_not]
   intro e;subst e;exact h_ rfl
 refine qd ?nx1 (fun(k:Nat) s=>s.f 0=?v1_0∧s.f 1=?v1_1∧s.f 5=vi k∧(k≤a.length)∧(∀i,i<k→a[i]?=b[i]?)) (fun k=>a.length - k) (0) wj_ (by refine⟨?_,?_,?_,wo_,wo_⟩<;>first|(simp only[wL,wM,wN,wX,seval,Option.some.injEq]<;>exact wt_)|rfl|exact⟨_,rfl⟩) ?_
 intro k s hnx ⟨g0,g1,g5,k1_0,k1_1⟩
 repeat' with_reducible first
  |refine s_ ?_
  |simp only[wZZ,seval,g0,g1,g5]
  |apply qa<;>intro h h_<;>(try simp only[wD,reduceCtorEq]at h_)<;>(try exact wb_)<;>(try simp only[h])
  |refine t_ ?_
  |simp(disch:=omega) only[w64,if_neg]
 · refine qw rfl (Or.inr rfl) ?_
   simp only[wL,seval,g0,g1,g5]
   refine er_ ?_
   try(with_reducible rfl)
   rw[eq_comm,decide_eq_false_iff_not]
   intro e;subst e;exact h_ rfl
 · refine⟨wk_,k+1,(by omega),?_⟩
   refine⟨?_,?_,?_,?_,?_⟩
   iterate 3 (focus(first|(simp only[wL,wM,wN,wX,seval,Option.some.injEq,g0,g1,g5]<;>exact wt_)|rfl|exact⟨_,rfl⟩))
   all_goals try omega
   exact qlj k1_1 (by omega) (by omega) (by simpa using h_)
 · refine qw rfl (Or.inr rfl) ?_
   simp only[wL,seval,g0,g1,g5]
   refine er_ ?_
   try(with_reducible rfl)
   rw[eq_comm,decide_eq_true_eq]
   exact qef k1_1 (by omega) (by omega)
def YL (l:List Int) (x:Int):Nat→Nat
 |0=>0
 |k+1=>if x<l.getD k 0 then YL l x k else k+1
theorem Zx (l:List Int) (x:Int) (k:Nat):YL l x (k+1)=if x<l.getD k 0 then YL l x k else k+1:=rfl
theorem qbO (l:List Int) (x:Int) (k:Nat):YL l x k≤k:=by
 induction k with
 |zero=>exact Nat.le_refl _
 |succ k ih=>unfold YL;split<;>omega
def jw (l:List Int) (x:Int):List Int:=
 if 0<YL l x l.length∧l.getD (YL l x l.length - 1) 0=x then l else l.take (YL l x l.length)++[x]++l.drop (YL l x l.length)
theorem Jb (l:List Int) (x:Int):(jw l x).length≤l.length+1:=by
 unfold jw;split
 · omega
 · simp;have:=qbO l x l.length;omega
theorem getD_eq {l:List Int} {k:Nat} (h:k<l.length):l.getD k 0=l[k]:=by simp[List.getD,h]
theorem zH {l:List Int} {x:Int} (hl:l.length≤1099511627776):Pure Try.prog 57 [ints l,vi x] (ints (jw l x)):=by
 refine pure_intro Try.func57 qAr qul (by show 2≤47;decide) ?_
 show ewp _ qju _ _
 repeat' with_reducible first
  |refine s_ ?_
  |simp only[wZZ,seval]
 refine qd ?nx1 (fun(k:Nat) s=>s.f 0=?v1_0∧s.f 1=?v1_1∧s.f 5=vi k∧(k≤l.length)∧(YL l x k=YL l x l.length)) (fun k=>k) (l.length) wj_ (by refine⟨?_,?_,?_,wo_,wo_⟩<;>first|(simp only[wL,wM,wN,wX,seval,Option.some.injEq]<;>exact wt_)|rfl|exact⟨_,rfl⟩) ?_
 intro k s hnx ⟨g0,g1,g5,k1_0,k1_1⟩
 by_cases hk:k=0
 · subst hk
   have hc:YL l x l.length=0:=k1_1.symm
   have hp:jw l x=[]++[x]++l:=by unfold jw;rw[hc];simp
   rw[hp]
   repeat' with_reducible first
    |refine s_ ?_
    |simp only[wZZ,seval,g0,g1,g5]
    |apply QF;(focus(first|exact qI.sl|exact qI.asl|exact qI.str));exact wf_;(focus(unfold maxLen;first|omega|(simp only[wZ]<;>omega)))
    |(refine Q8 ?_;simp only[wM,wN,seval,g0,g1,g5];apply XI;(focus(first|exact qI.sl|exact qI.asl|exact qI.str));(exact wf_);(focus(unfold maxLen;first|omega|(simp only[wZ]<;>omega))))
    |apply xJ;omega;exact wf_
    |apply vH;omega;exact wf_
   refine qw rfl (Or.inr rfl) ?_
   simp only[wL,seval,g0,g1,g5]
   refine er_ ?_
   try(with_reducible rfl)
   simp
 · obtain ⟨m,rfl⟩: ∃m,k=m+1:=⟨k - 1,by omega⟩
   have hm:m<l.length:=by omega
   rw[Zx,getD_eq hm]at k1_1
   by_cases hgt:x<l[m]
   · rw[if_pos hgt]at k1_1
     repeat' with_reducible first
      |refine s_ ?_
      |simp only[wZZ,seval,g0,g1,g5]
      |(first|apply qa|apply qh|apply qg)<;>intro h h_<;>(try simp only[wD,reduceCtorEq]at h_)<;>(try exact wb_)<;>(try simp only[h])
      |refine t_ ?_
      |simp(disch:=omega) only[w64,if_neg]
     refine⟨wk_,m,(by omega),?_⟩
     refine⟨?_,?_,?_,?_,?_⟩
     iterate 3 (focus(first|(simp only[wL,wM,wN,wX,seval,Option.some.injEq,g0,g1,g5]<;>exact wt_)|rfl|exact⟨_,rfl⟩))
     all_goals try omega
   · rw [if_neg hgt]at k1_1
     have hp:jw l x=if l[m]=x then l else l.take (m+1)++[x]++l.drop (m+1):=by
      unfold jw;rw[← k1_1];simp[ge_ hm]
     by_cases hx:l[m]=x
     · rw[hp,if_pos hx]
       repeat' with_reducible first
        |refine s_ ?_
        |simp only[wZZ,seval,g0,g1,g5]
        |(first|apply qa|apply qh|apply qg)<;>intro h h_<;>(try simp only[wD,reduceCtorEq]at h_)<;>(try exact wb_)<;>(try simp only[h])
        |refine t_ ?_
        |simp(disch:=omega) only[w64,if_neg]
       refine qw rfl (Or.inr rfl) ?_
       simp only[wL,seval,g0,g1,g5]
       refine er_ ?_
       try(with_reducible rfl)
     · rw[hp,if_neg hx]
       repeat' with_reducible first
        |refine s_ ?_
        |simp only[wZZ,seval,g0,g1,g5]
        |(first|apply qa|apply qh|apply qg)<;>intro h h_<;>(try simp only[wD,reduceCtorEq]at h_)<;>(try exact wb_)<;>(try simp only[h])
        |refine t_ ?_
        |apply QF;(focus(first|exact qI.sl|exact qI.asl|exact qI.str));exact wf_;(focus(unfold maxLen;first|omega|(simp only[wZ]<;>omega)))
        |(refine Q8 ?_;simp only[wM,wN,seval,g0,g1,g5];apply XI;(focus(first|exact qI.sl|exact qI.asl|exact qI.str));(exact wf_);(focus(unfold maxLen;first|omega|(simp only[wZ]<;>omega))))
        |apply xJ;omega;exact wf_
        |apply vH;omega;exact wf_
        |simp(disch:=omega) only[w64,if_neg]
       refine qw rfl (Or.inr rfl) ?_
       simp only[wL,seval,g0,g1,g5]
       refine er_ ?_
       try(with_reducible rfl)

structure Sym where
 name:List UInt8:=[]
 lit:Bool:=false
 num:Int:=0
 at_:Int:=0
 deriving DecidableEq,Inhabited
structure Part where
 sym:Sym:={}
 code:List UInt8:=[]
 at_:Int:=0
 deriving DecidableEq,Inhabited
structure Alt where
 parts:List Part:=[]
 prec:Sym:={}
 at_:Int:=0
 deriving DecidableEq,Inhabited
structure Rule where
 left:List UInt8:=[]
 alts:List Alt:=[]
 at_:Int:=0
 deriving DecidableEq,Inhabited
structure Decl where
 kind:Int:=0
 tag:List UInt8:=[]
 syms:List Sym:=[]
 at_:Int:=0
 deriving DecidableEq,Inhabited
structure Source where
 pro:List UInt8:=[]
 decls:List Decl:=[]
 rules:List Rule:=[]
 tail:List UInt8:=[]
 deriving DecidableEq,Inhabited
@[reducible] def Sym.V (x:Sym):V:= .agg [.str x.name,.bool x.lit,vi x.num,vi x.at_]
@[reducible] def Part.V (x:Part):V:= .agg [.str x.sym.name,.bool x.sym.lit,vi x.sym.num,vi x.sym.at_,.str x.code,vi x.at_]
@[reducible] def Alt.V (x:Alt):V:= .agg [.sl 6 false (x.parts.map Part.V),.str x.prec.name,.bool x.prec.lit,vi x.prec.num,vi x.prec.at_,vi x.at_]
@[reducible] def Rule.V (x:Rule):V:= .agg [.str x.left,.sl 6 false (x.alts.map Alt.V),vi x.at_]
@[reducible] def Decl.V (x:Decl):V:= .agg [vi x.kind,.str x.tag,.sl 4 false (x.syms.map Sym.V),vi x.at_]
@[reducible] def Source.V (x:Source):V:= .agg [.str x.pro,.sl 4 false (x.decls.map Decl.V),.sl 3 false (x.rules.map Rule.V),.str x.tail]
theorem KR {i n:Int} (hn:0<n) (h:n≤4611686018427387904):(if i.tmod n<0 then IntKind.i64.wrap (i.tmod n+n)else i.tmod n)=i % n:=by
 have h1:=Int.tmod_lt_of_pos i hn
 have h2: - n<i.tmod n:=by
  have:=Int.tmod_lt_of_pos (-i) hn
  rw[Int.neg_tmod]at this;omega
 have e:i.tmod n=i % n∨i.tmod n+n=i % n:=by
  rw[Int.tmod_eq_emod]
  have:=Int.emod_lt_of_pos i hn
  have:=Int.emod_nonneg i (show n≠0 by omega)
  split
  · left;omega
  · right;omega
 have h3:=Int.emod_nonneg i (show n≠0 by omega)
 have h4:=Int.emod_lt_of_pos i hn
 split
 · rw[wrap64 (by omega) (by omega)];omega
 · omega
theorem qB {i n:Int} (hn:0<n) (hm:n≤4611686018427387904):Pure Try.prog 20 [vi i,vi n] (vi (i % n)):=by
 refine pure_intro Try.func20 qDK qva (by show 2≤15;decide) ?_
 show ewp _ qje _ _
 have e:=KR (i:=i) hn hm
 by_cases h:i.tmod n<0
 · rw[if_pos h]at e
   have hne: ¬ (n=0):=by omega
   repeat' with_reducible first
    |refine s_ ?_
    |simp only[wZZ,seval,hne,e]
    |apply qa<;>intro h h_<;>(try simp only[wD,reduceCtorEq]at h_)<;>(try exact wb_)<;>(try simp only[h])
   refine qw rfl (Or.inr rfl) ?_
   simp only[wL,seval]
   refine er_ ?_
   try(with_reducible rfl)
 · rw[if_neg h]at e
   have hne: ¬ (n=0):=by omega
   repeat' with_reducible first
    |refine s_ ?_
    |simp only[wZZ,seval,hne,e]
    |apply qa<;>intro h h_<;>(try simp only[wD,reduceCtorEq]at h_)<;>(try exact wb_)<;>(try simp only[h])
   refine qw rfl (Or.inr rfl) ?_
   simp only[wL,seval]
   refine er_ ?_
   try(with_reducible rfl)

@[reducible] def Qu (s:List UInt8) (n:Int):List UInt8:=s.take n.toNat
theorem zN {s:List UInt8} {n:Int} (hs:s.length≤1099511627776) (hn:0≤n):Pure Try.prog 42 [.str s,vi n] (.str (Qu s n)):=by
 refine pure_intro Try.func42 qwx qw4 (by show 2≤13;decide) ?_
 show ewp _ qIY _ _
 by_cases h:n<s.length
 · repeat' with_reducible first
    |refine s_ ?_
    |simp only[wZZ,seval]
    |apply qa<;>intro h h_<;>(try simp only[wD,reduceCtorEq]at h_)<;>(try exact wb_)<;>(try simp only[h])
    |apply qvj;omega;omega
   refine qw rfl (Or.inr rfl) ?_
   simp only[wL,seval]
   refine er_ ?_
   try(with_reducible rfl)
 · have e:Qu s n=s:=List.take_of_length_le (by omega)
   rw[e]
   repeat' with_reducible first
    |refine s_ ?_
    |simp only[wZZ,seval]
    |apply qa<;>intro h h_<;>(try simp only[wD,reduceCtorEq]at h_)<;>(try exact wb_)<;>(try simp only[h])
   refine qw rfl (Or.inr rfl) ?_
   simp only[wL,seval]
   refine er_ ?_
   try(with_reducible rfl)
@[reducible] def QW (x:Sym):Sym:=⟨Qu x.name 25,x.lit,x.num,x.at_⟩
theorem j3 {x:Sym} (hs:x.name.length≤1099511627776):Pure Try.prog 43 [x.V] ((QW x).V):=by
 refine pure_intro Try.func43 qFy qyY (by show 1≤13;decide) ?_
 show ewp _ qwl _ _
 repeat' with_reducible first
  |refine s_ ?_
  |simp only[wZZ,seval]
  |refine t_ ?_
  |refine jA we_ we_ (zN wf_ wf_) ?_
 apply QN (t:=2) rfl (Or.inr rfl);(focus(first|rfl|((try simp only[wL,wM,wN,seval]);rfl)));(focus(first|rfl|((try simp only[wL,wM,wN,seval]);rfl)));(exact wu_);(try exact qb)
def KA (c:UInt8):Bool:=(decide (97≤c.toNat) && decide (c.toNat≤122)) || (decide (65≤c.toNat) && decide (c.toNat≤90)) || decide (c.toNat=95)
def qcg (c:UInt8):Bool:=decide (48≤c.toNat) && decide (c.toNat≤57)
theorem JZ {c:UInt8}:Pure Try.prog 116 [.int .u8 c.toNat] (.bool (KA c)):=by
 refine pure_intro Try.func116 qnT qqO (by show 1≤21;decide) ?_
 show ewp _ qif _ _
 repeat' with_reducible first
  |refine s_ ?_
  |simp only[wZZ,seval]
  |(first|apply qh|apply qg)<;>intro h h_<;>(try simp only[wD,reduceCtorEq]at h_)<;>(try exact wb_)<;>(try simp only[h])
 all_goals refine qw rfl (Or.inr rfl) ?_
 all_goals(try simp only[wL,seval])
 all_goals refine er_ ?_
 all_goals(try(with_reducible rfl))
 all_goals(rw[Bool.eq_iff_iff];simp[KA];omega)
theorem Yj {c:UInt8}:Pure Try.prog 117 [.int .u8 c.toNat] (.bool (qcg c)):=by
 refine pure_intro Try.func117 qpu qnd (by show 1≤9;decide) ?_
 show ewp _ qjo _ _
 repeat' with_reducible first
  |refine s_ ?_
  |simp only[wZZ,seval]
  |(first|apply qh|apply qg)<;>intro h h_<;>(try simp only[wD,reduceCtorEq]at h_)<;>(try exact wb_)<;>(try simp only[h])
 all_goals refine qw rfl (Or.inr rfl) ?_
 all_goals(try simp only[wL,seval])
 all_goals refine er_ ?_
 all_goals(try(with_reducible rfl))
 all_goals(rw[Bool.eq_iff_iff];simp[qcg];omega)
def V9:List UInt8:=[112,113,114,115]
theorem Js:Pure Try.prog 70 [] (.str V9):=by
 refine pure_intro Try.func70 qIv qr7 (by show 0≤1;decide) ?_
 show ewp _ qHP _ _
 repeat' with_reducible first
  |refine s_ ?_
  |simp only[wZZ,seval]
 refine qw rfl (Or.inr rfl) ?_
 simp only[wL,seval]
 refine er_ ?_
 try(with_reducible rfl)
 rfl
def jW (s:List UInt8) (at_:Int) (w:List UInt8):Bool:=decide (at_+w.length≤s.length) && decide ((s.take (at_+w.length).toNat).drop at_.toNat=w)
theorem jg {s w:List UInt8} {at_:Int} (hs:s.length≤1099511627776) (hw:w.length≤1099511627776) (ha:0≤at_) (hb:at_≤1099511627776):Pure Try.prog 119 [.str s,vi at_,.str w] (.bool (jW s at_ w)):=by
 refine pure_intro Try.func119 qk4 qmR (by show 3≤25;decide) ?_
 show ewp _ qjp _ _
 have h1:IntKind.i64.wrap ((s.length:Int) - at_)=(s.length:Int) - at_:=wrap64 (by omega) (by omega)
 repeat' with_reducible first
  |refine s_ ?_
  |simp only[wZZ,seval,h1]
  |(first|apply qh|apply qg)<;>intro h h_<;>(try simp only[wD,reduceCtorEq]at h_)<;>(try exact wb_)<;>(try simp only[h])
  |apply V5;omega;omega;omega
  |simp(disch:=omega) only[w64,if_neg]
 all_goals refine qw rfl (Or.inr rfl) ?_
 all_goals(try simp only[wL,seval])
 all_goals refine er_ ?_
 all_goals(try(with_reducible rfl))
 · unfold jW
   have e:decide (at_+(w.length:Int)≤(s.length:Int))=true:=by rw[decide_eq_true_eq];omega
   rw[e];rfl
 · unfold jW
   have e:decide (at_+(w.length:Int)≤(s.length:Int))=false:=by rw[decide_eq_false_iff_not];omega
   rw[e];rfl
def qbz (c:UInt8):Bool:=decide (c.toNat=10) || decide (c.toNat=9) || decide (c.toNat=13) || decide (c.toNat=92) || decide (c.toNat=39) || (decide (32≤c.toNat) && decide (c.toNat≤126))
def qik (c:UInt8):UInt8:=if c.toNat=10 then 110 else if c.toNat=9 then 116 else if c.toNat=13 then 114 else if c.toNat=92 then c else if c.toNat=39 then c else 0
theorem Xb {c:UInt8}:Pure Try.prog 115 [.int .u8 c.toNat] (.tup [.int .u8 (qik c).toNat,.bool (qbz c)]):=by
 refine pure_intro Try.func115 qqZ qp7 (by show 1≤21;decide) ?_
 show ewp _ qge _ _
 repeat' with_reducible first
  |refine s_ ?_
  |simp only[wZZ,seval]
  |(first|apply qa|apply qh|apply qg)<;>intro h h_<;>(try simp only[wD,reduceCtorEq]at h_)<;>(try exact wb_)<;>(try simp only[h])
 all_goals refine qeD rfl (Or.inr rfl) ?_
 all_goals(try simp only[wL,seval])
 all_goals(refine qoU ?_ ?_<;>refine er_ ?_<;>(try(with_reducible rfl)))
 all_goals first
  |(unfold qik;(repeat' split)<;>first|(exfalso;omega)|rfl)
  |(rw[Bool.eq_iff_iff];simp[qbz];omega)
@[reducible] def K7 (k:Int):List UInt8:=[UInt8.ofNat (97+k).toNat]
theorem vz {k:Int} (h0:0≤k) (h1:k<100):Pure Try.prog 45 [vi k] (.str (K7 k)):=by
 refine pure_intro Try.func45 qEM qDR (by show 1≤8;decide) ?_
 show ewp _ qyz _ _
 have hw:IntKind.u8.wrap (97+k)=97+k:=by unfold IntKind.wrap;simp[IntKind.bits,IntKind.signed];omega
 repeat' with_reducible first
  |refine s_ ?_
  |simp only[wZZ,seval,hw]
  |apply qA3;omega;omega
  |simp(disch:=omega) only[w64,if_neg]
 refine qw rfl (Or.inr rfl) ?_
 simp only[wL,seval]
 refine er_ ?_
 try(with_reducible rfl)
@[reducible] def kG (k:Int):Sym:={name:=(V9.take (k % 4+1).toNat).drop (k % 4).toNat,lit:=true}
theorem jG {k:Int} (h0:0≤k) (h1:k<100):Pure Try.prog 47 [vi k] ((kG k).V):=by
 refine pure_intro Try.func47 qs6 qED (by show 1≤11;decide) ?_
 show ewp _ qyU _ _
 have e:k.tmod 4=k % 4:=Int.tmod_eq_emod_of_nonneg h0
 have e1:=Int.emod_lt_of_pos k (show (0:Int)<4 by omega)
 have e2:=Int.emod_nonneg k (show (4:Int)≠0 by omega)
 have e3:V9.length=4:=rfl
 repeat' with_reducible first
  |refine s_ ?_
  |simp only[wZZ,seval,e]
  |refine t_ ?_
  |apply V5;omega;omega;omega
  |refine cq0 Js ?_
  |simp(disch:=omega) only[w64,if_neg]
 apply QN (t:=2) rfl (Or.inr rfl);(focus(first|rfl|((try simp only[wL,wM,wN,seval]);rfl)));(focus(first|rfl|((try simp only[wL,wM,wN,seval]);rfl)));(exact wu_);(try exact qb)
def VE (x nons:Int):Sym:=if x % 14<5 then {name:=K7 (x % 14 % nons)} else if x % 14=13 then {name:=[101,114,114,111,114]} else kG (x % 14 - 5)
theorem VX {x nons:Int} (h0:0<nons) (h1:nons<50):Pure Try.prog 46 [vi x,vi nons] ((VE x nons).V):=by
 refine pure_intro Try.func46 qz9 qAF (by show 2≤23;decide) ?_
 show ewp _ qhV _ _
 have e1:=Int.emod_lt_of_pos x (show (0:Int)<14 by omega)
 have e2:=Int.emod_nonneg x (show (14:Int)≠0 by omega)
 have e3:=Int.emod_lt_of_pos (x % 14) h0
 have e4:=Int.emod_nonneg (x % 14) (show nons≠0 by omega)
 have e5:(x % 14).tmod nons=x % 14 % nons:=Int.tmod_eq_emod_of_nonneg e2
 have hne: ¬ nons=0:=by omega
 by_cases h:x % 14<5
 · have es:VE x nons={name:=K7 (x % 14 % nons)}:=by unfold VE;rw[if_pos h]
   rw[es]
   repeat' with_reducible first
    |refine s_ ?_
    |simp only[wZZ,seval,e5,hne]
    |apply qa<;>intro h h_<;>(try simp only[wD,reduceCtorEq]at h_)<;>(try exact wb_)<;>(try simp only[h])
    |refine t_ ?_
    |refine jA we_ we_ (qB wf_ wf_) ?_
    |refine xS we_ (vz wf_ wf_) ?_
   apply QN (t:=4) rfl (Or.inr rfl);(focus(first|rfl|((try simp only[wL,wM,wN,seval]);rfl)));(focus(first|rfl|((try simp only[wL,wM,wN,seval]);rfl)));(exact wu_);(try exact qb)
 · by_cases h13:x % 14=13
   · have es:VE x nons={name:=[101,114,114,111,114]}:=by unfold VE;rw[if_neg h,if_pos h13]
     rw[es]
     repeat' with_reducible first
      |refine s_ ?_
      |simp only[wZZ,seval,e5,hne]
      |apply qa<;>intro h h_<;>(try simp only[wD,reduceCtorEq]at h_)<;>(try exact wb_)<;>(try simp only[h])
      |refine t_ ?_
      |refine jA we_ we_ (qB wf_ wf_) ?_
     apply QN (t:=4) rfl (Or.inr rfl);(focus(first|rfl|((try simp only[wL,wM,wN,seval]);rfl)));(focus(first|rfl|((try simp only[wL,wM,wN,seval]);rfl)));(exact wu_);(try exact qb)
   · have es:VE x nons=kG (x % 14 - 5):=by unfold VE;rw[if_neg h,if_neg h13]
     rw[es]
     repeat' with_reducible first
      |refine s_ ?_
      |simp only[wZZ,seval,e5,hne]
      |apply qa<;>intro h h_<;>(try simp only[wD,reduceCtorEq]at h_)<;>(try exact wb_)<;>(try simp only[h])
      |refine t_ ?_
      |refine jA we_ we_ (qB wf_ wf_) ?_
      |refine xS we_ (jG wf_ wf_) ?_
      |simp(disch:=omega) only[w64,if_neg]
     apply QN (t:=4) rfl (Or.inr rfl);(focus(first|rfl|((try simp only[wL,wM,wN,seval]);rfl)));(focus(first|rfl|((try simp only[wL,wM,wN,seval]);rfl)));(exact wu_);(try exact qb)

def JX:List UInt8→Bool→Nat
 |[],_=>0
 |c::r,more=>if KA c || (more && (qcg c || decide (c.toNat=46)))then JX r true+1 else 0
theorem qa9 (c:UInt8) (r:List UInt8) (more:Bool):JX (c::r) more=if KA c || (more && (qcg c || decide (c.toNat=46)))then JX r true+1 else 0:=rfl
theorem Xd {tx:List UInt8} (hs:tx.length≤1099511627776):Pure Try.prog 112 [.str tx,vi 0] (vi (JX tx false)):=by
 refine pure_intro Try.func112 qod qrH (by show 2≤43;decide) ?_
 show ewp _ qd2 _ _
 repeat' with_reducible first
  |refine s_ ?_
  |simp only[wZZ,seval]
 refine qd ?nx1 (fun(n:Nat) s=>s.f 0=?v1_0∧s.f 1=?v1_1∧s.f 5=vi n∧(n≤tx.length)∧(JX tx false=n+JX (tx.drop n) (decide (0<n)))) (fun n=>tx.length - n) (0) wj_ (by refine⟨?_,?_,?_,wo_,wo_⟩<;>first|(simp only[wL,wM,wN,wX,seval,Option.some.injEq]<;>exact wt_)|rfl|exact⟨_,rfl⟩) ?_
 intro n s hnx ⟨g0,g1,g5,k1_0,k1_1⟩
 have hz:IntKind.i64.wrap (0+(n:Int))=n:=by rw[Int.zero_add];exact wrap64 (by omega) (by omega)
 by_cases hn:n<tx.length
 · have hd:tx.drop n=tx[n]::tx.drop (n+1):=List.drop_eq_getElem_cons hn
   rw[hd,qa9]at k1_1
   have h0:decide (0<n+1)=true:=by simp
   repeat' with_reducible first
    |refine s_ ?_
    |simp only[wZZ,seval,g0,g1,g5,hz]
    |(first|apply qa|apply qh|apply qg)<;>intro h h_<;>(try simp only[wD,reduceCtorEq]at h_)<;>(try exact wb_)<;>(try simp only[h])
    |refine t_ ?_
    |refine cq1 JZ we_ ?_
    |refine cq1 Yj we_ ?_
    |simp(disch:=omega) only[w64,if_neg]
   · refine⟨wk_,n+1,(by omega),?_⟩
     refine⟨?_,?_,?_,?_,?_⟩
     iterate 3 (focus(first|(simp only[wL,wM,wN,wX,seval,Option.some.injEq,g0,g1,g5]<;>exact wt_)|rfl|exact⟨_,rfl⟩))
     all_goals try omega
     rw[k1_1,h0,if_pos (by rw[Bool.or_eq_true,Bool.and_eq_true,Bool.or_eq_true,decide_eq_true_eq,decide_eq_true_eq];first|exact Or.inl (by assumption)|exact Or.inr ⟨by omega,Or.inl (by assumption)⟩|exact Or.inr ⟨by omega,Or.inr (by omega)⟩)];omega
   · refine qw rfl (Or.inr rfl) ?_
     simp only[wL,seval,g0,g1,g5]
     refine er_ ?_
     try(with_reducible rfl)
     rw[k1_1,if_neg (by rw[Bool.or_eq_true,Bool.and_eq_true,Bool.or_eq_true,decide_eq_true_eq,decide_eq_true_eq];rintro (h|⟨h,h|h⟩)<;>first|omega|simp_all)];rfl
   · refine⟨wk_,n+1,(by omega),?_⟩
     refine⟨?_,?_,?_,?_,?_⟩
     iterate 3 (focus(first|(simp only[wL,wM,wN,wX,seval,Option.some.injEq,g0,g1,g5]<;>exact wt_)|rfl|exact⟨_,rfl⟩))
     all_goals try omega
     rw[k1_1,h0,if_pos (by rw[Bool.or_eq_true,Bool.and_eq_true,Bool.or_eq_true,decide_eq_true_eq,decide_eq_true_eq];first|exact Or.inl (by assumption)|exact Or.inr ⟨by omega,Or.inl (by assumption)⟩|exact Or.inr ⟨by omega,Or.inr (by omega)⟩)];omega
   · refine qw rfl (Or.inr rfl) ?_
     simp only[wL,seval,g0,g1,g5]
     refine er_ ?_
     try(with_reducible rfl)
     rw[k1_1,if_neg (by rw[Bool.or_eq_true,Bool.and_eq_true,Bool.or_eq_true,decide_eq_true_eq,decide_eq_true_eq];rintro (h|⟨h,h|h⟩)<;>first|omega|simp_all)];rfl
   · refine⟨wk_,n+1,(by omega),?_⟩
     refine⟨?_,?_,?_,?_,?_⟩
     iterate 3 (focus(first|(simp only[wL,wM,wN,wX,seval,Option.some.injEq,g0,g1,g5]<;>exact wt_)|rfl|exact⟨_,rfl⟩))
     all_goals try omega
     rw[k1_1,h0,if_pos (by rw[Bool.or_eq_true,Bool.and_eq_true,Bool.or_eq_true,decide_eq_true_eq,decide_eq_true_eq];first|exact Or.inl (by assumption)|exact Or.inr ⟨by omega,Or.inl (by assumption)⟩|exact Or.inr ⟨by omega,Or.inr (by omega)⟩)];omega
 · repeat' with_reducible first
    |refine s_ ?_
    |simp only[wZZ,seval,g0,g1,g5,hz]
    |(first|apply qh|apply qg)<;>intro h h_<;>(try simp only[wD,reduceCtorEq]at h_)<;>(try exact wb_)<;>(try simp only[h])
   refine qw rfl (Or.inr rfl) ?_
   simp only[wL,seval,g0,g1,g5]
   refine er_ ?_
   try(with_reducible rfl)
   rw[List.drop_eq_nil_of_le (by omega)]at k1_1
   rw[k1_1];simp[JX]
def qbp (tx:List UInt8):Bool:=decide (1≤tx.length) && decide (tx.length≤20) && decide (JX tx false=tx.length)
theorem yj {tx:List UInt8} (hs:tx.length≤1099511627776):Pure Try.prog 106 [.str tx] (.bool (qbp tx)):=by
 refine pure_intro Try.func106 qrj qnr (by show 1≤18;decide) ?_
 show ewp _ qiu _ _
 repeat' with_reducible first
  |refine s_ ?_
  |simp only[wZZ,seval]
  |(first|apply qh|apply qg)<;>intro h h_<;>(try simp only[wD,reduceCtorEq]at h_)<;>(try exact wb_)<;>(try simp only[h])
  |refine jA we_ we_ (Xd wf_) ?_
 all_goals refine qw rfl (Or.inr rfl) ?_
 all_goals(try simp only[wL,seval])
 all_goals refine er_ ?_
 all_goals(try(with_reducible rfl))
 all_goals(rw[Bool.eq_iff_iff];simp[qbp];omega)
@[reducible] def Sym.none (x:Sym):Bool:=decide (x.name=[]) && !x.lit && decide (x.num=0)
theorem QI {x:Sym}:Pure Try.prog 113 [x.V] (.bool x.none):=by
 refine pure_intro Try.func113 qjy qpE (by show 1≤16;decide) ?_
 show ewp _ qi8 _ _
 obtain ⟨nm,lt,nu,at_⟩:=x
 repeat' with_reducible first
  |refine s_ ?_
  |simp only[wZZ,seval]
  |(first|apply qh|apply qg)<;>intro h h_<;>(try simp only[wD,reduceCtorEq]at h_)<;>(try exact wb_)<;>(try simp only[h])
  |refine t_ ?_
 all_goals refine qw rfl (Or.inr rfl) ?_
 all_goals(try simp only[wL,seval])
 all_goals refine er_ ?_
 all_goals(try(with_reducible rfl))
 all_goals(simp_all [Sym.none])

def qa8 (x:Sym) (num lit:Bool):Bool:=if x.lit then lit && decide (x.name.length=1) && qbz (x.name.headD 0) && decide (x.num=0)else qbp x.name && (decide (x.num=0) || (num && decide (1≤x.num) && decide (x.num≤50000)))
theorem xg {x:Sym} {num lit:Bool} (hs:x.name.length≤1099511627776):Pure Try.prog 111 [x.V,.bool num,.bool lit] (.bool (qa8 x num lit)):=by
 refine pure_intro Try.func111 qpK qjP (by show 3≤53;decide) ?_
 show ewp _ qd7 _ _
 obtain ⟨nm,lt,nu,at_⟩:=x
 repeat' with_reducible first
  |refine s_ ?_
  |simp only[wZZ,seval]
  |(first|apply qa|apply qh|apply qg)<;>intro h h_<;>(try simp only[wD,reduceCtorEq]at h_)<;>(try exact wb_)<;>(try simp only[h])
  |refine t_ ?_
  |refine cq1 Xb we_ ?_
  |refine xS we_ (yj wf_) ?_
 all_goals refine qw rfl (Or.inr rfl) ?_
 all_goals(try simp only[wL,seval])
 all_goals refine er_ ?_
 all_goals(try(with_reducible rfl))
 all_goals first
  |(simp_all [qa8];done)
  |(simp_all [qa8];omega)
  | (obtain ⟨c,hc⟩: ∃c,nm=[c]:=List.length_eq_one_iff.1 (by omega)
     subst hc
     simp_all [qa8])

def Sym.Fits (x:Sym):Prop:=x.name.length≤1099511627776
def qkt (d:Decl):Bool:=decide (d.kind<1) || decide (6<d.kind) || decide ((d.syms.length:Int)=0) || (decide (d.kind=6) && (!decide ((d.syms.length:Int)=1) || !decide (d.tag=[]))) || (decide (d.kind=5) && decide (d.tag=[])) || (!decide (d.tag=[]) && !qbp d.tag)
def Y4 (d:Decl):Bool:= !qkt d && d.syms.all fun x=>qa8 x (decide (d.kind=1)) (decide (d.kind<5))
theorem Jw {d:Decl} (ht:d.tag.length≤1099511627776) (hl:d.syms.length≤1099511627776) (hs: ∀x∈d.syms,x.name.length≤1099511627776):Pure Try.prog 105 [d.V] (.bool (Y4 d)):=by
 refine pure_intro Try.func105 qj1 qqv (by show 1≤75;decide) ?_
 show ewp _ qfp _ _
 obtain ⟨kd,tg,sy,at_⟩:=d
 dsimp only at ht hl hs
 refine vv (fun s=>s.f 1=.ptr 0 0 0∧s.H 0=some (.own 4 [Decl.V ⟨kd,tg,sy,at_⟩] false)∧1≤s.next) ?_ ?_
 · repeat' with_reducible first
    |refine s_ ?_
    |simp only[wZZ,seval]
    |refine t_ ?_
   all_goals(refine⟨?_,?_,?_⟩)
   all_goals((try simp only[wL,wM,wN,seval]);try(first|rfl|omega))
 intro s ⟨g1,o0,hnx⟩
 refine qeH ?_
 refine vv (fun s=>s.f 1=.ptr 0 0 0∧s.f 54=.bool (qkt ⟨kd,tg,sy,at_⟩)∧s.H 0=some (.own 4 [Decl.V ⟨kd,tg,sy,at_⟩] false)∧1≤s.next) ?_ ?_
 · repeat' with_reducible first
    |refine s_ ?_
    |simp only[wZZ,seval,g1,o0]
    |(first|apply qh|apply qg)<;>intro h h_<;>(try simp only[wD,reduceCtorEq]at h_)<;>(try exact wb_)<;>(try simp only[h])
    |refine t_ ?_
    |refine xS we_ (yj wf_) ?_
   all_goals(refine⟨?_,?_,?_,?_⟩)
   all_goals((try simp only[wL,wM,wN,seval,g1,o0]);try(first|rfl|omega))
   all_goals(refine congrArg V.bool ?_;simp only[qkt, *];rfl)
 intro s ⟨g1,g54,o0,hnx⟩
 by_cases hb:qkt ⟨kd,tg,sy,at_⟩=true
 · have e:Y4 ⟨kd,tg,sy,at_⟩=false:=by unfold Y4;rw[hb];rfl
   rw[e]
   repeat' with_reducible first
    |refine s_ ?_
    |simp only[wZZ,seval,g1,g54,o0,hb]
   refine qw rfl (Or.inr rfl) ?_
   simp only[wL,seval,g1,g54]
   refine er_ ?_
   try(with_reducible rfl)
 · have hb2:qkt ⟨kd,tg,sy,at_⟩=false:=by simpa using hb
   have e:Y4 ⟨kd,tg,sy,at_⟩=sy.all fun x=>qa8 x (decide (kd=1)) (decide (kd<5)):=by unfold Y4;rw[hb2];rfl
   rw[e]
   repeat' with_reducible first
    |refine s_ ?_
    |simp only[wZZ,seval,g1,g54,o0,hb2]
   refine qd ?nx1 (fun(k:Nat) s=>s.f 1=?v1_1∧s.H 0=?o1_0∧s.f 3=vi k∧(k≤sy.length)∧(∀x∈sy.take k,qa8 x (decide (kd=1)) (decide (kd<5))=true)) (fun k=>sy.length - k) (0) wj_ (by refine⟨?_,?_,?_,wo_,wo_⟩<;>first|(simp only[wL,wM,wN,wX,seval,Option.some.injEq,g1,g54,o0]<;>exact wt_)|rfl|exact⟨_,rfl⟩) ?_
   intro k s hnx ⟨g1,o0,g3,k1_0,k1_1⟩
   by_cases hk:k<sy.length
   · have hx:=hs sy[k] (List.getElem_mem hk)
     have ht2:sy.take (k+1)=sy.take k++[sy[k]]:=by rw[List.take_add_one,ge_ hk];rfl
     repeat' with_reducible first
      |refine s_ ?_
      |simp only[wZZ,seval,g1,g3,o0]
      |apply qa<;>intro h h_<;>(try simp only[wD,reduceCtorEq]at h_)<;>(try exact wb_)<;>(try simp only[h])
      |refine t_ ?_
      |refine JU we_ we_ we_ (xg wf_) ?_
      |simp(disch:=omega) only[w64,if_neg]
     · refine qw rfl (Or.inr rfl) ?_
       simp only[wL,seval,g1,g3]
       refine er_ ?_
       try(with_reducible rfl)
       refine(List.all_eq_false.2 ⟨sy[k],List.getElem_mem hk,?_⟩).symm
       rw[h_];exact Bool.false_ne_true
     · refine⟨wk_,k+1,(by omega),?_⟩
       refine⟨?_,?_,?_,?_,?_⟩
       iterate 3 (focus(first|(simp only[wL,wM,wN,wX,seval,Option.some.injEq,g1,g3,o0]<;>exact wt_)|rfl|exact⟨_,rfl⟩))
       all_goals try omega
       rw[ht2]
       intro x hx2
       rcases List.mem_append.1 hx2 with hx2|hx2
       · exact k1_1 x hx2
       · obtain rfl:=List.mem_singleton.1 hx2
         exact h_
   · repeat' with_reducible first
      |refine s_ ?_
      |simp only[wZZ,seval,g1,g3,o0]
      |apply qa<;>intro h h_<;>(try simp only[wD,reduceCtorEq]at h_)<;>(try exact wb_)<;>(try simp only[h])
      |refine t_ ?_
     refine qw rfl (Or.inr rfl) ?_
     simp only[wL,seval,g1,g3]
     refine er_ ?_
     try(with_reducible rfl)
     rw[List.take_of_length_le (by omega)]at k1_1
     exact(List.all_eq_true.2 k1_1).symm

def YC (q:UInt8):List UInt8→Int→Int
 |[],_=> -1
 |[c],i=>if c.toNat=10 then -1 else if c.toNat=q.toNat then i+1 else -1
 |c::d::r,i=>if c.toNat=10 then -1 else if c.toNat=q.toNat then i+1 else if c.toNat=92 then(if d.toNat=10 then -1 else YC q r (i+2))else YC q (d::r) (i+1)
theorem qdc (q c:UInt8) (r:List UInt8) (i:Int):YC q (c::r) i=if c.toNat=10 then -1 else if c.toNat=q.toNat then i+1 else if c.toNat=92 then(if (r.headD 10).toNat=10 then -1 else YC q r.tail (i+2))else YC q r (i+1):=by
 cases r with
 |nil=>simp[YC]
 |cons d r=>simp[YC]
def Vt:List UInt8→Int→Int
 |[],_=> -1
 |c::r,i=>if c.toNat=96 then i+1 else Vt r (i+1)
def VL:List UInt8→Int→Int
 |[],i=>i
 |c::r,i=>if c.toNat=10 then i else VL r (i+1)
def YO (tx:List UInt8):Nat→Int→Int
 |0,_=> -1
 |n+1,i=>if jW tx i [42,47]then i+2 else YO tx n (i+1)
def VW (tx:List UInt8) (at_:Nat):Int:=
 let c:=tx.getD at_ 0
 if c.toNat=34∨c.toNat=39 then YC c (tx.drop (at_+1)) (at_+1)else if c.toNat=96 then Vt (tx.drop (at_+1)) (at_+1)
 else if jW tx at_ [47,47]then VL (tx.drop at_) at_ else if jW tx at_ [47,42]then YO tx (tx.length - (at_+2)) (at_+2)else at_
theorem jb {tx:List UInt8} {at_:Nat} (hs:tx.length≤1099511627776) (ha:at_<tx.length):Pure Try.prog 118 [.str tx,vi at_] (vi (VW tx at_)):=by
 refine pure_intro Try.func118 qkP qmU (by show 2≤114;decide) ?_
 show ewp _ qff _ _
 have hg:tx.getD at_ 0=tx[at_]:=by simp[List.getD,ha]
 have he:VW tx at_=if tx[at_].toNat=34∨tx[at_].toNat=39 then YC tx[at_] (tx.drop (at_+1)) (at_+1)else if tx[at_].toNat=96 then Vt (tx.drop (at_+1)) (at_+1)
  else if jW tx at_ [47,47]then VL (tx.drop at_) at_ else if jW tx at_ [47,42]then YO tx (tx.length - (at_+2)) (at_+2)else at_:=by unfold VW;rw[hg]
 refine vv (fun s=>s.f 0=.str tx∧s.f 1=vi at_∧0≤s.next) ?_ ?_
 · repeat' with_reducible first
    |refine s_ ?_
    |simp only[wZZ,seval]
   all_goals(refine⟨?_,?_,?_⟩)
   all_goals((try simp only[wL,wM,wN,seval]);try(first|rfl|omega))
 intro s ⟨g0,g1,hnx⟩
 refine kL ?_
 refine Qd ?_
 refine vv (fun s=>s.f 0=.str tx∧s.f 1=vi at_∧s.f 9=.bool (decide (tx[at_].toNat=34) || decide (tx[at_].toNat=39))∧0≤s.next) ?_ ?_
 · repeat' with_reducible first
    |refine s_ ?_
    |simp only[wZZ,seval,g0,g1]
    |(first|apply qh|apply qg)<;>intro h h_<;>(try simp only[wD,reduceCtorEq]at h_)<;>(try exact wb_)<;>(try simp only[h])
    |refine t_ ?_
   all_goals(refine⟨?_,?_,?_,?_⟩)
   all_goals((try simp only[wL,wM,wN,seval,g0,g1]);try(first|rfl|omega))
   all_goals(refine congrArg V.bool ?_;rw[Bool.eq_iff_iff];simp;omega)
 intro s ⟨g0,g1,g9,hnx⟩
 by_cases h1:tx[at_].toNat=34∨tx[at_].toNat=39
 · rw [if_pos h1]at he
   rw[he]
   generalize hR:YC tx[at_] (tx.drop (at_+1)) ((at_:Int)+1)=R
   have hb:(decide (tx[at_].toNat=34) || decide (tx[at_].toNat=39))=true:=by simpa using h1
   repeat' with_reducible first
    |refine s_ ?_
    |simp only[wZZ,seval,g0,g1,g9,hb]
    |simp(disch:=omega) only[w64,if_neg]
   refine qd ?nx1 (fun(k:Nat) s=>s.f 0=?v1_0∧s.f 1=?v1_1∧s.f 5=vi k∧(k≤tx.length+1)∧(YC tx[at_] (tx.drop k) k=R)) (fun k=>tx.length+1 - k) (at_+1) wj_ (by refine⟨?_,?_,?_,wo_,(by rw[← hR];rfl)⟩<;>first|(simp only[wL,wM,wN,wX,seval,Option.some.injEq,g0,g1,g9]<;>exact wt_)|rfl|exact⟨_,rfl⟩) ?_
   intro k s hnx ⟨g0,g1,g5,k1_0,k1_1⟩
   by_cases hk:k<tx.length
   · have hd:tx.drop k=tx[k]::tx.drop (k+1):=List.drop_eq_getElem_cons hk
     have hz:=w1_ k
     rw[hd,qdc]at k1_1
     repeat' with_reducible first
      |refine s_ ?_
      |simp only[wZZ,seval,g0,g1,g5,hz]
      |(first|apply qa|apply qh|apply qg)<;>intro h h_<;>(try simp only[wD,reduceCtorEq]at h_)<;>(try exact wb_)<;>(try simp only[h])
      |refine t_ ?_
      |simp(disch:=omega) only[w64,if_neg]
     · refine qw rfl (Or.inr rfl) ?_
       simp only[wL,seval,g0,g1,g5]
       refine er_ ?_
       try(with_reducible rfl)
       rw[← k1_1,if_neg (by omega),if_pos (by omega)];rfl
     · refine qw rfl (Or.inr rfl) ?_
       simp only[wL,seval,g0,g1,g5]
       refine er_ ?_
       try(with_reducible rfl)
       rw[← k1_1,if_neg (by omega),if_neg (by omega),if_pos (by omega),List.drop_eq_getElem_cons (show k+1<tx.length by omega),List.headD_cons,if_pos (by omega)]
     · refine⟨wk_,k+2,(by omega),?_⟩
       refine⟨?_,?_,?_,?_,?_⟩
       iterate 3 (focus(first|(simp only[wL,wM,wN,wX,seval,Option.some.injEq,g0,g1,g5]<;>exact wt_)|rfl|exact⟨_,rfl⟩))
       all_goals try omega
       rw[← k1_1,if_neg (by omega),if_neg (by omega),if_pos (by omega),List.drop_eq_getElem_cons (show k+1<tx.length by omega),List.headD_cons,if_neg (by omega)];rfl
     · refine⟨wk_,k+2,(by omega),?_⟩
       refine⟨?_,?_,?_,?_,?_⟩
       iterate 3 (focus(first|(simp only[wL,wM,wN,wX,seval,Option.some.injEq,g0,g1,g5]<;>exact wt_)|rfl|exact⟨_,rfl⟩))
       all_goals try omega
       rw[← k1_1,if_neg (by omega),if_neg (by omega),if_pos (by omega),List.drop_eq_nil_of_le (show tx.length≤k+1 by omega),List.drop_eq_nil_of_le (show tx.length≤k+2 by omega)];rfl
     · refine⟨wk_,k+1,(by omega),?_⟩
       refine⟨?_,?_,?_,?_,?_⟩
       iterate 3 (focus(first|(simp only[wL,wM,wN,wX,seval,Option.some.injEq,g0,g1,g5]<;>exact wt_)|rfl|exact⟨_,rfl⟩))
       all_goals try omega
       rw[← k1_1,if_neg (by omega),if_neg (by omega),if_neg (by omega)];rfl
     · refine qw rfl (Or.inr rfl) ?_
       simp only[wL,seval,g0,g1,g5]
       refine er_ ?_
       try(with_reducible rfl)
       rw[← k1_1,if_pos (by omega)]
   · rw[List.drop_eq_nil_of_le (by omega)]at k1_1
     repeat' with_reducible first
      |refine s_ ?_
      |simp only[wZZ,seval,g0,g1,g5]
      |(first|apply qh|apply qg)<;>intro h h_<;>(try simp only[wD,reduceCtorEq]at h_)<;>(try exact wb_)<;>(try simp only[h])
     refine qw rfl (Or.inr rfl) ?_
     simp only[wL,seval,g0,g1,g5]
     refine er_ ?_
     try(with_reducible rfl)
     rw[← k1_1];rfl
 · skip
   rw[if_neg h1]at he
   have hb:(decide (tx[at_].toNat=34) || decide (tx[at_].toNat=39))=false:=by simpa using h1
   by_cases h2:tx[at_].toNat=96
   · rw [if_pos h2]at he
     rw[he]
     generalize hR:Vt (tx.drop (at_+1)) ((at_:Int)+1)=R
     repeat' with_reducible first
      |refine s_ ?_
      |simp only[wZZ,seval,g0,g1,g9,hb]
      |apply qa<;>intro h h_<;>(try simp only[wD,reduceCtorEq]at h_)<;>(try exact wb_)<;>(try simp only[h])
      |refine t_ ?_
      |simp(disch:=omega) only[w64,if_neg]
     refine qd ?nx2 (fun(k:Nat) s=>s.f 0=?v2_0∧s.f 6=vi k∧(k≤tx.length)∧(Vt (tx.drop k) k=R)) (fun k=>tx.length - k) (at_+1) wj_ (by refine⟨?_,?_,wo_,(by rw[← hR];rfl)⟩<;>first|(simp only[wL,wM,wN,wX,seval,Option.some.injEq,g0,g1,g9]<;>exact wt_)|rfl|exact⟨_,rfl⟩) ?_
     intro k s hnx ⟨g0,g6,k2_0,k2_1⟩
     by_cases hk:k<tx.length
     · rw[List.drop_eq_getElem_cons hk,Vt]at k2_1
       repeat' with_reducible first
        |refine s_ ?_
        |simp only[wZZ,seval,g0,g6]
        |apply qa<;>intro h h_<;>(try simp only[wD,reduceCtorEq]at h_)<;>(try exact wb_)<;>(try simp only[h])
        |refine t_ ?_
        |simp(disch:=omega) only[w64,if_neg]
       · refine qw rfl (Or.inr rfl) ?_
         simp only[wL,seval,g0,g6]
         refine er_ ?_
         try(with_reducible rfl)
         rw[← k2_1,if_pos (by omega)];rfl
       · refine⟨wk_,k+1,(by omega),?_⟩
         refine⟨?_,?_,?_,?_⟩
         iterate 2 (focus(first|(simp only[wL,wM,wN,wX,seval,Option.some.injEq,g0,g6]<;>exact wt_)|rfl|exact⟨_,rfl⟩))
         all_goals try omega
         rw[← k2_1,if_neg (by omega)];rfl
     · rw[List.drop_eq_nil_of_le (by omega)]at k2_1
       repeat' with_reducible first
        |refine s_ ?_
        |simp only[wZZ,seval,g0,g6]
        |apply qa<;>intro h h_<;>(try simp only[wD,reduceCtorEq]at h_)<;>(try exact wb_)<;>(try simp only[h])
       refine qw rfl (Or.inr rfl) ?_
       simp only[wL,seval,g0,g6]
       refine er_ ?_
       try(with_reducible rfl)
       rw[← k2_1];rfl
   · skip
     rw[if_neg h2]at he
     by_cases h3:jW tx at_ [47,47]=true
     · rw [if_pos h3]at he
       rw[he]
       generalize hR:VL (tx.drop at_) at_=R
       repeat' with_reducible first
        |refine s_ ?_
        |simp only[wZZ,seval,g0,g1,g9,hb,h3]
        |apply qa<;>intro h h_<;>(try simp only[wD,reduceCtorEq]at h_)<;>(try exact wb_)<;>(try simp only[h])
        |refine t_ ?_
        |refine JU we_ we_ we_ (jg wf_ wf_ wf_ wf_) ?_
       refine qd ?nx3 (fun(k:Nat) s=>s.f 0=?v3_0∧s.f 7=vi k∧(k≤tx.length)∧(VL (tx.drop k) k=R)) (fun k=>tx.length - k) (at_) wj_ (by refine⟨?_,?_,wo_,(by rw[← hR])⟩<;>first|(simp only[wL,wM,wN,wX,seval,Option.some.injEq,g0,g1,g9]<;>exact wt_)|rfl|exact⟨_,rfl⟩) ?_
       intro k s hnx ⟨g0,g7,k3_0,k3_1⟩
       by_cases hk:k<tx.length
       · rw[List.drop_eq_getElem_cons hk,VL]at k3_1
         repeat' with_reducible first
          |refine s_ ?_
          |simp only[wZZ,seval,g0,g7]
          |(first|apply qa|apply qh|apply qg)<;>intro h h_<;>(try simp only[wD,reduceCtorEq]at h_)<;>(try exact wb_)<;>(try simp only[h])
          |refine t_ ?_
          |simp(disch:=omega) only[w64,if_neg]
         · refine⟨wk_,k+1,(by omega),?_⟩
           refine⟨?_,?_,?_,?_⟩
           iterate 2 (focus(first|(simp only[wL,wM,wN,wX,seval,Option.some.injEq,g0,g7]<;>exact wt_)|rfl|exact⟨_,rfl⟩))
           all_goals try omega
           rw[← k3_1,if_neg (by omega)];rfl
         · refine qw rfl (Or.inr rfl) ?_
           simp only[wL,seval,g0,g7]
           refine er_ ?_
           try(with_reducible rfl)
           rw[← k3_1,if_pos (by omega)]
       · rw[List.drop_eq_nil_of_le (by omega)]at k3_1
         repeat' with_reducible first
          |refine s_ ?_
          |simp only[wZZ,seval,g0,g7]
          |(first|apply qh|apply qg)<;>intro h h_<;>(try simp only[wD,reduceCtorEq]at h_)<;>(try exact wb_)<;>(try simp only[h])
         refine qw rfl (Or.inr rfl) ?_
         simp only[wL,seval,g0,g7]
         refine er_ ?_
         try(with_reducible rfl)
         rw[← k3_1];rfl
     · skip
       rw[if_neg h3]at he
       have h3b:jW tx at_ [47,47]=false:=by simpa using h3
       by_cases h4:jW tx at_ [47,42]=true
       · rw [if_pos h4]at he
         rw[he]
         generalize hR:YO tx (tx.length - (at_+2)) ((at_:Int)+2)=R
         repeat' with_reducible first
          |refine s_ ?_
          |simp only[wZZ,seval,g0,g1,g9,hb,h3b,h4]
          |apply qa<;>intro h h_<;>(try simp only[wD,reduceCtorEq]at h_)<;>(try exact wb_)<;>(try simp only[h])
          |refine t_ ?_
          |refine JU we_ we_ we_ (jg wf_ wf_ wf_ wf_) ?_
          |simp(disch:=omega) only[w64,if_neg]
         refine qd ?nx4 (fun(k:Nat) s=>s.f 0=?v4_0∧s.f 8=vi k∧(YO tx (tx.length - k) k=R)) (fun k=>tx.length - k) (at_+2) wj_ (by refine⟨?_,?_,(by rw[← hR];rfl)⟩<;>first|(simp only[wL,wM,wN,wX,seval,Option.some.injEq,g0,g1,g9]<;>exact wt_)|rfl|exact⟨_,rfl⟩) ?_
         intro k s hnx ⟨g0,g8,k4_0⟩
         by_cases hk:k<tx.length
         · rw[show tx.length - k=(tx.length - (k+1))+1 by omega,YO]at k4_0
           repeat' with_reducible first
            |refine s_ ?_
            |simp only[wZZ,seval,g0,g8]
            |apply qa<;>intro h h_<;>(try simp only[wD,reduceCtorEq]at h_)<;>(try exact wb_)<;>(try simp only[h])
            |refine JU we_ we_ we_ (jg wf_ wf_ wf_ wf_) ?_
            |simp(disch:=omega) only[w64,if_neg]
           · refine qw rfl (Or.inr rfl) ?_
             simp only[wL,seval,g0,g8]
             refine er_ ?_
             try(with_reducible rfl)
             rw[← k4_0,if_pos (by assumption)]
           · refine⟨wk_,k+1,(by omega),?_⟩
             refine⟨?_,?_,?_⟩
             iterate 2 (focus(first|(simp only[wL,wM,wN,wX,seval,Option.some.injEq,g0,g8]<;>exact wt_)|rfl|exact⟨_,rfl⟩))
             all_goals try omega
             rw[← k4_0,if_neg (by simp_all)];rfl
         · rw[show tx.length - k=0 by omega,YO]at k4_0
           repeat' with_reducible first
            |refine s_ ?_
            |simp only[wZZ,seval,g0,g8]
            |apply qa<;>intro h h_<;>(try simp only[wD,reduceCtorEq]at h_)<;>(try exact wb_)<;>(try simp only[h])
           refine qw rfl (Or.inr rfl) ?_
           simp only[wL,seval,g0,g8]
           refine er_ ?_
           try(with_reducible rfl)
           exact k4_0
       · skip
         rw[if_neg h4]at he
         have h4b:jW tx at_ [47,42]=false:=by simpa using h4
         rw[he]
         repeat' with_reducible first
          |refine s_ ?_
          |simp only[wZZ,seval,g0,g1,g9,hb,h3b,h4b]
          |apply qa<;>intro h h_<;>(try simp only[wD,reduceCtorEq]at h_)<;>(try exact wb_)<;>(try simp only[h])
          |refine t_ ?_
          |refine JU we_ we_ we_ (jg wf_ wf_ wf_ wf_) ?_
         refine qw rfl (Or.inr rfl) ?_
         simp only[wL,seval,g0,g1,g9]
         refine er_ ?_
         try(with_reducible rfl)
end Go.Proofs
