/- Part of a proof that a law of the given program answers true. -/
import Derived.Test.YtkcegflhobejmaaGreatDoorBRA
import Derived.Test.YtkcegflhobejmaaGreatDoorBCA
set_option maxRecDepth 20000
set_option linter.unusedSimpArgs false
set_option linter.unusedVariables false
set_option maxHeartbeats 4000000
namespace Go.Proofs
open Go.E
theorem qNo {x y:Int}:(decide (x / 16=y / 16) && (decide (x % 16=y % 16) && true))=decide (x=y):=by
 rw[Bool.eq_iff_iff];simp only[Bool.and_eq_true,decide_eq_true_eq,and_true];omega
theorem qMo {neg:Bool} {x y:Int} {K:V→Prop} (hk:K (.bool (decide (x=y) != neg))):Vs neg [1,1] (itV x) (itV y) K:=by
 refine qfG (t:=decide (x=y)) ?_ hk
 rw[← qNo]
 rfl
theorem zP {a b:List Int} (ha:a.length≤4611686018427387903) (hb:b.length≤4611686018427387903):Pure Tryz.prog 119 [.sl 2 false (a.map itV),.sl 2 false (b.map itV)] (.bool (decide (a=b))):=by
 refine pure_intro Tryz.func119 nm_ qcB (by show 2≤26;decide) ?_
 show ewp _ qdh _ _
 by_cases hl:a.length=b.length
 · repeat' with_reducible first
    |refine s_ ?_
    |refine s_ ?_
    |simp -implicitDefEqProofs only[wS,wT,wU,wV,wW,wX,wY,wC,wF,wG,wL,wM,wN,seval,Int.cast_ofNat_Int,Int.reduceLT,Int.reduceLE,Int.reduceEq,Int.reduceToNat,decide_true,decide_false,Bool.false_eq_true]
    |(refine qa (fun h h_=>?_) (fun h h_=>?_)<;>(try simp only[wD,reduceCtorEq]at h_)<;>(try(exfalso;first|omega|exact absurd (Eq.trans (Eq.symm h_) (by assumption):false=true) (by decide)|exact absurd (Eq.trans (Eq.symm h_) (by assumption):true=false) (by decide)|(refine absurd ?_ h_;focus assumption)|(refine absurd h_ ?_;focus assumption)))<;>(try simp only[h]))
    |refine t_ ?_
    |apply qo;omega;exact wd_
    |apply qB;(focus(first|omega|(simp only[wZ]<;>omega)))
    |apply qf;exact wu_;exact wu_;(focus((try simp -implicitDefEqProofs only[wE,Nat.reduceAdd]);rfl))
    |apply qg;exact wd_;exact wu_
    |apply qh;exact wu_
    |simp -implicitDefEqProofs (disch:=omega) only[w64,if_neg]
   refine qi ?nx1 (fun(k:Nat) s=>s.f 0=?v1_0∧s.f 1=?v1_1∧s.f 5=vi k∧(k≤a.length)∧(∀i,i<k→a[i]?=b[i]?)) (fun k=>a.length - k) (0) wj_ (by refine⟨?_,?_,?_,wo_,wo_⟩<;>first|(simp -implicitDefEqProofs only[wL,wM,wN,wX,seval,Option.some.injEq]<;>exact wt_)|rfl|exact⟨_,rfl⟩) ?_
   intro k s hnx ⟨g0,g1,g5,k1_0,k1_1⟩
   have hz:=w1_ k
   by_cases hk:k<a.length
   · have hga:a[k]?=some a[k]:=ge_ hk
     have hgb:b[k]?=some b[k]:=ge_ o_
     by_cases he:a[k]=b[k]
     · have hn: ∀i,i<k+1→a[i]?=b[i]?:=fun i hi=>by
        by_cases e:i=k
        · subst e;rw[hga,hgb,he]
        · exact k1_1 i o_
       have hed:(decide (a[k]=b[k]) != true)=false:=by rw[decide_eq_true he];rfl
       repeat' with_reducible first
        |refine s_ ?_
        |refine s_ ?_
        |simp -implicitDefEqProofs only[wS,wT,wU,wV,wW,wX,wY,wC,wF,wG,wL,wM,wN,seval,Int.cast_ofNat_Int,Int.reduceLT,Int.reduceLE,Int.reduceEq,Int.reduceToNat,decide_true,decide_false,Bool.false_eq_true,g0,g1,g5,hz,hed]
        |(refine qa (fun h h_=>?_) (fun h h_=>?_)<;>(try simp only[wD,reduceCtorEq]at h_)<;>(try(exfalso;first|omega|exact absurd (Eq.trans (Eq.symm h_) (by assumption):false=true) (by decide)|exact absurd (Eq.trans (Eq.symm h_) (by assumption):true=false) (by decide)|(refine absurd ?_ h_;focus assumption)|(refine absurd h_ ?_;focus assumption)))<;>(try simp only[h]))
        |refine t_ ?_
        |(refine qMo ?_)
        |apply qo;omega;exact wd_
        |apply qB;(focus(first|omega|(simp only[wZ]<;>omega)))
        |apply qf;exact wu_;exact wu_;(focus((try simp -implicitDefEqProofs only[wE,Nat.reduceAdd]);rfl))
        |apply qg;exact wd_;exact wu_
        |apply qh;exact wu_
        |simp -implicitDefEqProofs (disch:=omega) only[w64,if_neg]
       refine⟨wk_,k+1,o_,?_⟩
       refine⟨?_,?_,?_,?_,?_⟩
       iterate 3 (focus(first|(simp -implicitDefEqProofs only[wL,wM,wN,wX,seval,Option.some.injEq,g0,g1,g5]<;>exact wt_)|rfl|exact⟨_,rfl⟩))
       all_goals try omega
     · have hne:a≠b:=fun e=>he (by subst e;rfl)
       rw[decide_eq_false hne]
       have hed:(decide (a[k]=b[k]) != true)=true:=by rw[decide_eq_false he];rfl
       repeat' with_reducible first
        |refine s_ ?_
        |refine s_ ?_
        |simp -implicitDefEqProofs only[wS,wT,wU,wV,wW,wX,wY,wC,wF,wG,wL,wM,wN,seval,Int.cast_ofNat_Int,Int.reduceLT,Int.reduceLE,Int.reduceEq,Int.reduceToNat,decide_true,decide_false,Bool.false_eq_true,g0,g1,g5,hz,hed]
        |(refine qa (fun h h_=>?_) (fun h h_=>?_)<;>(try simp only[wD,reduceCtorEq]at h_)<;>(try(exfalso;first|omega|exact absurd (Eq.trans (Eq.symm h_) (by assumption):false=true) (by decide)|exact absurd (Eq.trans (Eq.symm h_) (by assumption):true=false) (by decide)|(refine absurd ?_ h_;focus assumption)|(refine absurd h_ ?_;focus assumption)))<;>(try simp only[h]))
        |refine t_ ?_
        |(refine qMo ?_)
        |apply qo;omega;exact wd_
        |apply qB;(focus(first|omega|(simp only[wZ]<;>omega)))
        |apply qf;exact wu_;exact wu_;(focus((try simp -implicitDefEqProofs only[wE,Nat.reduceAdd]);rfl))
        |apply qg;exact wd_;exact wu_
        |apply qh;exact wu_
        |simp -implicitDefEqProofs (disch:=omega) only[w64,if_neg]
       all_goals refine qF rfl (Or.inr rfl) ?_
       all_goals(try simp -implicitDefEqProofs only[wL,seval,g0,g1,g5])
       all_goals refine er_ ?_
       all_goals(try(with_reducible rfl))
   · have e:a=b:=List.ext_getElem? fun i=>by
      by_cases hi:i<k
      · exact k1_1 i hi
      · rw[List.getElem?_eq_none o_,List.getElem?_eq_none o_]
     rw[decide_eq_true e]
     repeat' with_reducible first
      |refine s_ ?_
      |refine s_ ?_
      |simp -implicitDefEqProofs only[wS,wT,wU,wV,wW,wX,wY,wC,wF,wG,wL,wM,wN,seval,Int.cast_ofNat_Int,Int.reduceLT,Int.reduceLE,Int.reduceEq,Int.reduceToNat,decide_true,decide_false,Bool.false_eq_true,g0,g1,g5]
      |(refine qa (fun h h_=>?_) (fun h h_=>?_)<;>(try simp only[wD,reduceCtorEq]at h_)<;>(try(exfalso;first|omega|exact absurd (Eq.trans (Eq.symm h_) (by assumption):false=true) (by decide)|exact absurd (Eq.trans (Eq.symm h_) (by assumption):true=false) (by decide)|(refine absurd ?_ h_;focus assumption)|(refine absurd h_ ?_;focus assumption)))<;>(try simp only[h]))
      |refine t_ ?_
      |apply qo;omega;exact wd_
      |apply qB;(focus(first|omega|(simp only[wZ]<;>omega)))
      |apply qf;exact wu_;exact wu_;(focus((try simp -implicitDefEqProofs only[wE,Nat.reduceAdd]);rfl))
      |apply qg;exact wd_;exact wu_
      |apply qh;exact wu_
      |simp -implicitDefEqProofs (disch:=omega) only[w64,if_neg]
     all_goals refine qF rfl (Or.inr rfl) ?_
     all_goals(try simp -implicitDefEqProofs only[wL,seval,g0,g1,g5])
     all_goals refine er_ ?_
     all_goals(try(with_reducible rfl))
 · have hne:a≠b:=fun e=>hl (by rw[e])
   rw[decide_eq_false hne]
   skip
   repeat' with_reducible first
    |refine s_ ?_
    |refine s_ ?_
    |simp -implicitDefEqProofs only[wS,wT,wU,wV,wW,wX,wY,wC,wF,wG,wL,wM,wN,seval,Int.cast_ofNat_Int,Int.reduceLT,Int.reduceLE,Int.reduceEq,Int.reduceToNat,decide_true,decide_false,Bool.false_eq_true]
    |(refine qa (fun h h_=>?_) (fun h h_=>?_)<;>(try simp only[wD,reduceCtorEq]at h_)<;>(try(exfalso;first|omega|exact absurd (Eq.trans (Eq.symm h_) (by assumption):false=true) (by decide)|exact absurd (Eq.trans (Eq.symm h_) (by assumption):true=false) (by decide)|(refine absurd ?_ h_;focus assumption)|(refine absurd h_ ?_;focus assumption)))<;>(try simp only[h]))
    |refine t_ ?_
    |apply qo;omega;exact wd_
    |apply qB;(focus(first|omega|(simp only[wZ]<;>omega)))
    |apply qf;exact wu_;exact wu_;(focus((try simp -implicitDefEqProofs only[wE,Nat.reduceAdd]);rfl))
    |apply qg;exact wd_;exact wu_
    |apply qh;exact wu_
    |simp -implicitDefEqProofs (disch:=omega) only[w64,if_neg]
   all_goals refine qF rfl (Or.inr rfl) ?_
   all_goals(try simp -implicitDefEqProofs only[wL,seval])
   all_goals refine er_ ?_
   all_goals(try(with_reducible rfl))
theorem qD {l:List Int} {x:Int} (hl:l.length≤1099511627776):Pure Tryz.prog 117 [.sl 2 false (l.map itV),itV x] (.sl 2 false ((vF l x).map itV)):=by
 refine pure_intro Tryz.func117 nm_ qcN (by show 2≤71;decide) ?_
 show ewp _ qdV _ _
 repeat' with_reducible first
  |refine s_ ?_
  |refine s_ ?_
  |refine s_ ?_
  |simp -implicitDefEqProofs only[wS,wT,wU,wV,wW,wX,wY,wC,wF,wG,wL,wM,wN,seval,Int.cast_ofNat_Int,Int.reduceLT,Int.reduceLE,Int.reduceEq,Int.reduceToNat,decide_true,decide_false,Bool.false_eq_true]
  |(refine qa (fun h h_=>?_) (fun h h_=>?_)<;>(try simp only[wD,reduceCtorEq]at h_)<;>(try(exfalso;first|omega|exact absurd (Eq.trans (Eq.symm h_) (by assumption):false=true) (by decide)|exact absurd (Eq.trans (Eq.symm h_) (by assumption):true=false) (by decide)|(refine absurd ?_ h_;focus assumption)|(refine absurd h_ ?_;focus assumption)))<;>(try simp only[h]))
  |((first|refine zk (fun h=>?_) (fun h=>?_)|refine zl (fun h=>?_) (fun h=>?_))<;>have h_:=h<;>(try simp only[wD,reduceCtorEq]at h_)<;>(try(exfalso;first|omega|exact absurd (Eq.trans (Eq.symm h_) (by assumption):false=true) (by decide)|exact absurd (Eq.trans (Eq.symm h_) (by assumption):true=false) (by decide)|(refine absurd ?_ h_;focus assumption)|(refine absurd h_ ?_;focus assumption)))<;>(try simp only[h]))
  |refine t_ ?_
  |apply qo;omega;exact wd_
  |apply qW;(focus(first|exact qc.sl|exact qc.asl|exact qc.str));exact wf_;(focus(unfold maxLen;first|omega|(simp only[wZ]<;>omega)))
  |(refine qI ?_;simp -implicitDefEqProofs only[wM,wN,seval];apply za;(focus(first|exact qc.sl|exact qc.asl|exact qc.str));(exact wf_);(focus(unfold maxLen;first|omega|(simp only[wZ]<;>omega))))
  |apply Qn;omega;exact wf_
  |apply Qo;omega;exact wf_
  |apply vQ;omega;omega;exact wf_
  |apply xH;omega;exact wf_
  |apply qB;(focus(first|omega|(simp only[wZ]<;>omega)))
  |apply qf;exact wu_;exact wu_;(focus((try simp -implicitDefEqProofs only[wE,Nat.reduceAdd]);rfl))
  |apply qg;exact wd_;exact wu_
  |apply qh;exact wu_
  |simp -implicitDefEqProofs (disch:=omega) only[w64,if_neg]
 refine qi ?nx1 (fun(k:Nat) s=>s.f 0=?v1_0∧s.f 3=?v1_3∧s.H 0=some (.own 2 [itV x] false)∧s.f 5=vi k∧(k≤l.length)∧(Jq l x k=Jq l x l.length)) (fun k=>k) (l.length) wj_ (by refine⟨?_,?_,?_,?_,wo_,wo_⟩<;>first|(simp -implicitDefEqProofs only[wL,wM,wN,wX,seval,Option.some.injEq]<;>exact wt_)|rfl|exact⟨_,rfl⟩) ?_
 intro k s hnx ⟨g0,g3,o0,g5,k1_0,k1_1⟩
 by_cases hk:k=0
 · subst hk
   have hc:Jq l x l.length=0:=k1_1.symm
   have hp:vF l x=[]++[x]++l:=by unfold vF;rw[hc];simp
   rw[hp]
   repeat' with_reducible first
    |refine s_ ?_
    |refine s_ ?_
    |refine s_ ?_
    |simp -implicitDefEqProofs only[wS,wT,wU,wV,wW,wX,wY,wC,wF,wG,wL,wM,wN,seval,Int.cast_ofNat_Int,Int.reduceLT,Int.reduceLE,Int.reduceEq,Int.reduceToNat,decide_true,decide_false,Bool.false_eq_true,g0,g3,g5,o0]
    |(refine qa (fun h h_=>?_) (fun h h_=>?_)<;>(try simp only[wD,reduceCtorEq]at h_)<;>(try(exfalso;first|omega|exact absurd (Eq.trans (Eq.symm h_) (by assumption):false=true) (by decide)|exact absurd (Eq.trans (Eq.symm h_) (by assumption):true=false) (by decide)|(refine absurd ?_ h_;focus assumption)|(refine absurd h_ ?_;focus assumption)))<;>(try simp only[h]))
    |((first|refine zk (fun h=>?_) (fun h=>?_)|refine zl (fun h=>?_) (fun h=>?_))<;>have h_:=h<;>(try simp only[wD,reduceCtorEq]at h_)<;>(try(exfalso;first|omega|exact absurd (Eq.trans (Eq.symm h_) (by assumption):false=true) (by decide)|exact absurd (Eq.trans (Eq.symm h_) (by assumption):true=false) (by decide)|(refine absurd ?_ h_;focus assumption)|(refine absurd h_ ?_;focus assumption)))<;>(try simp only[h]))
    |refine t_ ?_
    |apply qo;omega;exact wd_
    |apply qW;(focus(first|exact qc.sl|exact qc.asl|exact qc.str));exact wf_;(focus(unfold maxLen;first|omega|(simp only[wZ]<;>omega)))
    |(refine qI ?_;simp -implicitDefEqProofs only[wM,wN,seval,g0,g3,g5,o0];apply za;(focus(first|exact qc.sl|exact qc.asl|exact qc.str));(exact wf_);(focus(unfold maxLen;first|omega|(simp only[wZ]<;>omega))))
    |apply Qn;omega;exact wf_
    |apply Qo;omega;exact wf_
    |apply vQ;omega;omega;exact wf_
    |apply xH;omega;exact wf_
    |apply qB;(focus(first|omega|(simp only[wZ]<;>omega)))
    |apply qf;exact wu_;exact wu_;(focus((try simp -implicitDefEqProofs only[wE,Nat.reduceAdd]);rfl))
    |apply qg;exact wd_;exact wu_
    |apply qh;exact wu_
    |simp -implicitDefEqProofs (disch:=omega) only[w64,if_neg]
   refine qF rfl (Or.inr rfl) ?_
   simp -implicitDefEqProofs only[wL,seval,g0,g3,g5]
   refine er_ ?_
   try(with_reducible rfl)
   simp
 · obtain ⟨m,rfl⟩: ∃m,k=m+1:=⟨k - 1,o_⟩
   have hm:m<l.length:=o_
   have hgm:l[m]?=some l[m]:=ge_ hm
   have hzm:IntKind.i64.wrap (((m+1:Nat):Int) - 1)=(m:Int):=by rw[wrap64 o_ o_];omega
   rw[QH,getD_eq hm]at k1_1
   by_cases hgt:x<l[m]
   · rw[if_pos hgt]at k1_1
     generalize l[m]=y at *
     repeat' with_reducible first
      |refine s_ ?_
      |refine s_ ?_
      |refine s_ ?_
      |simp -implicitDefEqProofs only[wS,wT,wU,wV,wW,wX,wY,wC,wF,wG,wL,wM,wN,seval,Int.cast_ofNat_Int,Int.reduceLT,Int.reduceLE,Int.reduceEq,Int.reduceToNat,decide_true,decide_false,Bool.false_eq_true,g0,g3,g5,o0,hzm]
      |(refine qa (fun h h_=>?_) (fun h h_=>?_)<;>(try simp only[wD,reduceCtorEq]at h_)<;>(try(exfalso;first|omega|exact absurd (Eq.trans (Eq.symm h_) (by assumption):false=true) (by decide)|exact absurd (Eq.trans (Eq.symm h_) (by assumption):true=false) (by decide)|(refine absurd ?_ h_;focus assumption)|(refine absurd h_ ?_;focus assumption)))<;>(try simp only[h]))
      |((first|refine zk (fun h=>?_) (fun h=>?_)|refine zl (fun h=>?_) (fun h=>?_))<;>have h_:=h<;>(try simp only[wD,reduceCtorEq]at h_)<;>(try(exfalso;first|omega|exact absurd (Eq.trans (Eq.symm h_) (by assumption):false=true) (by decide)|exact absurd (Eq.trans (Eq.symm h_) (by assumption):true=false) (by decide)|(refine absurd ?_ h_;focus assumption)|(refine absurd h_ ?_;focus assumption)))<;>(try simp only[h]))
      |refine t_ ?_
      |apply qo;omega;exact wd_
      |apply qW;(focus(first|exact qc.sl|exact qc.asl|exact qc.str));exact wf_;(focus(unfold maxLen;first|omega|(simp only[wZ]<;>omega)))
      |(refine qI ?_;simp -implicitDefEqProofs only[wM,wN,seval,g0,g3,g5,o0,hzm];apply za;(focus(first|exact qc.sl|exact qc.asl|exact qc.str));(exact wf_);(focus(unfold maxLen;first|omega|(simp only[wZ]<;>omega))))
      |apply Qn;omega;exact wf_
      |apply Qo;omega;exact wf_
      |apply vQ;omega;omega;exact wf_
      |apply xH;omega;exact wf_
      |apply qB;(focus(first|omega|(simp only[wZ]<;>omega)))
      |apply qf;exact wu_;exact wu_;(focus((try simp -implicitDefEqProofs only[wE,Nat.reduceAdd]);rfl))
      |apply qg;exact wd_;exact wu_
      |apply qh;exact wu_
      |simp -implicitDefEqProofs (disch:=omega) only[w64,if_neg]
     all_goals exact⟨wg_,m,o_,trivial,trivial,trivial,rfl,o_,k1_1⟩
   · rw [if_neg hgt]at k1_1
     have hp:vF l x=if l[m]=x then l else l.take (m+1)++[x]++l.drop (m+1):=by
      unfold vF;rw[← k1_1];simp[ge_ hm]
     by_cases hx:l[m]=x
     · rw[hp,if_pos hx]
       have hed:(decide (l[m]=x) != false)=true:=by rw[decide_eq_true hx];rfl
       generalize l[m]=y at *
       repeat' with_reducible first
        |refine s_ ?_
        |refine s_ ?_
        |refine s_ ?_
        |simp -implicitDefEqProofs only[wS,wT,wU,wV,wW,wX,wY,wC,wF,wG,wL,wM,wN,seval,Int.cast_ofNat_Int,Int.reduceLT,Int.reduceLE,Int.reduceEq,Int.reduceToNat,decide_true,decide_false,Bool.false_eq_true,g0,g3,g5,o0,hzm,hed]
        |(refine qa (fun h h_=>?_) (fun h h_=>?_)<;>(try simp only[wD,reduceCtorEq]at h_)<;>(try(exfalso;first|omega|exact absurd (Eq.trans (Eq.symm h_) (by assumption):false=true) (by decide)|exact absurd (Eq.trans (Eq.symm h_) (by assumption):true=false) (by decide)|(refine absurd ?_ h_;focus assumption)|(refine absurd h_ ?_;focus assumption)))<;>(try simp only[h]))
        |((first|refine zk (fun h=>?_) (fun h=>?_)|refine zl (fun h=>?_) (fun h=>?_))<;>have h_:=h<;>(try simp only[wD,reduceCtorEq]at h_)<;>(try(exfalso;first|omega|exact absurd (Eq.trans (Eq.symm h_) (by assumption):false=true) (by decide)|exact absurd (Eq.trans (Eq.symm h_) (by assumption):true=false) (by decide)|(refine absurd ?_ h_;focus assumption)|(refine absurd h_ ?_;focus assumption)))<;>(try simp only[h]))
        |refine t_ ?_
        |(refine qMo ?_)
        |apply qo;omega;exact wd_
        |apply qW;(focus(first|exact qc.sl|exact qc.asl|exact qc.str));exact wf_;(focus(unfold maxLen;first|omega|(simp only[wZ]<;>omega)))
        |(refine qI ?_;simp -implicitDefEqProofs only[wM,wN,seval,g0,g3,g5,o0,hzm,hed];apply za;(focus(first|exact qc.sl|exact qc.asl|exact qc.str));(exact wf_);(focus(unfold maxLen;first|omega|(simp only[wZ]<;>omega))))
        |apply Qn;omega;exact wf_
        |apply Qo;omega;exact wf_
        |apply vQ;omega;omega;exact wf_
        |apply xH;omega;exact wf_
        |apply qB;(focus(first|omega|(simp only[wZ]<;>omega)))
        |apply qf;exact wu_;exact wu_;(focus((try simp -implicitDefEqProofs only[wE,Nat.reduceAdd]);rfl))
        |apply qg;exact wd_;exact wu_
        |apply qh;exact wu_
        |simp -implicitDefEqProofs (disch:=omega) only[w64,if_neg]
       all_goals refine qF rfl (Or.inr rfl) ?_
       all_goals(try simp -implicitDefEqProofs only[wL,seval,g0,g3,g5])
       all_goals refine er_ ?_
       all_goals(try(with_reducible rfl))
     · rw[hp,if_neg hx]
       have hed:(decide (l[m]=x) != false)=false:=by rw[decide_eq_false hx];rfl
       generalize l[m]=y at *
       repeat' with_reducible first
        |refine s_ ?_
        |refine s_ ?_
        |refine s_ ?_
        |simp -implicitDefEqProofs only[wS,wT,wU,wV,wW,wX,wY,wC,wF,wG,wL,wM,wN,seval,Int.cast_ofNat_Int,Int.reduceLT,Int.reduceLE,Int.reduceEq,Int.reduceToNat,decide_true,decide_false,Bool.false_eq_true,g0,g3,g5,o0,hzm,hed]
        |(refine qa (fun h h_=>?_) (fun h h_=>?_)<;>(try simp only[wD,reduceCtorEq]at h_)<;>(try(exfalso;first|omega|exact absurd (Eq.trans (Eq.symm h_) (by assumption):false=true) (by decide)|exact absurd (Eq.trans (Eq.symm h_) (by assumption):true=false) (by decide)|(refine absurd ?_ h_;focus assumption)|(refine absurd h_ ?_;focus assumption)))<;>(try simp only[h]))
        |((first|refine zk (fun h=>?_) (fun h=>?_)|refine zl (fun h=>?_) (fun h=>?_))<;>have h_:=h<;>(try simp only[wD,reduceCtorEq]at h_)<;>(try(exfalso;first|omega|exact absurd (Eq.trans (Eq.symm h_) (by assumption):false=true) (by decide)|exact absurd (Eq.trans (Eq.symm h_) (by assumption):true=false) (by decide)|(refine absurd ?_ h_;focus assumption)|(refine absurd h_ ?_;focus assumption)))<;>(try simp only[h]))
        |refine t_ ?_
        |(refine qMo ?_)
        |apply qo;omega;exact wd_
        |apply qW;(focus(first|exact qc.sl|exact qc.asl|exact qc.str));exact wf_;(focus(unfold maxLen;first|omega|(simp only[wZ]<;>omega)))
        |(refine qI ?_;simp -implicitDefEqProofs only[wM,wN,seval,g0,g3,g5,o0,hzm,hed];apply za;(focus(first|exact qc.sl|exact qc.asl|exact qc.str));(exact wf_);(focus(unfold maxLen;first|omega|(simp only[wZ]<;>omega))))
        |apply Qn;omega;exact wf_
        |apply Qo;omega;exact wf_
        |apply vQ;omega;omega;exact wf_
        |apply xH;omega;exact wf_
        |apply qB;(focus(first|omega|(simp only[wZ]<;>omega)))
        |apply qf;exact wu_;exact wu_;(focus((try simp -implicitDefEqProofs only[wE,Nat.reduceAdd]);rfl))
        |apply qg;exact wd_;exact wu_
        |apply qh;exact wu_
        |simp -implicitDefEqProofs (disch:=omega) only[w64,if_neg]
       all_goals refine qF rfl (Or.inr rfl) ?_
       all_goals(try simp -implicitDefEqProofs only[wL,seval,g0,g3,g5])
       all_goals refine er_ ?_
       all_goals(try(with_reducible rfl))

theorem qdt {a:List Int} {x:Int} (h:kK (a++[x])):vF a x=a++[x]:=by
 have ha:kK a:=h.sublist (List.sublist_append_left _ _)
 exact YE (kg ha) h fun y=>by rw[jO,List.mem_append,List.mem_singleton]
theorem ZT.nat {g:Grammar} {x:Int} (h:ZT g x): ∃(m d:Nat) (p:GPr),x / 16=(m:Int)∧x % 16=(d:Int)∧g.prods[m]?=some p∧d≤p.right.length∧nxt g x=(p.right[d]?).getD (-1):=by
 obtain ⟨h0,p,hp,hd⟩:=h
 refine⟨(x / 16).toNat,(x % 16).toNat,p,o_,o_,hp,hd,?_⟩
 unfold nxt
 rw[hp];rfl
theorem zD {g:Grammar} {x:Int} (hx:ZT g x) (hpl:g.prods.length≤60) (hrl: ∀p∈g.prods,p.right.length≤8):Pure Tryz.prog 118 [g.V,itV x] (.bool true):=by
 refine pure_intro Tryz.func118 nm_ qdx (by show 2≤34;decide) ?_
 show ewp _ qhl _ _
 obtain ⟨m,d,p,hm,hd,hp,hl,hn⟩:=hx.nat
 have hml:=(List.getElem?_eq_some_iff.1 hp).1
 have hrl:=hrl p (List.mem_of_getElem? hp)
 have hV:itV x=.agg [vi m,vi d]:=by rw[← hm,← hd]
 rw[hV]
 obtain ⟨pl,pr,pc,pco,pa,pat⟩:=p
 dsimp only at hl hrl
 repeat' with_reducible first
  |refine s_ ?_
  |refine s_ ?_
  |simp -implicitDefEqProofs only[wS,wT,wU,wV,wW,wX,wY,wC,wF,wG,wL,wM,wN,seval,Int.cast_ofNat_Int,Int.reduceLT,Int.reduceLE,Int.reduceEq,Int.reduceToNat,decide_true,decide_false,Bool.false_eq_true]
  |((first|refine zk (fun h=>?_) (fun h=>?_)|refine zl (fun h=>?_) (fun h=>?_))<;>have h_:=h<;>(try simp only[wD,reduceCtorEq]at h_)<;>(try(exfalso;first|omega|exact absurd (Eq.trans (Eq.symm h_) (by assumption):false=true) (by decide)|exact absurd (Eq.trans (Eq.symm h_) (by assumption):true=false) (by decide)|(refine absurd ?_ h_;focus assumption)|(refine absurd h_ ?_;focus assumption)))<;>(try simp only[h]))
  |refine t_ ?_
  |apply qo;omega;exact wd_
  |apply qB;(focus(first|omega|(simp only[wZ]<;>omega)))
  |apply qf;exact wu_;exact wu_;(focus((try simp -implicitDefEqProofs only[wE,Nat.reduceAdd]);rfl))
  |apply qg;exact wd_;exact wu_
  |apply qh;exact wu_
  |simp -implicitDefEqProofs (disch:=omega) only[w64,if_neg]
 all_goals refine qF rfl (Or.inr rfl) ?_
 all_goals(try simp -implicitDefEqProofs only[wL,seval])
 all_goals refine er_ ?_
 all_goals(try(with_reducible rfl))
 all_goals exact decide_eq_true o_
theorem qw {g:Grammar} {x:Int} (hx:ZT g x) (hpl:g.prods.length≤60) (hrl: ∀p∈g.prods,p.right.length≤8):Pure Tryz.prog 85 [g.V,itV x] (vi (nxt g x)):=by
 refine pure_intro Tryz.func85 nm_ qhh (by show 2≤33;decide) ?_
 show ewp _ qDr _ _
 have hit:=zD hx hpl hrl
 obtain ⟨m,d,p,hm,hd,hp,hl,hn⟩:=hx.nat
 have hml:=(List.getElem?_eq_some_iff.1 hp).1
 have hrl:=hrl p (List.mem_of_getElem? hp)
 have hV:itV x=.agg [vi m,vi d]:=by rw[← hm,← hd]
 rw[hV]at hit
 rw[hV,hn]
 obtain ⟨pl,pr,pc,pco,pa,pat⟩:=p
 dsimp only at hl hrl ⊢
 by_cases hdl:d<pr.length
 · have hgd:pr[d]?=some pr[d]:=ge_ hdl
   rw[hgd,Option.getD_some]
   generalize pr[d]=sy at *
   repeat' with_reducible first
    |refine s_ ?_
    |refine s_ ?_
    |refine s_ ?_
    |simp -implicitDefEqProofs only[wS,wT,wU,wV,wW,wX,wY,wC,wF,wG,wL,wM,wN,seval,Int.cast_ofNat_Int,Int.reduceLT,Int.reduceLE,Int.reduceEq,Int.reduceToNat,decide_true,decide_false,Bool.false_eq_true]
    |(refine qa (fun h h_=>?_) (fun h h_=>?_)<;>(try simp only[wD,reduceCtorEq]at h_)<;>(try(exfalso;first|omega|exact absurd (Eq.trans (Eq.symm h_) (by assumption):false=true) (by decide)|exact absurd (Eq.trans (Eq.symm h_) (by assumption):true=false) (by decide)|(refine absurd ?_ h_;focus assumption)|(refine absurd h_ ?_;focus assumption)))<;>(try simp only[h]))
    |((first|refine zk (fun h=>?_) (fun h=>?_)|refine zl (fun h=>?_) (fun h=>?_))<;>have h_:=h<;>(try simp only[wD,reduceCtorEq]at h_)<;>(try(exfalso;first|omega|exact absurd (Eq.trans (Eq.symm h_) (by assumption):false=true) (by decide)|exact absurd (Eq.trans (Eq.symm h_) (by assumption):true=false) (by decide)|(refine absurd ?_ h_;focus assumption)|(refine absurd h_ ?_;focus assumption)))<;>(try simp only[h]))
    |refine t_ ?_
    |refine cq2 hit qj qj ?_
    |apply qo;omega;exact wd_
    |apply qB;(focus(first|omega|(simp only[wZ]<;>omega)))
    |apply qf;exact wu_;exact wu_;(focus((try simp -implicitDefEqProofs only[wE,Nat.reduceAdd]);rfl))
    |apply qg;exact wd_;exact wu_
    |apply qh;exact wu_
    |refine qA we_ we_ (zD wf_ wf_ wf_) ?_
    |simp -implicitDefEqProofs (disch:=omega) only[w64,if_neg]
   all_goals refine qF rfl (Or.inr rfl) ?_
   all_goals(try simp -implicitDefEqProofs only[wL,seval])
   all_goals refine er_ ?_
   all_goals(try(with_reducible rfl))
 · rw[List.getElem?_eq_none o_,Option.getD_none]
   repeat' with_reducible first
    |refine s_ ?_
    |refine s_ ?_
    |refine s_ ?_
    |simp -implicitDefEqProofs only[wS,wT,wU,wV,wW,wX,wY,wC,wF,wG,wL,wM,wN,seval,Int.cast_ofNat_Int,Int.reduceLT,Int.reduceLE,Int.reduceEq,Int.reduceToNat,decide_true,decide_false,Bool.false_eq_true]
    |(refine qa (fun h h_=>?_) (fun h h_=>?_)<;>(try simp only[wD,reduceCtorEq]at h_)<;>(try(exfalso;first|omega|exact absurd (Eq.trans (Eq.symm h_) (by assumption):false=true) (by decide)|exact absurd (Eq.trans (Eq.symm h_) (by assumption):true=false) (by decide)|(refine absurd ?_ h_;focus assumption)|(refine absurd h_ ?_;focus assumption)))<;>(try simp only[h]))
    |((first|refine zk (fun h=>?_) (fun h=>?_)|refine zl (fun h=>?_) (fun h=>?_))<;>have h_:=h<;>(try simp only[wD,reduceCtorEq]at h_)<;>(try(exfalso;first|omega|exact absurd (Eq.trans (Eq.symm h_) (by assumption):false=true) (by decide)|exact absurd (Eq.trans (Eq.symm h_) (by assumption):true=false) (by decide)|(refine absurd ?_ h_;focus assumption)|(refine absurd h_ ?_;focus assumption)))<;>(try simp only[h]))
    |refine t_ ?_
    |refine cq2 hit qj qj ?_
    |apply qo;omega;exact wd_
    |apply qB;(focus(first|omega|(simp only[wZ]<;>omega)))
    |apply qf;exact wu_;exact wu_;(focus((try simp -implicitDefEqProofs only[wE,Nat.reduceAdd]);rfl))
    |apply qg;exact wd_;exact wu_
    |apply qh;exact wu_
    |refine qA we_ we_ (zD wf_ wf_ wf_) ?_
    |simp -implicitDefEqProofs (disch:=omega) only[w64,if_neg]
   all_goals refine qF rfl (Or.inr rfl) ?_
   all_goals(try simp -implicitDefEqProofs only[wL,seval])
   all_goals refine er_ ?_
   all_goals(try(with_reducible rfl))
theorem qU {g:Grammar} {l:List Int} (hx: ∀x∈l,ZT g x) (hr:kK l) (hl:l.length≤1000000) (hpl:g.prods.length≤60) (hrl: ∀p∈g.prods,p.right.length≤8):Pure Tryz.prog 116 [g.V,.sl 2 false (l.map itV)] (.sl 2 false (l.map itV)):=by
 refine pure_intro Tryz.func116 nm_ qeq (by show 2≤26;decide) ?_
 show ewp _ qd8 _ _
 repeat' with_reducible first
  |refine s_ ?_
  |refine s_ ?_
  |simp -implicitDefEqProofs only[wS,wT,wU,wV,wW,wX,wY,wC,wF,wG,wL,wM,wN,seval,Int.cast_ofNat_Int,Int.reduceLT,Int.reduceLE,Int.reduceEq,Int.reduceToNat,decide_true,decide_false,Bool.false_eq_true]
  |(refine qa (fun h h_=>?_) (fun h h_=>?_)<;>(try simp only[wD,reduceCtorEq]at h_)<;>(try(exfalso;first|omega|exact absurd (Eq.trans (Eq.symm h_) (by assumption):false=true) (by decide)|exact absurd (Eq.trans (Eq.symm h_) (by assumption):true=false) (by decide)|(refine absurd ?_ h_;focus assumption)|(refine absurd h_ ?_;focus assumption)))<;>(try simp only[h]))
  |refine t_ ?_
  |apply qo;omega;exact wd_
  |apply qB;(focus(first|omega|(simp only[wZ]<;>omega)))
  |apply qf;exact wu_;exact wu_;(focus((try simp -implicitDefEqProofs only[wE,Nat.reduceAdd]);rfl))
  |apply qg;exact wd_;exact wu_
  |apply qh;exact wu_
  |refine qA we_ we_ (zD wf_ wf_ wf_) ?_
  |refine qA we_ we_ (qD wf_) ?_
  |simp -implicitDefEqProofs (disch:=omega) only[w64,if_neg]
 refine qi ?nx1 (fun(i:Nat) s=>s.f 1=?v1_1∧s.f 2=?v1_2∧s.H 0=some (.own 5 [g.V] false)∧(∃c,s.f 5=.sl 2 c ((l.take i).map itV))∧s.f 6=vi i∧(i≤l.length)) (fun i=>l.length - i) (0) wj_ (by refine⟨?_,?_,?_,?_,?_,wo_⟩<;>first|(simp -implicitDefEqProofs only[wL,wM,wN,wX,seval,Option.some.injEq]<;>exact wt_)|rfl|exact⟨_,rfl⟩) ?_
 intro i s hnx ⟨g1,g2,o0,⟨c5,g5⟩,g6,k1_0⟩
 have hz:=w1_ i
 by_cases hi:i<l.length
 · have hgi:l[i]?=some l[i]:=ge_ hi
   have htk:l.take (i+1)=l.take i++[l[i]]:=by rw[List.take_add_one,hgi];rfl
   have hit:=zD (hx _ (List.getElem_mem hi)) hpl hrl
   have hput:=qD (l:=l.take i) (x:=l[i]) (by rw[List.length_take];omega)
   rw[qdt (by rw[← htk];exact hr.sublist (List.take_sublist _ _)),← htk]at hput
   generalize l[i]=x at *
   repeat' with_reducible first
    |refine s_ ?_
    |refine s_ ?_
    |simp -implicitDefEqProofs only[wS,wT,wU,wV,wW,wX,wY,wC,wF,wG,wL,wM,wN,seval,Int.cast_ofNat_Int,Int.reduceLT,Int.reduceLE,Int.reduceEq,Int.reduceToNat,decide_true,decide_false,Bool.false_eq_true,g1,g2,g5,g6,o0,hz]
    |(refine qa (fun h h_=>?_) (fun h h_=>?_)<;>(try simp only[wD,reduceCtorEq]at h_)<;>(try(exfalso;first|omega|exact absurd (Eq.trans (Eq.symm h_) (by assumption):false=true) (by decide)|exact absurd (Eq.trans (Eq.symm h_) (by assumption):true=false) (by decide)|(refine absurd ?_ h_;focus assumption)|(refine absurd h_ ?_;focus assumption)))<;>(try simp only[h]))
    |refine t_ ?_
    |refine cq2 hit qj qj ?_
    |refine cq2 hput zS qj ?_
    |apply qo;omega;exact wd_
    |apply qB;(focus(first|omega|(simp only[wZ]<;>omega)))
    |apply qf;exact wu_;exact wu_;(focus((try simp -implicitDefEqProofs only[wE,Nat.reduceAdd]);rfl))
    |apply qg;exact wd_;exact wu_
    |apply qh;exact wu_
    |refine qA we_ we_ (zD wf_ wf_ wf_) ?_
    |refine qA we_ we_ (qD wf_) ?_
    |simp -implicitDefEqProofs (disch:=omega) only[w64,if_neg]
   refine⟨wk_,i+1,o_,?_⟩
   refine⟨?_,?_,?_,?_,?_,?_⟩
   iterate 5 (focus(first|(simp -implicitDefEqProofs only[wL,wM,wN,wX,seval,Option.some.injEq,g1,g2,g5,g6,o0]<;>exact wt_)|rfl|exact⟨_,rfl⟩))
   all_goals try omega
 · have e:l.take i=l:=List.take_of_length_le o_
   rw[e]at g5
   repeat' with_reducible first
    |refine s_ ?_
    |refine s_ ?_
    |simp -implicitDefEqProofs only[wS,wT,wU,wV,wW,wX,wY,wC,wF,wG,wL,wM,wN,seval,Int.cast_ofNat_Int,Int.reduceLT,Int.reduceLE,Int.reduceEq,Int.reduceToNat,decide_true,decide_false,Bool.false_eq_true,g1,g2,g5,g6,o0,hz]
    |(refine qa (fun h h_=>?_) (fun h h_=>?_)<;>(try simp only[wD,reduceCtorEq]at h_)<;>(try(exfalso;first|omega|exact absurd (Eq.trans (Eq.symm h_) (by assumption):false=true) (by decide)|exact absurd (Eq.trans (Eq.symm h_) (by assumption):true=false) (by decide)|(refine absurd ?_ h_;focus assumption)|(refine absurd h_ ?_;focus assumption)))<;>(try simp only[h]))
    |refine t_ ?_
    |apply qo;omega;exact wd_
    |apply qB;(focus(first|omega|(simp only[wZ]<;>omega)))
    |apply qf;exact wu_;exact wu_;(focus((try simp -implicitDefEqProofs only[wE,Nat.reduceAdd]);rfl))
    |apply qg;exact wd_;exact wu_
    |apply qh;exact wu_
    |refine qA we_ we_ (zD wf_ wf_ wf_) ?_
    |refine qA we_ we_ (qD wf_) ?_
    |simp -implicitDefEqProofs (disch:=omega) only[w64,if_neg]
   all_goals refine qF rfl (Or.inr rfl) ?_
   all_goals(try simp -implicitDefEqProofs only[wL,seval,g1,g2,g5,g6])
   all_goals refine er_ ?_
   all_goals(try(with_reducible rfl))

structure ClM (g:Grammar) (l c:List Int):Prop where
 rise:kK c
 has: ∀x∈l,x∈c
 least: ∀D,qMs g l D→ ∀x∈c,D x
 ok: ∀x∈c,ZT g x
theorem ClM.len {g:Grammar} {l c:List Int} (h:ClM g l c) (hpl:g.prods.length≤60):c.length≤960:=
 kT (a:=0) h.rise fun x hx=>by
  obtain ⟨h0,p,hp,_⟩:=h.ok x hx
  have:=(List.getElem?_eq_some_iff.1 hp).1
  omega
theorem ClM.put {g:Grammar} {l c:List Int} (h:ClM g l c) {y:Int} {m:Nat} {p:GPr} (hy:y∈c) (hp:g.prods[m]?=some p) (h1:1000≤nxt g y) (h2:p.left=nxt g y - 1000):ClM g l (vF c (16 *(m:Int))):=by
 refine⟨kg h.rise,fun x hx=>jO.2 (Or.inl (h.has x hx)),fun D hD x hx=>?_,fun x hx=>?_⟩
 · rcases jO.1 hx with hx|rfl
   · exact h.least D hD x hx
   · exact hD.2 y (h.least D hD y hy) m p hp h1 h2
 · rcases jO.1 hx with hx|rfl
   · exact h.ok x hx
   · exact qd6 hp
def qC9 (g:Grammar) (y:Int) (c:List Int):Prop:= ∀(m:Nat) p,g.prods[m]?=some p→1000≤nxt g y→p.left=nxt g y - 1000→16 *(m:Int)∈c
theorem ClM.done {g:Grammar} {l c:List Int} (h:ClM g l c) (hc: ∀y∈c,qC9 g y c):IsCl g l c:=
 ⟨h.rise,⟨h.has,fun x hx m p hp h1 h2=>hc x hx m p hp h1 h2⟩,h.least⟩
theorem qcm {g:Grammar} (hg:GOk g) {x:Int} (hx:ZT g x): -1≤nxt g x∧nxt g x<2000:=by
 obtain ⟨m,d,p,_,_,hp,_,hn⟩:=hx.nat
 rw[hn]
 cases h:p.right[d]? with
 |none=>simp
 | some s=>
   have h1:=hg.tk2;have h2:=hg.nn2
   rcases hg.right p (List.mem_of_getElem? hp) s (List.mem_of_getElem? h)with ⟨t,rfl,ht⟩|⟨k,rfl,hk⟩<;>simp<;>omega
theorem qC {g:Grammar} {l:List Int} (hx: ∀x∈l,ZT g x) (hr:kK l) (hl:l.length≤1000000) (hg:GOk g):Pure Tryz.prog 84 [g.V,.sl 2 false (l.map itV)] (.sl 2 false ((yt g l).map itV)):=by
 refine pure_intro Tryz.func84 nm_ qho (by show 2≤59;decide) ?_
 show ewp _ qgO _ _
 have hpl:=hg.pl2;have hrl:=hg.rlen
 have hri:=qU hx hr hl hpl hrl
 repeat' with_reducible first
  |refine s_ ?_
  |refine s_ ?_
  |refine s_ ?_
  |simp -implicitDefEqProofs only[wS,wT,wU,wV,wW,wX,wY,wC,wF,wG,wL,wM,wN,seval,Int.cast_ofNat_Int,Int.reduceLT,Int.reduceLE,Int.reduceEq,Int.reduceToNat,decide_true,decide_false,Bool.false_eq_true]
  |(refine qa (fun h h_=>?_) (fun h h_=>?_)<;>(try simp only[wD,reduceCtorEq]at h_)<;>(try(exfalso;first|omega|exact absurd (Eq.trans (Eq.symm h_) (by assumption):false=true) (by decide)|exact absurd (Eq.trans (Eq.symm h_) (by assumption):true=false) (by decide)|(refine absurd ?_ h_;focus assumption)|(refine absurd h_ ?_;focus assumption)))<;>(try simp only[h]))
  |((first|refine zk (fun h=>?_) (fun h=>?_)|refine zl (fun h=>?_) (fun h=>?_))<;>have h_:=h<;>(try simp only[wD,reduceCtorEq]at h_)<;>(try(exfalso;first|omega|exact absurd (Eq.trans (Eq.symm h_) (by assumption):false=true) (by decide)|exact absurd (Eq.trans (Eq.symm h_) (by assumption):true=false) (by decide)|(refine absurd ?_ h_;focus assumption)|(refine absurd h_ ?_;focus assumption)))<;>(try simp only[h]))
  |refine cq2 hri qj qj ?_
  |refine t_ ?_
  |apply qo;omega;exact wd_
  |apply qB;(focus(first|omega|(simp only[wZ]<;>omega)))
  |apply qf;exact wu_;exact wu_;(focus((try simp -implicitDefEqProofs only[wE,Nat.reduceAdd]);rfl))
  |apply qg;exact wd_;exact wu_
  |apply qh;exact wu_
  |refine qA we_ we_ (qU wf_ wf_ wf_ wf_ wf_) ?_
  |refine qA we_ we_ (qw wf_ wf_ wf_) ?_
  |refine qA we_ we_ (qD wf_) ?_
  |simp -implicitDefEqProofs (disch:=omega) only[w64,if_neg]
 refine qi ?nx1 (fun(q:List Int×Int) s=>s.f 2=?v1_2∧s.H 0=some (.own 5 [g.V] false)∧s.f 5=.sl 2 false (q.1.map itV)∧s.f 6=vi q.2∧(ClM g l q.1)∧((q.2=(q.1.length:Int)→ ∀y∈q.1,qC9 g y q.1))) (fun q=>2 *(961 - q.1.length)+(if q.2=(q.1.length:Int)then 0 else 1)) ((l,-1)) wj_ (by refine⟨?_,?_,?_,?_,(by exact⟨hr,fun _ h=>h,fun D hD=>hD.1,hx⟩),(by intro e;omega)⟩<;>first|(simp -implicitDefEqProofs only[wL,wM,wN,wX,seval,Option.some.injEq]<;>exact wt_)|rfl|exact⟨_,rfl⟩) ?_
 intro q s hnx ⟨g2,o0,g5,g6,k1_0,k1_1⟩
 obtain ⟨c,n⟩:=q
 dsimp only at *
 have hcl:=k1_0.len hpl
 by_cases hn:n=(c.length:Int)
 · have hd:=(k1_0.done (k1_1 hn)).uniq (Y5 hpl hrl hx hr)
   rw[← hd]
   subst hn
   repeat' with_reducible first
    |refine s_ ?_
    |refine s_ ?_
    |refine s_ ?_
    |simp -implicitDefEqProofs only[wS,wT,wU,wV,wW,wX,wY,wC,wF,wG,wL,wM,wN,seval,Int.cast_ofNat_Int,Int.reduceLT,Int.reduceLE,Int.reduceEq,Int.reduceToNat,decide_true,decide_false,Bool.false_eq_true,g2,g5,g6,o0]
    |(refine qa (fun h h_=>?_) (fun h h_=>?_)<;>(try simp only[wD,reduceCtorEq]at h_)<;>(try(exfalso;first|omega|exact absurd (Eq.trans (Eq.symm h_) (by assumption):false=true) (by decide)|exact absurd (Eq.trans (Eq.symm h_) (by assumption):true=false) (by decide)|(refine absurd ?_ h_;focus assumption)|(refine absurd h_ ?_;focus assumption)))<;>(try simp only[h]))
    |((first|refine zk (fun h=>?_) (fun h=>?_)|refine zl (fun h=>?_) (fun h=>?_))<;>have h_:=h<;>(try simp only[wD,reduceCtorEq]at h_)<;>(try(exfalso;first|omega|exact absurd (Eq.trans (Eq.symm h_) (by assumption):false=true) (by decide)|exact absurd (Eq.trans (Eq.symm h_) (by assumption):true=false) (by decide)|(refine absurd ?_ h_;focus assumption)|(refine absurd h_ ?_;focus assumption)))<;>(try simp only[h]))
    |refine t_ ?_
    |apply qo;omega;exact wd_
    |apply qB;(focus(first|omega|(simp only[wZ]<;>omega)))
    |apply qf;exact wu_;exact wu_;(focus((try simp -implicitDefEqProofs only[wE,Nat.reduceAdd]);rfl))
    |apply qg;exact wd_;exact wu_
    |apply qh;exact wu_
    |refine qA we_ we_ (qU wf_ wf_ wf_ wf_ wf_) ?_
    |refine qA we_ we_ (qw wf_ wf_ wf_) ?_
    |refine qA we_ we_ (qD wf_) ?_
    |simp -implicitDefEqProofs (disch:=omega) only[w64,if_neg]
   all_goals refine qF rfl (Or.inr rfl) ?_
   all_goals(try simp -implicitDefEqProofs only[wL,seval,g2,g5,g6])
   all_goals refine er_ ?_
   all_goals(try(with_reducible rfl))
 · repeat' with_reducible first
    |refine s_ ?_
    |refine s_ ?_
    |refine s_ ?_
    |simp -implicitDefEqProofs only[wS,wT,wU,wV,wW,wX,wY,wC,wF,wG,wL,wM,wN,seval,Int.cast_ofNat_Int,Int.reduceLT,Int.reduceLE,Int.reduceEq,Int.reduceToNat,decide_true,decide_false,Bool.false_eq_true,g2,g5,g6,o0]
    |(refine qa (fun h h_=>?_) (fun h h_=>?_)<;>(try simp only[wD,reduceCtorEq]at h_)<;>(try(exfalso;first|omega|exact absurd (Eq.trans (Eq.symm h_) (by assumption):false=true) (by decide)|exact absurd (Eq.trans (Eq.symm h_) (by assumption):true=false) (by decide)|(refine absurd ?_ h_;focus assumption)|(refine absurd h_ ?_;focus assumption)))<;>(try simp only[h]))
    |((first|refine zk (fun h=>?_) (fun h=>?_)|refine zl (fun h=>?_) (fun h=>?_))<;>have h_:=h<;>(try simp only[wD,reduceCtorEq]at h_)<;>(try(exfalso;first|omega|exact absurd (Eq.trans (Eq.symm h_) (by assumption):false=true) (by decide)|exact absurd (Eq.trans (Eq.symm h_) (by assumption):true=false) (by decide)|(refine absurd ?_ h_;focus assumption)|(refine absurd h_ ?_;focus assumption)))<;>(try simp only[h]))
    |refine t_ ?_
    |apply qo;omega;exact wd_
    |apply qB;(focus(first|omega|(simp only[wZ]<;>omega)))
    |apply qf;exact wu_;exact wu_;(focus((try simp -implicitDefEqProofs only[wE,Nat.reduceAdd]);rfl))
    |apply qg;exact wd_;exact wu_
    |apply qh;exact wu_
    |refine qA we_ we_ (qU wf_ wf_ wf_ wf_ wf_) ?_
    |refine qA we_ we_ (qw wf_ wf_ wf_) ?_
    |refine qA we_ we_ (qD wf_) ?_
    |simp -implicitDefEqProofs (disch:=omega) only[w64,if_neg]
   refine qi ?nx2 (fun(i:Nat) s=>s.f 2=?v2_2∧s.f 6=?v2_6∧s.H 0=some (.own 5 [g.V] false)∧s.f 7=vi i∧(i≤c.length)∧((∀y∈c.take i,qC9 g y c))∧(s.f 5=.sl 2 false (c.map itV))) (fun i=>c.length - i) (0) wj_ (by refine⟨?_,?_,?_,?_,wo_,(by intro y hy;simp at hy),(by(try simp -implicitDefEqProofs only[wL,wM,wN,seval,g2,g5,g6,o0]);first|done|rfl)⟩<;>first|(simp -implicitDefEqProofs only[wL,wM,wN,wX,seval,Option.some.injEq,g2,g5,g6,o0]<;>exact wt_)|rfl|exact⟨_,rfl⟩) ?_
   intro i s hnx ⟨g2,g6,o0,g7,k2_0,k2_1,g5⟩
   have hz:=w1_ i
   by_cases hi:i<c.length
   · have hgi:c[i]?=some c[i]:=ge_ hi
     have hyc:=List.getElem_mem hi
     have htk:c.take (i+1)=c.take i++[c[i]]:=by rw[List.take_add_one,hgi];rfl
     have hok:=k1_0.ok _ hyc
     have hnx:=qw hok hpl hrl
     have hbd:=qcm hg hok
     generalize c[i]=y at *
     generalize hs:nxt g y=sy at *
     repeat' with_reducible first
      |refine s_ ?_
      |refine s_ ?_
      |refine s_ ?_
      |simp -implicitDefEqProofs only[wS,wT,wU,wV,wW,wX,wY,wC,wF,wG,wL,wM,wN,seval,Int.cast_ofNat_Int,Int.reduceLT,Int.reduceLE,Int.reduceEq,Int.reduceToNat,decide_true,decide_false,Bool.false_eq_true,g2,g6,g7,g5,o0,hz]
      |(refine qa (fun h h_=>?_) (fun h h_=>?_)<;>(try simp only[wD,reduceCtorEq]at h_)<;>(try(exfalso;first|omega|exact absurd (Eq.trans (Eq.symm h_) (by assumption):false=true) (by decide)|exact absurd (Eq.trans (Eq.symm h_) (by assumption):true=false) (by decide)|(refine absurd ?_ h_;focus assumption)|(refine absurd h_ ?_;focus assumption)))<;>(try simp only[h]))
      |((first|refine zk (fun h=>?_) (fun h=>?_)|refine zl (fun h=>?_) (fun h=>?_))<;>have h_:=h<;>(try simp only[wD,reduceCtorEq]at h_)<;>(try(exfalso;first|omega|exact absurd (Eq.trans (Eq.symm h_) (by assumption):false=true) (by decide)|exact absurd (Eq.trans (Eq.symm h_) (by assumption):true=false) (by decide)|(refine absurd ?_ h_;focus assumption)|(refine absurd h_ ?_;focus assumption)))<;>(try simp only[h]))
      |refine t_ ?_
      |refine cq2 hnx qj qj ?_
      |apply qo;omega;exact wd_
      |apply qB;(focus(first|omega|(simp only[wZ]<;>omega)))
      |apply qf;exact wu_;exact wu_;(focus((try simp -implicitDefEqProofs only[wE,Nat.reduceAdd]);rfl))
      |apply qg;exact wd_;exact wu_
      |apply qh;exact wu_
      |refine qA we_ we_ (qU wf_ wf_ wf_ wf_ wf_) ?_
      |refine qA we_ we_ (qw wf_ wf_ wf_) ?_
      |refine qA we_ we_ (qD wf_) ?_
      |simp -implicitDefEqProofs (disch:=omega) only[w64,if_neg]
     refine qi ?nx3 (fun(r:Nat×List Int) s=>s.f 2=?v3_2∧s.f 6=?v3_6∧s.f 7=?v3_7∧s.f 8=?v3_8∧s.H 0=some (.own 5 [g.V] false)∧s.f 9=vi r.1∧(r.1≤g.prods.length)∧(ClM g l r.2)∧((∀x∈c,x∈r.2))∧((∀(m:Nat) p,m<r.1→g.prods[m]?=some p→1000≤sy→p.left=sy - 1000→16 *(m:Int)∈r.2))∧(s.f 5=.sl 2 false (r.2.map itV))) (fun r=>g.prods.length - r.1) ((0,c)) wj_ (by refine⟨?_,?_,?_,?_,?_,?_,wo_,(by exact k1_0),(by exact fun _ h=>h),(by intro m p h;exact absurd h (Nat.not_lt_zero m)),(by(try simp -implicitDefEqProofs only[wL,wM,wN,seval,g2,g6,g7,g5,o0]);first|done|rfl)⟩<;>first|(simp -implicitDefEqProofs only[wL,wM,wN,wX,seval,Option.some.injEq,g2,g6,g7,g5,o0]<;>exact wt_)|rfl|exact⟨_,rfl⟩) ?_
     intro r s hnx ⟨g2,g6,g7,g8,o0,g9,k3_0,k3_1,k3_2,k3_3,g5⟩
     obtain ⟨j,o⟩:=r
     dsimp only at *
     have hol:=k3_1.len hpl
     have hzj:=w1_ j
     have hzs:IntKind.i64.wrap (sy - 1000)=sy - 1000:=wrap64 o_ o_
     by_cases hj:j<g.prods.length∧1000≤sy
     · obtain ⟨hj1,hj2⟩:=hj
       have hgj:g.prods[j]?=some g.prods[j]:=ge_ hj1
       obtain ⟨lf,hl1,hl2⟩:=hg.left _ (List.getElem_mem hj1)
       generalize g.prods[j]=p at *
       have hput:=qD (l:=o) (x:=16 *(j:Int)) o_
       have hkv:itV (16 *(j:Int))=.agg [vi j,vi 0]:=by
        show V.agg [vi (16 *(j:Int) / 16),vi (16 *(j:Int) % 16)]=_
        rw[show 16 *(j:Int) / 16=(j:Int) by omega,show 16 *(j:Int) % 16=0 by omega]
       rw[hkv]at hput
       obtain ⟨pl,pr,pc,pco,pa,pat⟩:=p
       dsimp only at hl1
       by_cases he:pl=sy - 1000
       · have hnew:=k3_1.put (y:=y) (k3_2 y hyc) hgj o_ (by rw[hs];exact he)
         subst hl1
         repeat' with_reducible first
          |refine s_ ?_
          |refine s_ ?_
          |refine s_ ?_
          |simp -implicitDefEqProofs only[wS,wT,wU,wV,wW,wX,wY,wC,wF,wG,wL,wM,wN,seval,Int.cast_ofNat_Int,Int.reduceLT,Int.reduceLE,Int.reduceEq,Int.reduceToNat,decide_true,decide_false,Bool.false_eq_true,g2,g6,g7,g8,g9,g5,o0,hz,hzj,hzs]
          |(refine qa (fun h h_=>?_) (fun h h_=>?_)<;>(try simp only[wD,reduceCtorEq]at h_)<;>(try(exfalso;first|omega|exact absurd (Eq.trans (Eq.symm h_) (by assumption):false=true) (by decide)|exact absurd (Eq.trans (Eq.symm h_) (by assumption):true=false) (by decide)|(refine absurd ?_ h_;focus assumption)|(refine absurd h_ ?_;focus assumption)))<;>(try simp only[h]))
          |((first|refine zk (fun h=>?_) (fun h=>?_)|refine zl (fun h=>?_) (fun h=>?_))<;>have h_:=h<;>(try simp only[wD,reduceCtorEq]at h_)<;>(try(exfalso;first|omega|exact absurd (Eq.trans (Eq.symm h_) (by assumption):false=true) (by decide)|exact absurd (Eq.trans (Eq.symm h_) (by assumption):true=false) (by decide)|(refine absurd ?_ h_;focus assumption)|(refine absurd h_ ?_;focus assumption)))<;>(try simp only[h]))
          |refine t_ ?_
          |refine cq2 hput qj qj ?_
          |apply qo;omega;exact wd_
          |apply qB;(focus(first|omega|(simp only[wZ]<;>omega)))
          |apply qf;exact wu_;exact wu_;(focus((try simp -implicitDefEqProofs only[wE,Nat.reduceAdd]);rfl))
          |apply qg;exact wd_;exact wu_
          |apply qh;exact wu_
          |refine qA we_ we_ (qU wf_ wf_ wf_ wf_ wf_) ?_
          |refine qA we_ we_ (qw wf_ wf_ wf_) ?_
          |refine qA we_ we_ (qD wf_) ?_
          |simp -implicitDefEqProofs (disch:=omega) only[w64,if_neg]
         refine⟨wg_,(j+1,vF o (16 *(j:Int))),by dsimp only;omega,?_⟩;(repeat refine⟨True.intro,?_⟩)
         refine⟨rfl,by dsimp only;omega,hnew,fun x hx=>jO.2 (Or.inl (k3_2 x hx)),fun m p hm hp h1 h2=>?_,rfl⟩
         dsimp only at hm ⊢
         by_cases e:m=j
         · subst e;exact jO.2 (Or.inr rfl)
         · exact jO.2 (Or.inl (k3_3 m p o_ hp h1 h2))
       · have hnn: ∀(m:Nat) p,m<j+1→g.prods[m]?=some p→1000≤sy→p.left=sy - 1000→16 *(m:Int)∈o:=fun m p hm hp h1 h2=>by
          by_cases e:m=j
          · subst e;rw[hgj]at hp;cases hp;exact absurd h2 he
          · exact k3_3 m p o_ hp h1 h2
         subst hl1
         repeat' with_reducible first
          |refine s_ ?_
          |refine s_ ?_
          |refine s_ ?_
          |simp -implicitDefEqProofs only[wS,wT,wU,wV,wW,wX,wY,wC,wF,wG,wL,wM,wN,seval,Int.cast_ofNat_Int,Int.reduceLT,Int.reduceLE,Int.reduceEq,Int.reduceToNat,decide_true,decide_false,Bool.false_eq_true,g2,g6,g7,g8,g9,g5,o0,hz,hzj,hzs]
          |(refine qa (fun h h_=>?_) (fun h h_=>?_)<;>(try simp only[wD,reduceCtorEq]at h_)<;>(try(exfalso;first|omega|exact absurd (Eq.trans (Eq.symm h_) (by assumption):false=true) (by decide)|exact absurd (Eq.trans (Eq.symm h_) (by assumption):true=false) (by decide)|(refine absurd ?_ h_;focus assumption)|(refine absurd h_ ?_;focus assumption)))<;>(try simp only[h]))
          |((first|refine zk (fun h=>?_) (fun h=>?_)|refine zl (fun h=>?_) (fun h=>?_))<;>have h_:=h<;>(try simp only[wD,reduceCtorEq]at h_)<;>(try(exfalso;first|omega|exact absurd (Eq.trans (Eq.symm h_) (by assumption):false=true) (by decide)|exact absurd (Eq.trans (Eq.symm h_) (by assumption):true=false) (by decide)|(refine absurd ?_ h_;focus assumption)|(refine absurd h_ ?_;focus assumption)))<;>(try simp only[h]))
          |refine t_ ?_
          |apply qo;omega;exact wd_
          |apply qB;(focus(first|omega|(simp only[wZ]<;>omega)))
          |apply qf;exact wu_;exact wu_;(focus((try simp -implicitDefEqProofs only[wE,Nat.reduceAdd]);rfl))
          |apply qg;exact wd_;exact wu_
          |apply qh;exact wu_
          |refine qA we_ we_ (qU wf_ wf_ wf_ wf_ wf_) ?_
          |refine qA we_ we_ (qw wf_ wf_ wf_) ?_
          |refine qA we_ we_ (qD wf_) ?_
          |simp -implicitDefEqProofs (disch:=omega) only[w64,if_neg]
         refine⟨wg_,(j+1,o),by dsimp only;omega,?_⟩;(repeat refine⟨True.intro,?_⟩)
         exact⟨rfl,by dsimp only;omega,k3_1,k3_2,hnn,rfl⟩
     · have hat:qC9 g y o:=fun m p hp h1 h2=>by
        rw[hs]at h1 h2
        have:=(List.getElem?_eq_some_iff.1 hp).1
        exact k3_3 m p o_ hp h1 h2
       by_cases hlen:o.length=c.length
       · have hoc:c=o:=Ya k1_0.rise k3_1.rise k3_2 o_
         subst hoc
         have hnn: ∀z∈c.take (i+1),qC9 g z c:=fun z hz=>by
          rw[htk]at hz
          rcases List.mem_append.1 hz with hz|hz
          · exact k2_1 z hz
          · rw[List.mem_singleton]at hz;subst hz;exact hat
         repeat' with_reducible first
          |refine s_ ?_
          |refine s_ ?_
          |refine s_ ?_
          |simp -implicitDefEqProofs only[wS,wT,wU,wV,wW,wX,wY,wC,wF,wG,wL,wM,wN,seval,Int.cast_ofNat_Int,Int.reduceLT,Int.reduceLE,Int.reduceEq,Int.reduceToNat,decide_true,decide_false,Bool.false_eq_true,g2,g6,g7,g8,g9,g5,o0,hz]
          |(refine qa (fun h h_=>?_) (fun h h_=>?_)<;>(try simp only[wD,reduceCtorEq]at h_)<;>(try(exfalso;first|omega|exact absurd (Eq.trans (Eq.symm h_) (by assumption):false=true) (by decide)|exact absurd (Eq.trans (Eq.symm h_) (by assumption):true=false) (by decide)|(refine absurd ?_ h_;focus assumption)|(refine absurd h_ ?_;focus assumption)))<;>(try simp only[h]))
          |((first|refine zk (fun h=>?_) (fun h=>?_)|refine zl (fun h=>?_) (fun h=>?_))<;>have h_:=h<;>(try simp only[wD,reduceCtorEq]at h_)<;>(try(exfalso;first|omega|exact absurd (Eq.trans (Eq.symm h_) (by assumption):false=true) (by decide)|exact absurd (Eq.trans (Eq.symm h_) (by assumption):true=false) (by decide)|(refine absurd ?_ h_;focus assumption)|(refine absurd h_ ?_;focus assumption)))<;>(try simp only[h]))
          |refine t_ ?_
          |apply qo;omega;exact wd_
          |apply qB;(focus(first|omega|(simp only[wZ]<;>omega)))
          |apply qf;exact wu_;exact wu_;(focus((try simp -implicitDefEqProofs only[wE,Nat.reduceAdd]);rfl))
          |apply qg;exact wd_;exact wu_
          |apply qh;exact wu_
          |refine qA we_ we_ (qU wf_ wf_ wf_ wf_ wf_) ?_
          |refine qA we_ we_ (qw wf_ wf_ wf_) ?_
          |refine qA we_ we_ (qD wf_) ?_
          |simp -implicitDefEqProofs (disch:=omega) only[w64,if_neg]
         all_goals refine⟨wg_,i+1,o_,?_⟩;(repeat refine⟨True.intro,?_⟩)
         all_goals exact⟨rfl,o_,hnn,trivial⟩
       · have hle:c.length≤o.length:=by
          have: ∀(a b:List Int),kK a→(∀x∈a,x∈b)→kK b→a.length≤b.length:=fun a b ha hb hr=>by
           by_cases h:b.length≤a.length
           · rw[Ya ha hr hb h];exact Nat.le_refl _
           · omega
          exact this c o k1_0.rise k3_2 k3_1.rise
         repeat' with_reducible first
          |refine s_ ?_
          |refine s_ ?_
          |refine s_ ?_
          |simp -implicitDefEqProofs only[wS,wT,wU,wV,wW,wX,wY,wC,wF,wG,wL,wM,wN,seval,Int.cast_ofNat_Int,Int.reduceLT,Int.reduceLE,Int.reduceEq,Int.reduceToNat,decide_true,decide_false,Bool.false_eq_true,g2,g6,g7,g8,g9,g5,o0,hz]
          |(refine qa (fun h h_=>?_) (fun h h_=>?_)<;>(try simp only[wD,reduceCtorEq]at h_)<;>(try(exfalso;first|omega|exact absurd (Eq.trans (Eq.symm h_) (by assumption):false=true) (by decide)|exact absurd (Eq.trans (Eq.symm h_) (by assumption):true=false) (by decide)|(refine absurd ?_ h_;focus assumption)|(refine absurd h_ ?_;focus assumption)))<;>(try simp only[h]))
          |((first|refine zk (fun h=>?_) (fun h=>?_)|refine zl (fun h=>?_) (fun h=>?_))<;>have h_:=h<;>(try simp only[wD,reduceCtorEq]at h_)<;>(try(exfalso;first|omega|exact absurd (Eq.trans (Eq.symm h_) (by assumption):false=true) (by decide)|exact absurd (Eq.trans (Eq.symm h_) (by assumption):true=false) (by decide)|(refine absurd ?_ h_;focus assumption)|(refine absurd h_ ?_;focus assumption)))<;>(try simp only[h]))
          |refine t_ ?_
          |apply qo;omega;exact wd_
          |apply qB;(focus(first|omega|(simp only[wZ]<;>omega)))
          |apply qf;exact wu_;exact wu_;(focus((try simp -implicitDefEqProofs only[wE,Nat.reduceAdd]);rfl))
          |apply qg;exact wd_;exact wu_
          |apply qh;exact wu_
          |refine qA we_ we_ (qU wf_ wf_ wf_ wf_ wf_) ?_
          |refine qA we_ we_ (qw wf_ wf_ wf_) ?_
          |refine qA we_ we_ (qD wf_) ?_
          |simp -implicitDefEqProofs (disch:=omega) only[w64,if_neg]
         all_goals refine⟨wg_,(o,(c.length:Int)),by dsimp only;rw[if_neg o_];omega,?_⟩;(repeat refine⟨True.intro,?_⟩)
         all_goals exact⟨rfl,rfl,k3_1,fun e=>by dsimp only at e;omega⟩
   · have hcc:c.take i=c:=List.take_of_length_le o_
     rw[hcc]at k2_1
     skip
     repeat' with_reducible first
      |refine s_ ?_
      |refine s_ ?_
      |refine s_ ?_
      |simp -implicitDefEqProofs only[wS,wT,wU,wV,wW,wX,wY,wC,wF,wG,wL,wM,wN,seval,Int.cast_ofNat_Int,Int.reduceLT,Int.reduceLE,Int.reduceEq,Int.reduceToNat,decide_true,decide_false,Bool.false_eq_true,g2,g6,g7,g5,o0,hz]
      |(refine qa (fun h h_=>?_) (fun h h_=>?_)<;>(try simp only[wD,reduceCtorEq]at h_)<;>(try(exfalso;first|omega|exact absurd (Eq.trans (Eq.symm h_) (by assumption):false=true) (by decide)|exact absurd (Eq.trans (Eq.symm h_) (by assumption):true=false) (by decide)|(refine absurd ?_ h_;focus assumption)|(refine absurd h_ ?_;focus assumption)))<;>(try simp only[h]))
      |((first|refine zk (fun h=>?_) (fun h=>?_)|refine zl (fun h=>?_) (fun h=>?_))<;>have h_:=h<;>(try simp only[wD,reduceCtorEq]at h_)<;>(try(exfalso;first|omega|exact absurd (Eq.trans (Eq.symm h_) (by assumption):false=true) (by decide)|exact absurd (Eq.trans (Eq.symm h_) (by assumption):true=false) (by decide)|(refine absurd ?_ h_;focus assumption)|(refine absurd h_ ?_;focus assumption)))<;>(try simp only[h]))
      |refine t_ ?_
      |apply qo;omega;exact wd_
      |apply qB;(focus(first|omega|(simp only[wZ]<;>omega)))
      |apply qf;exact wu_;exact wu_;(focus((try simp -implicitDefEqProofs only[wE,Nat.reduceAdd]);rfl))
      |apply qg;exact wd_;exact wu_
      |apply qh;exact wu_
      |refine qA we_ we_ (qU wf_ wf_ wf_ wf_ wf_) ?_
      |refine qA we_ we_ (qw wf_ wf_ wf_) ?_
      |refine qA we_ we_ (qD wf_) ?_
      |simp -implicitDefEqProofs (disch:=omega) only[w64,if_neg]
     refine⟨wg_,(c,(c.length:Int)),by dsimp only;rw[if_pos rfl];omega,?_⟩;(repeat refine⟨True.intro,?_⟩)
     exact⟨rfl,rfl,k1_0,fun _=>k2_1⟩
end Go.Proofs
