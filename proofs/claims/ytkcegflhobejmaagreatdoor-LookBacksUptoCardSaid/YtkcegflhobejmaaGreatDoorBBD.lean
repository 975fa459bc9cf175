/- Part of a proof that a law of the given program answers true. -/
import Derived.Test.YtkcegflhobejmaaGreatDoorBBB
import Derived.Test.YtkcegflhobejmaaGreatDoorBZD
import Derived.Test.YtkcegflhobejmaaGreatDoorBJB
import Derived.Test.YtkcegflhobejmaaGreatDoorBSM
import Derived.Test.YtkcegflhobejmaaGreatDoorBPA
set_option maxRecDepth 20000
set_option linter.unusedSimpArgs false
set_option linter.unusedVariables false
set_option maxHeartbeats 8000000
namespace Go.Proofs
open Go.E
theorem qeX {src:Source} (h:V5 src=true):GOk (Qa src)∧MOk (Qa src) (Xe src)∧ ∀q∈Xe src,RMv q:=by
 unfold V5 at h
 rw[Bool.and_eq_true]at h
 obtain ⟨h1,h2⟩:=h
 have hg:=gok h1
 obtain ⟨m,hm⟩:=Option.isSome_iff_exists.1 h2
 have e:Xe src=m:=by unfold Xe;rw[if_pos h1,hm];rfl
 rw[e]
 exact⟨hg,qe7 hg hm,qbp hg hm⟩
theorem V4 {g:Grammar} {m:List Sta} (hM:MOk g m) (q p:Int):(yG g m q p).length≤9600:=by
 unfold yG
 split
 · exact Nat.zero_le _
 · unfold YB
   exact Nat.le_trans (Q6 _ _) hM.trans_len
theorem kY {x:GrI} {q p:Int} (hb1:x.rules.length≤1099511627776) (hb2: ∀l∈x.rules,l.length≤1099511627776) (hib:x.inner.length≤1099511627776) (hlb:x.levels.length≤1099511627776):Pure Tryz.prog 4 [x.V,vi q,vi p] (.bool true):=by
 refine pure_intro Tryz.func4 nm_ qM1 (by show 3≤58;decide) ?_
 show ewp _ qC4 _ _
 have hw:=ZK
 have hsrc:=Zr (x:=x) hb1 hb2 hib hlb
 have hma:=zM (Zq x) (fun _=>Yd x) gok
 have hmk:= @qeX (jf x)
 generalize jf x=src at *
 cases hb:V5 src with
 | false=>
   rw[hb]at hma
   generalize Xe src=m at *
   generalize Qa src=g at *
   repeat' with_reducible first
    |refine s_ ?_
    |refine s_ ?_
    |simp -implicitDefEqProofs only[wS,wT,wU,wV,wW,wX,wY,wC,wF,wG,wL,wM,wN,seval,Int.cast_ofNat_Int,Int.reduceLT,Int.reduceLE,Int.reduceEq,Int.reduceToNat,decide_true,decide_false,Bool.false_eq_true]
    |(refine qa (fun h h_=>?_) (fun h h_=>?_)<;>(try simp only[wD,reduceCtorEq]at h_)<;>(try(exfalso;first|omega|exact absurd (Eq.trans (Eq.symm h_) (by assumption):false=true) (by decide)|exact absurd (Eq.trans (Eq.symm h_) (by assumption):true=false) (by decide)|(refine absurd ?_ h_;focus assumption)|(refine absurd h_ ?_;focus assumption)))<;>(try simp only[h]))
    |refine cq0 hw ?_
    |refine cq1 hsrc qj ?_
    |refine cq1 hma (Zj src) ?_
    |refine t_ ?_
    |apply qB;(focus(first|omega|(simp only[wZ]<;>omega)))
    |apply qf;exact wu_;exact wu_;(focus((try simp -implicitDefEqProofs only[wE,Nat.reduceAdd]);rfl))
    |apply qg;exact wd_;exact wu_
    |apply qh;exact wu_
    |apply qR;exact wf_;exact wu_;exact wu_;(focus(intro _;with_unfolding_all rfl))
    |apply qO;exact wu_;exact wu_;exact wu_
    |refine zf we_ (zM wf_ wf_ wf_) ?_
    |refine QK we_ we_ we_ we_ (kG wf_ wf_ wf_) ?_
    |refine QK we_ we_ we_ we_ (jh wf_ wf_ wf_ wf_ wf_ wf_) ?_
    |simp -implicitDefEqProofs (disch:=omega) only[w64,if_neg]
   all_goals refine qF rfl (Or.inr rfl) ?_
   all_goals(try simp -implicitDefEqProofs only[wL,seval])
   all_goals refine er_ ?_
   all_goals(try(with_reducible rfl))
 | true=>
   rw[hb]at hma
   obtain ⟨hg,hM,hR⟩:=hmk hb
   generalize Xe src=m at *
   generalize Qa src=g at *
   have hpl:=hg.pl2
   have hml:=hM.len
   have hbk:=fun(a b:Int)=>kG (q:=a) (p:=b) hg hM hR
   have hrf:=fun(a b:Int)=>qlN (q:=a) (p:=b) hg hM
   have heq: ∀a b:Int,Pure Tryz.prog 25 [.sl 1 false ((yG g m a b).map (V.int .i64)),.sl 1 false ((yG g m a b).map (V.int .i64))] (.bool true):=fun a b=>by
    have:=ZJ (a:=yG g m a b) (b:=yG g m a b) (by have:=V4 hM a b;omega) (by have:=V4 hM a b;omega)
    rwa [decide_eq_true rfl]at this
   have hwi:=qZ (i:=q) (n:=((m.length+1:Nat):Int)) o_ o_
   have hzm:IntKind.i64.wrap ((m.length:Int)+1)=((m.length+1:Nat):Int):=by rw[wrap64 o_ o_];omega
   obtain ⟨gt,gn,gp,gpr,gta⟩:=g
   dsimp only at hpl
   repeat' with_reducible first
    |refine s_ ?_
    |refine s_ ?_
    |simp -implicitDefEqProofs only[wS,wT,wU,wV,wW,wX,wY,wC,wF,wG,wL,wM,wN,seval,Int.cast_ofNat_Int,Int.reduceLT,Int.reduceLE,Int.reduceEq,Int.reduceToNat,decide_true,decide_false,Bool.false_eq_true]
    |(refine qa (fun h h_=>?_) (fun h h_=>?_)<;>(try simp only[wD,reduceCtorEq]at h_)<;>(try(exfalso;first|omega|exact absurd (Eq.trans (Eq.symm h_) (by assumption):false=true) (by decide)|exact absurd (Eq.trans (Eq.symm h_) (by assumption):true=false) (by decide)|(refine absurd ?_ h_;focus assumption)|(refine absurd h_ ?_;focus assumption)))<;>(try simp only[h]))
    |refine cq0 hw ?_
    |refine cq1 hsrc qj ?_
    |refine cq1 hma (Zj src) ?_
    |refine t_ ?_
    |apply qB;(focus(first|omega|(simp only[wZ]<;>omega)))
    |apply qf;exact wu_;exact wu_;(focus((try simp -implicitDefEqProofs only[wE,Nat.reduceAdd]);rfl))
    |apply qg;exact wd_;exact wu_
    |apply qh;exact wu_
    |apply qR;exact wf_;exact wu_;exact wu_;(focus(intro _;with_unfolding_all rfl))
    |apply qO;exact wu_;exact wu_;exact wu_
    |refine zf we_ (zM wf_ wf_ wf_) ?_
    |refine QK we_ we_ we_ we_ (kG wf_ wf_ wf_) ?_
    |refine QK we_ we_ we_ we_ (jh wf_ wf_ wf_ wf_ wf_ wf_) ?_
    |simp -implicitDefEqProofs (disch:=omega) only[w64,if_neg]
   refine qi ?nx1 (fun(k:Nat) s=>s.f 1=?v1_1∧s.f 2=?v1_2∧s.f 7=?v1_7∧s.f 8=?v1_8∧s.H 11=?o1_0∧s.f 10=vi ((k:Int) - 1)∧(k≤gp.length+2)) (fun k=>gp.length+2 - k) (0) wj_ (by refine⟨?_,?_,?_,?_,?_,?_,wo_⟩<;>first|(simp -implicitDefEqProofs only[wL,wM,wN,wX,seval,Option.some.injEq]<;>exact wt_)|rfl|exact⟨_,rfl⟩) ?_
   intro k s hnx ⟨g1,g2,g7,g8,o0,g10,k1_0⟩
   have hz:IntKind.i64.wrap ((k:Int) - 1+1)=((k+1:Nat):Int) - 1:=by rw[wrap64 o_ o_];omega
   by_cases hi:(k:Int) - 1≤gp.length
   · have hbk:=hbk (q % ((m.length+1:Nat):Int)) ((k:Int) - 1)
     have hrf:=hrf (q % ((m.length+1:Nat):Int)) ((k:Int) - 1)
     have heq:=heq (q % ((m.length+1:Nat):Int)) ((k:Int) - 1)
     generalize yG _ m (q % ((m.length+1:Nat):Int)) ((k:Int) - 1)=L at *
     generalize q % ((m.length+1:Nat):Int)=w at *
     repeat' with_reducible first
      |refine s_ ?_
      |refine s_ ?_
      |simp -implicitDefEqProofs only[wS,wT,wU,wV,wW,wX,wY,wC,wF,wG,wL,wM,wN,seval,Int.cast_ofNat_Int,Int.reduceLT,Int.reduceLE,Int.reduceEq,Int.reduceToNat,decide_true,decide_false,Bool.false_eq_true,g1,g2,g7,g8,g10,o0,hz,hzm]
      |(refine qa (fun h h_=>?_) (fun h h_=>?_)<;>(try simp only[wD,reduceCtorEq]at h_)<;>(try(exfalso;first|omega|exact absurd (Eq.trans (Eq.symm h_) (by assumption):false=true) (by decide)|exact absurd (Eq.trans (Eq.symm h_) (by assumption):true=false) (by decide)|(refine absurd ?_ h_;focus assumption)|(refine absurd h_ ?_;focus assumption)))<;>(try simp only[h]))
      |refine cq2 hwi qj qj ?_
      |refine cq4 hbk qj qj qj qj ?_
      |refine cq4 hrf qj qj qj qj ?_
      |refine cq2 heq qj qj ?_
      |apply qB;(focus(first|omega|(simp only[wZ]<;>omega)))
      |refine t_ ?_
      |apply qf;exact wu_;exact wu_;(focus((try simp -implicitDefEqProofs only[wE,Nat.reduceAdd]);rfl))
      |apply qg;exact wd_;exact wu_
      |apply qh;exact wu_
      |apply qR;exact wf_;exact wu_;exact wu_;(focus(intro _;with_unfolding_all rfl))
      |apply qO;exact wu_;exact wu_;exact wu_
      |refine zf we_ (zM wf_ wf_ wf_) ?_
      |refine QK we_ we_ we_ we_ (kG wf_ wf_ wf_) ?_
      |refine QK we_ we_ we_ we_ (jh wf_ wf_ wf_ wf_ wf_ wf_) ?_
      |simp -implicitDefEqProofs (disch:=omega) only[w64,if_neg]
     refine⟨wk_,k+1,o_,?_⟩
     refine⟨?_,?_,?_,?_,?_,?_,?_⟩
     iterate 6 (focus(first|(simp -implicitDefEqProofs only[wL,wM,wN,wX,seval,Option.some.injEq,g1,g2,g7,g8,g10,o0]<;>exact wt_)|rfl|exact⟨_,rfl⟩))
     all_goals try omega
   · have hbk:=hbk q p
     have hrf:=hrf q p
     have heq:=heq q p
     generalize yG _ m q p=L at *
     repeat' with_reducible first
      |refine s_ ?_
      |refine s_ ?_
      |simp -implicitDefEqProofs only[wS,wT,wU,wV,wW,wX,wY,wC,wF,wG,wL,wM,wN,seval,Int.cast_ofNat_Int,Int.reduceLT,Int.reduceLE,Int.reduceEq,Int.reduceToNat,decide_true,decide_false,Bool.false_eq_true,g1,g2,g7,g8,g10,o0,hz]
      |(refine qa (fun h h_=>?_) (fun h h_=>?_)<;>(try simp only[wD,reduceCtorEq]at h_)<;>(try(exfalso;first|omega|exact absurd (Eq.trans (Eq.symm h_) (by assumption):false=true) (by decide)|exact absurd (Eq.trans (Eq.symm h_) (by assumption):true=false) (by decide)|(refine absurd ?_ h_;focus assumption)|(refine absurd h_ ?_;focus assumption)))<;>(try simp only[h]))
      |refine cq4 hbk qj qj qj qj ?_
      |refine cq4 hrf qj qj qj qj ?_
      |refine cq2 heq qj qj ?_
      |apply qB;(focus(first|omega|(simp only[wZ]<;>omega)))
      |refine t_ ?_
      |apply qf;exact wu_;exact wu_;(focus((try simp -implicitDefEqProofs only[wE,Nat.reduceAdd]);rfl))
      |apply qg;exact wd_;exact wu_
      |apply qh;exact wu_
      |apply qR;exact wf_;exact wu_;exact wu_;(focus(intro _;with_unfolding_all rfl))
      |apply qO;exact wu_;exact wu_;exact wu_
      |refine zf we_ (zM wf_ wf_ wf_) ?_
      |refine QK we_ we_ we_ we_ (kG wf_ wf_ wf_) ?_
      |refine QK we_ we_ we_ we_ (jh wf_ wf_ wf_ wf_ wf_ wf_) ?_
      |simp -implicitDefEqProofs (disch:=omega) only[w64,if_neg]
     all_goals refine qF rfl (Or.inr rfl) ?_
     all_goals(try simp -implicitDefEqProofs only[wL,seval,g1,g2,g7,g8,g10])
     all_goals refine er_ ?_
     all_goals(try(with_reducible rfl))
end Go.Proofs
