/- Part of a proof that a law of the given program answers true. -/
import Derived.Test.YtkcegflhobejmaaGreatDoorBZC
import Derived.Test.YtkcegflhobejmaaGreatDoorBCA
import Derived.Test.YtkcegflhobejmaaGreatDoorXEC
set_option maxRecDepth 20000
set_option linter.unusedSimpArgs false
set_option linter.unusedVariables false
set_option maxHeartbeats 4000000
namespace Go.Proofs
open Go.E
theorem vU {m:List Sta} {q:Nat} {sy:Int} (hq:q<m.length) (hm:m.length≤1000000) (hv: ∀q∈m,q.mov.length≤1000000):Pure Tryz.prog 94 [.sl 2 false (m.map Sta.V),vi q,vi sy] (vi (goS m q sy)):=by
 refine pure_intro Tryz.func94 nm_ qhz (by show 3≤26;decide) ?_
 show ewp _ qgi _ _
 have hgn:m[q]?=some m[q]:=ge_ hq
 have hml:=hv _ (List.getElem_mem hq)
 rw[qgA hgn]
 generalize m[q]=x at *
 obtain ⟨xk,xm⟩:=x
 dsimp only at hml ⊢
 repeat' with_reducible first
  |refine s_ ?_
  |refine s_ ?_
  |simp -implicitDefEqProofs only[wS,wT,wU,wV,wW,wX,wY,wC,wF,wG,wL,wM,wN,seval,Int.cast_ofNat_Int,Int.reduceLT,Int.reduceLE,Int.reduceEq,Int.reduceToNat,decide_true,decide_false,Bool.false_eq_true]
  |(refine qa (fun h h_=>?_) (fun h h_=>?_)<;>(try simp only[wD,reduceCtorEq]at h_)<;>(try(exfalso;first|omega|exact absurd (Eq.trans (Eq.symm h_) (by assumption):false=true) (by decide)|exact absurd (Eq.trans (Eq.symm h_) (by assumption):true=false) (by decide)|(refine absurd ?_ h_;focus assumption)|(refine absurd h_ ?_;focus assumption)))<;>(try simp only[h]))
  |refine t_ ?_
  |apply qo;omega;exact wd_
  |apply qB;(focus(first|omega|(simp only[wZ]<;>omega)))
  |apply qf;exact wu_;exact wu_;(focus((try simp -implicitDefEqProofs only[wE,Nat.reduceAdd]);rfl))
  |apply qg;exact wd_;exact wu_
  |apply qh;exact wu_
  |apply qR;exact wf_;exact wu_;exact wu_;(focus(intro _;with_unfolding_all rfl))
  |apply qO;exact wu_;exact wu_;exact wu_
  |simp -implicitDefEqProofs (disch:=omega) only[w64,if_neg]
 refine qi ?nx1 (fun(i:Nat) s=>s.f 2=?v1_2∧s.f 13=?v1_13∧s.f 14=?v1_14∧s.f 15=vi i∧(i≤xm.length)∧(goL xm sy=goL (xm.drop i) sy)) (fun i=>xm.length - i) (0) wj_ (by refine⟨?_,?_,?_,?_,wo_,(by rfl)⟩<;>first|(simp -implicitDefEqProofs only[wL,wM,wN,wX,seval,Option.some.injEq]<;>exact wt_)|rfl|exact⟨_,rfl⟩) ?_
 intro i s hnx ⟨g2,g13,g14,g15,k1_0,k1_1⟩
 have hz:=w1_ i
 by_cases hi:i<xm.length
 · have hgi:xm[i]?=some xm[i]:=ge_ hi
   have hst:=qdM (s:=sy) hgi
   generalize xm[i]=p at *
   obtain ⟨p1,p2⟩:=p
   dsimp only at hst
   by_cases hc:p1=sy
   · rw[if_pos hc]at hst
     rw[k1_1,hst]
     repeat' with_reducible first
      |refine s_ ?_
      |refine s_ ?_
      |simp -implicitDefEqProofs only[wS,wT,wU,wV,wW,wX,wY,wC,wF,wG,wL,wM,wN,seval,Int.cast_ofNat_Int,Int.reduceLT,Int.reduceLE,Int.reduceEq,Int.reduceToNat,decide_true,decide_false,Bool.false_eq_true,g2,g13,g14,g15,hz]
      |(refine qa (fun h h_=>?_) (fun h h_=>?_)<;>(try simp only[wD,reduceCtorEq]at h_)<;>(try(exfalso;first|omega|exact absurd (Eq.trans (Eq.symm h_) (by assumption):false=true) (by decide)|exact absurd (Eq.trans (Eq.symm h_) (by assumption):true=false) (by decide)|(refine absurd ?_ h_;focus assumption)|(refine absurd h_ ?_;focus assumption)))<;>(try simp only[h]))
      |refine t_ ?_
      |apply qo;omega;exact wd_
      |apply qB;(focus(first|omega|(simp only[wZ]<;>omega)))
      |apply qf;exact wu_;exact wu_;(focus((try simp -implicitDefEqProofs only[wE,Nat.reduceAdd]);rfl))
      |apply qg;exact wd_;exact wu_
      |apply qh;exact wu_
      |apply qR;exact wf_;exact wu_;exact wu_;(focus(intro _;with_unfolding_all rfl))
      |apply qO;exact wu_;exact wu_;exact wu_
      |simp -implicitDefEqProofs (disch:=omega) only[w64,if_neg]
     all_goals refine qF rfl (Or.inr rfl) ?_
     all_goals(try simp -implicitDefEqProofs only[wL,seval,g2,g13,g14,g15])
     all_goals refine er_ ?_
     all_goals(try(with_reducible rfl))
   · rw[if_neg hc]at hst
     repeat' with_reducible first
      |refine s_ ?_
      |refine s_ ?_
      |simp -implicitDefEqProofs only[wS,wT,wU,wV,wW,wX,wY,wC,wF,wG,wL,wM,wN,seval,Int.cast_ofNat_Int,Int.reduceLT,Int.reduceLE,Int.reduceEq,Int.reduceToNat,decide_true,decide_false,Bool.false_eq_true,g2,g13,g14,g15,hz]
      |(refine qa (fun h h_=>?_) (fun h h_=>?_)<;>(try simp only[wD,reduceCtorEq]at h_)<;>(try(exfalso;first|omega|exact absurd (Eq.trans (Eq.symm h_) (by assumption):false=true) (by decide)|exact absurd (Eq.trans (Eq.symm h_) (by assumption):true=false) (by decide)|(refine absurd ?_ h_;focus assumption)|(refine absurd h_ ?_;focus assumption)))<;>(try simp only[h]))
      |refine t_ ?_
      |apply qo;omega;exact wd_
      |apply qB;(focus(first|omega|(simp only[wZ]<;>omega)))
      |apply qf;exact wu_;exact wu_;(focus((try simp -implicitDefEqProofs only[wE,Nat.reduceAdd]);rfl))
      |apply qg;exact wd_;exact wu_
      |apply qh;exact wu_
      |apply qR;exact wf_;exact wu_;exact wu_;(focus(intro _;with_unfolding_all rfl))
      |apply qO;exact wu_;exact wu_;exact wu_
      |simp -implicitDefEqProofs (disch:=omega) only[w64,if_neg]
     refine⟨wk_,i+1,o_,?_⟩
     refine⟨?_,?_,?_,?_,?_,?_⟩
     iterate 4 (focus(first|(simp -implicitDefEqProofs only[wL,wM,wN,wX,seval,Option.some.injEq,g2,g13,g14,g15]<;>exact wt_)|rfl|exact⟨_,rfl⟩))
     all_goals try omega
 · have e:xm.drop i=[]:=List.drop_of_length_le o_
   rw[e]at k1_1
   rw[k1_1]
   repeat' with_reducible first
    |refine s_ ?_
    |refine s_ ?_
    |simp -implicitDefEqProofs only[wS,wT,wU,wV,wW,wX,wY,wC,wF,wG,wL,wM,wN,seval,Int.cast_ofNat_Int,Int.reduceLT,Int.reduceLE,Int.reduceEq,Int.reduceToNat,decide_true,decide_false,Bool.false_eq_true,g2,g13,g14,g15,hz]
    |(refine qa (fun h h_=>?_) (fun h h_=>?_)<;>(try simp only[wD,reduceCtorEq]at h_)<;>(try(exfalso;first|omega|exact absurd (Eq.trans (Eq.symm h_) (by assumption):false=true) (by decide)|exact absurd (Eq.trans (Eq.symm h_) (by assumption):true=false) (by decide)|(refine absurd ?_ h_;focus assumption)|(refine absurd h_ ?_;focus assumption)))<;>(try simp only[h]))
    |refine t_ ?_
    |apply qo;omega;exact wd_
    |apply qB;(focus(first|omega|(simp only[wZ]<;>omega)))
    |apply qf;exact wu_;exact wu_;(focus((try simp -implicitDefEqProofs only[wE,Nat.reduceAdd]);rfl))
    |apply qg;exact wd_;exact wu_
    |apply qh;exact wu_
    |apply qR;exact wf_;exact wu_;exact wu_;(focus(intro _;with_unfolding_all rfl))
    |apply qO;exact wu_;exact wu_;exact wu_
    |simp -implicitDefEqProofs (disch:=omega) only[w64,if_neg]
   all_goals refine qF rfl (Or.inr rfl) ?_
   all_goals(try simp -implicitDefEqProofs only[wL,seval,g2,g13,g14,g15])
   all_goals refine er_ ?_
   all_goals(try(with_reducible rfl))
   all_goals rfl
theorem xE {g:Grammar} {m:List Sta} {q:Nat} {l:List Int} (hM:MOk g m) (hq:q<m.length) (hl:l.length≤1000000):Pure Tryz.prog 95 [.sl 2 false (m.map Sta.V),vi q,.sl 1 false (l.map (V.int .i64))] (vi (yM m q l)):=by
 refine pure_intro Tryz.func95 nm_ qhq (by show 3≤23;decide) ?_
 show ewp _ qf3 _ _
 have hml:=hM.len
 have hmv: ∀q∈m,q.mov.length≤1000000:=fun q h=>by have:=hM.mvl q h;omega
 repeat' with_reducible first
  |refine s_ ?_
  |refine s_ ?_
  |simp -implicitDefEqProofs only[wS,wT,wU,wV,wW,wX,wY,wC,wF,wG,wL,wM,wN,seval,Int.cast_ofNat_Int,Int.reduceLT,Int.reduceLE,Int.reduceEq,Int.reduceToNat,decide_true,decide_false,Bool.false_eq_true]
  |(refine qa (fun h h_=>?_) (fun h h_=>?_)<;>(try simp only[wD,reduceCtorEq]at h_)<;>(try(exfalso;first|omega|exact absurd (Eq.trans (Eq.symm h_) (by assumption):false=true) (by decide)|exact absurd (Eq.trans (Eq.symm h_) (by assumption):true=false) (by decide)|(refine absurd ?_ h_;focus assumption)|(refine absurd h_ ?_;focus assumption)))<;>(try simp only[h]))
  |refine t_ ?_
  |apply qo;omega;exact wd_
  |apply qB;(focus(first|omega|(simp only[wZ]<;>omega)))
  |apply qf;exact wu_;exact wu_;(focus((try simp -implicitDefEqProofs only[wE,Nat.reduceAdd]);rfl))
  |apply qg;exact wd_;exact wu_
  |apply qh;exact wu_
  |refine zu we_ we_ we_ (vU wf_ wf_ wf_) ?_
  |simp -implicitDefEqProofs (disch:=omega) only[w64,if_neg]
 refine qi ?nx1 (fun(p:Nat×Nat) s=>s.f 0=?v1_0∧s.f 9=?v1_9∧s.f 10=?v1_10∧s.f 11=vi p.1∧(p.1≤l.length)∧(p.2<m.length)∧(yM m q l=yM m p.2 (l.drop p.1))∧(s.f 1=vi p.2)) (fun p=>l.length - p.1) ((0,q)) wj_ (by refine⟨?_,?_,?_,?_,wo_,wo_,(by rfl),(by(try simp -implicitDefEqProofs only[wL,wM,wN,seval]);first|done|rfl)⟩<;>first|(simp -implicitDefEqProofs only[wL,wM,wN,wX,seval,Option.some.injEq]<;>exact wt_)|rfl|exact⟨_,rfl⟩) ?_
 intro p s hnx ⟨g0,g9,g10,g11,k1_0,k1_1,k1_2,g1⟩
 obtain ⟨i,r⟩:=p
 dsimp only at *
 have hz:=w1_ i
 by_cases hi:i<l.length
 · have hgi:l[i]?=some l[i]:=ge_ hi
   have hst:=Vb (m:=m) (q:=(r:Int)) hgi
   rw[if_neg o_]at hst
   have hgo:=vU (q:=r) (sy:=l[i]) k1_1 o_ hmv
   have hcs:=qdm hM (r:Int) l[i]
   generalize l[i]=sy at *
   generalize goS m (r:Int) sy=w at *
   rcases hcs with rfl|⟨t,rfl,ht⟩
   · rw[k1_2,hst,Vd o_]
     repeat' with_reducible first
      |refine s_ ?_
      |refine s_ ?_
      |simp -implicitDefEqProofs only[wS,wT,wU,wV,wW,wX,wY,wC,wF,wG,wL,wM,wN,seval,Int.cast_ofNat_Int,Int.reduceLT,Int.reduceLE,Int.reduceEq,Int.reduceToNat,decide_true,decide_false,Bool.false_eq_true,g0,g9,g10,g11,g1,hz]
      |(refine qa (fun h h_=>?_) (fun h h_=>?_)<;>(try simp only[wD,reduceCtorEq]at h_)<;>(try(exfalso;first|omega|exact absurd (Eq.trans (Eq.symm h_) (by assumption):false=true) (by decide)|exact absurd (Eq.trans (Eq.symm h_) (by assumption):true=false) (by decide)|(refine absurd ?_ h_;focus assumption)|(refine absurd h_ ?_;focus assumption)))<;>(try simp only[h]))
      |refine t_ ?_
      |refine cq3 hgo qj qj qj ?_
      |apply qo;omega;exact wd_
      |apply qB;(focus(first|omega|(simp only[wZ]<;>omega)))
      |apply qf;exact wu_;exact wu_;(focus((try simp -implicitDefEqProofs only[wE,Nat.reduceAdd]);rfl))
      |apply qg;exact wd_;exact wu_
      |apply qh;exact wu_
      |refine zu we_ we_ we_ (vU wf_ wf_ wf_) ?_
      |simp -implicitDefEqProofs (disch:=omega) only[w64,if_neg]
     all_goals refine qF rfl (Or.inr rfl) ?_
     all_goals(try simp -implicitDefEqProofs only[wL,seval,g0,g9,g10,g11,g1])
     all_goals refine er_ ?_
     all_goals(try(with_reducible rfl))
   · have hneg: ¬ ((t:Int)<0):=o_
     repeat' with_reducible first
      |refine s_ ?_
      |refine s_ ?_
      |simp -implicitDefEqProofs only[wS,wT,wU,wV,wW,wX,wY,wC,wF,wG,wL,wM,wN,seval,Int.cast_ofNat_Int,Int.reduceLT,Int.reduceLE,Int.reduceEq,Int.reduceToNat,decide_true,decide_false,Bool.false_eq_true,g0,g9,g10,g11,g1,hz,hneg]
      |(refine qa (fun h h_=>?_) (fun h h_=>?_)<;>(try simp only[wD,reduceCtorEq]at h_)<;>(try(exfalso;first|omega|exact absurd (Eq.trans (Eq.symm h_) (by assumption):false=true) (by decide)|exact absurd (Eq.trans (Eq.symm h_) (by assumption):true=false) (by decide)|(refine absurd ?_ h_;focus assumption)|(refine absurd h_ ?_;focus assumption)))<;>(try simp only[h]))
      |refine t_ ?_
      |refine cq3 hgo qj qj qj ?_
      |apply qo;omega;exact wd_
      |apply qB;(focus(first|omega|(simp only[wZ]<;>omega)))
      |apply qf;exact wu_;exact wu_;(focus((try simp -implicitDefEqProofs only[wE,Nat.reduceAdd]);rfl))
      |apply qg;exact wd_;exact wu_
      |apply qh;exact wu_
      |refine zu we_ we_ we_ (vU wf_ wf_ wf_) ?_
      |simp -implicitDefEqProofs (disch:=omega) only[w64,if_neg]
     refine⟨wg_,(i+1,t),by dsimp only;omega,?_⟩;(repeat refine⟨True.intro,?_⟩)
     exact⟨rfl,by dsimp only;omega,by dsimp only;exact ht,by dsimp only;rw[k1_2,hst],rfl⟩
 · have e:yM m (r:Int) (l.drop i)=r:=by
    rw[List.drop_of_length_le o_];rfl
   rw[k1_2,e]
   repeat' with_reducible first
    |refine s_ ?_
    |refine s_ ?_
    |simp -implicitDefEqProofs only[wS,wT,wU,wV,wW,wX,wY,wC,wF,wG,wL,wM,wN,seval,Int.cast_ofNat_Int,Int.reduceLT,Int.reduceLE,Int.reduceEq,Int.reduceToNat,decide_true,decide_false,Bool.false_eq_true,g0,g9,g10,g11,g1,hz]
    |(refine qa (fun h h_=>?_) (fun h h_=>?_)<;>(try simp only[wD,reduceCtorEq]at h_)<;>(try(exfalso;first|omega|exact absurd (Eq.trans (Eq.symm h_) (by assumption):false=true) (by decide)|exact absurd (Eq.trans (Eq.symm h_) (by assumption):true=false) (by decide)|(refine absurd ?_ h_;focus assumption)|(refine absurd h_ ?_;focus assumption)))<;>(try simp only[h]))
    |refine t_ ?_
    |apply qo;omega;exact wd_
    |apply qB;(focus(first|omega|(simp only[wZ]<;>omega)))
    |apply qf;exact wu_;exact wu_;(focus((try simp -implicitDefEqProofs only[wE,Nat.reduceAdd]);rfl))
    |apply qg;exact wd_;exact wu_
    |apply qh;exact wu_
    |refine zu we_ we_ we_ (vU wf_ wf_ wf_) ?_
    |simp -implicitDefEqProofs (disch:=omega) only[w64,if_neg]
   all_goals refine qF rfl (Or.inr rfl) ?_
   all_goals(try simp -implicitDefEqProofs only[wL,seval,g0,g9,g10,g11,g1])
   all_goals refine er_ ?_
   all_goals(try(with_reducible rfl))
theorem kM {m:List Sta} (hm:m.length≤1000) (hq: ∀q∈m,q.mov.length≤1000):Pure Tryz.prog 15 [.sl 2 false (m.map Sta.V)] (.sl 2 false ((jb m).map prV)):=by
 refine pure_intro Tryz.func15 nm_ qha (by show 1≤35;decide) ?_
 show ewp _ qf9 _ _
 have hdef:jb m=xh m m.length:=rfl
 rw[hdef]
 repeat' with_reducible first
  |refine s_ ?_
  |refine s_ ?_
  |simp -implicitDefEqProofs only[wS,wT,wU,wV,wW,wX,wY,wC,wF,wG,wL,wM,wN,seval,Int.cast_ofNat_Int,Int.reduceLT,Int.reduceLE,Int.reduceEq,Int.reduceToNat,decide_true,decide_false,Bool.false_eq_true]
  |(refine qa (fun h h_=>?_) (fun h h_=>?_)<;>(try simp only[wD,reduceCtorEq]at h_)<;>(try(exfalso;first|omega|exact absurd (Eq.trans (Eq.symm h_) (by assumption):false=true) (by decide)|exact absurd (Eq.trans (Eq.symm h_) (by assumption):true=false) (by decide)|(refine absurd ?_ h_;focus assumption)|(refine absurd h_ ?_;focus assumption)))<;>(try simp only[h]))
  |refine t_ ?_
  |apply qo;omega;exact wd_
  |apply qW;(focus(first|exact qc.sl|exact qc.asl|exact qc.str));exact wf_;(focus(unfold maxLen;first|omega|(simp only[wZ]<;>omega)))
  |(refine qI ?_;simp -implicitDefEqProofs only[wM,wN,seval];apply za;(focus(first|exact qc.sl|exact qc.asl|exact qc.str));(exact wf_);(focus(unfold maxLen;first|omega|(simp only[wZ]<;>omega))))
  |apply qB;(focus(first|omega|(simp only[wZ]<;>omega)))
  |apply qf;exact wu_;exact wu_;(focus((try simp -implicitDefEqProofs only[wE,Nat.reduceAdd]);rfl))
  |apply qg;exact wd_;exact wu_
  |apply qh;exact wu_
  |apply qR;exact wf_;exact wu_;exact wu_;(focus(intro _;with_unfolding_all rfl))
  |apply qO;exact wu_;exact wu_;exact wu_
  |simp -implicitDefEqProofs (disch:=omega) only[w64,if_neg]
 refine qi ?nx1 (fun(i:Nat) s=>s.f 8=?v1_8∧s.f 9=?v1_9∧(∃v,s.f 3=v∧Gr s.H s.next 2 ((xh m i).map prV) v)∧s.f 10=vi i∧(i≤m.length)∧((xh m i).length≤i *1000)) (fun i=>m.length - i) (0) wj_ (by refine⟨?_,?_,?_,?_,wo_,(by exact Nat.zero_le _)⟩<;>first|(simp -implicitDefEqProofs only[wL,wM,wN,wX,seval,Option.some.injEq]<;>exact wt_)|rfl|exact⟨_,rfl⟩) ?_
 intro i s hnx ⟨g8,g9,⟨v3,g3,G3⟩,g10,k1_0,k1_1⟩
 have hz:=w1_ i
 by_cases hi:i<m.length
 · have hgi:m[i]?=some m[i]:=ge_ hi
   have hml:=hq _ (List.getElem_mem hi)
   have hst:=yT m i
   have hmi:qbE m i=m[i].mov:=by unfold qbE;rw[hgi];rfl
   rw[hmi]at hst
   generalize m[i]=x at *
   generalize hT:xh m i=T at *
   obtain ⟨xk,xm⟩:=x
   dsimp only at hml hst
   repeat' with_reducible first
    |refine s_ ?_
    |refine s_ ?_
    |simp -implicitDefEqProofs only[wS,wT,wU,wV,wW,wX,wY,wC,wF,wG,wL,wM,wN,seval,Int.cast_ofNat_Int,Int.reduceLT,Int.reduceLE,Int.reduceEq,Int.reduceToNat,decide_true,decide_false,Bool.false_eq_true,g8,g9,g3,g10,hz,G3.len]
    |(refine qa (fun h h_=>?_) (fun h h_=>?_)<;>(try simp only[wD,reduceCtorEq]at h_)<;>(try(exfalso;first|omega|exact absurd (Eq.trans (Eq.symm h_) (by assumption):false=true) (by decide)|exact absurd (Eq.trans (Eq.symm h_) (by assumption):true=false) (by decide)|(refine absurd ?_ h_;focus assumption)|(refine absurd h_ ?_;focus assumption)))<;>(try simp only[h]))
    |refine t_ ?_
    |apply Gr.iaQ G3;omega;exact wd_
    |apply qo;omega;exact wd_
    |apply qX (hg:=G3);(focus(first|rfl|(simp -implicitDefEqProofs only[wM];done)));(focus(first|exact qc.sl|exact qc.asl|exact qc.gr G3|exact qc.str));exact wf_;(focus(unfold maxLen;first|omega|(simp only[wZ]<;>omega)))
    |apply qW;(focus(first|exact qc.sl|exact qc.asl|exact qc.gr G3|exact qc.str));exact wf_;(focus(unfold maxLen;first|omega|(simp only[wZ]<;>omega)))
    |(refine qI ?_;simp -implicitDefEqProofs only[wM,wN,seval,g8,g9,g3,g10,hz];apply za;(focus(first|exact qc.sl|exact qc.asl|exact qc.gr G3|exact qc.str));(exact wf_);(focus(unfold maxLen;first|omega|(simp only[wZ]<;>omega))))
    |apply qB;(focus(first|omega|(simp only[wZ]<;>omega)))
    |apply qf;exact wu_;exact wu_;(focus((try simp -implicitDefEqProofs only[wE,Nat.reduceAdd]);rfl))
    |apply qg;exact wd_;exact wu_
    |apply qh;exact wu_
    |apply qR;exact wf_;exact wu_;exact wu_;(focus(intro _;with_unfolding_all rfl))
    |apply qO;exact wu_;exact wu_;exact wu_
    |simp -implicitDefEqProofs (disch:=omega) only[w64,if_neg]
   refine qi ?nx2 (fun(j:Nat) s=>s.f 4=?v2_4∧s.f 8=?v2_8∧s.f 9=?v2_9∧s.f 10=?v2_10∧s.f 16=?v2_16∧s.f 17=?v2_17∧(∃v,s.f 3=v∧Gr s.H s.next 2 ((T++(xm.take j).filterMap (trF i)).map prV) v)∧s.f 18=vi j∧(j≤xm.length)∧(((xm.take j).filterMap (trF i)).length≤j)) (fun j=>xm.length - j) (0) wj_ (by refine⟨?_,?_,?_,?_,?_,?_,?_,?_,wo_,(by exact Nat.zero_le _)⟩<;>first|(simp -implicitDefEqProofs only[wL,wM,wN,wX,seval,Option.some.injEq,g8,g9,g3,g10]<;>first|rfl|exact⟨_,rfl⟩|exact⟨_,rfl,by first|assumption|exact Gr.nil|exact Gr.tok rfl o_|exact Gr.tok (by simp -implicitDefEqProofs only[wM,seval]<;>rfl) o_|exact Gr.clip|exact G3.to (by first|rfl|(simp[*];done)) o_ rfl|exact G3.mono' (by first|rfl|(simp[*];done)) o_ (fun j hj hl=>by(try simp only[wM,QB]);repeat(first|rfl|rw[if_neg o_]))⟩)|rfl|exact⟨_,rfl⟩|exact⟨_,rfl,by first|assumption|exact G3.to (by first|rfl|(simp[*];done)) o_ rfl|exact G3.mono' (by first|rfl|(simp[*];done)) o_ (fun j hj hl=>by(try simp only[wM,QB]);repeat(first|rfl|rw[if_neg o_]))⟩) ?_
   intro j s hnx ⟨g4,g8,g9,g10,g16,g17,⟨v3,g3,G3⟩,g18,k2_0,k2_1⟩
   have hzj:=w1_ j
   by_cases hj:j<xm.length
   · have hgj:xm[j]?=some xm[j]:=ge_ hj
     have hst2:=qcC (trF i) hgj
     generalize xm[j]=p at *
     generalize (xm.take j).filterMap (trF i)=U at *
     obtain ⟨p1,p2⟩:=p
     by_cases hc:1000≤p1
     · have hst3:(xm.take (j+1)).filterMap (trF i)=U++[((i:Int),p1)]:=by rw[hst2];simp[trF,hc]
       have hlr:(T++U).length=T.length+U.length:=List.length_append
       repeat' with_reducible first
        |refine s_ ?_
        |refine s_ ?_
        |simp -implicitDefEqProofs only[wS,wT,wU,wV,wW,wX,wY,wC,wF,wG,wL,wM,wN,seval,Int.cast_ofNat_Int,Int.reduceLT,Int.reduceLE,Int.reduceEq,Int.reduceToNat,decide_true,decide_false,Bool.false_eq_true,g4,g8,g9,g10,g16,g17,g3,g18,hzj,G3.len]
        |(refine qa (fun h h_=>?_) (fun h h_=>?_)<;>(try simp only[wD,reduceCtorEq]at h_)<;>(try(exfalso;first|omega|exact absurd (Eq.trans (Eq.symm h_) (by assumption):false=true) (by decide)|exact absurd (Eq.trans (Eq.symm h_) (by assumption):true=false) (by decide)|(refine absurd ?_ h_;focus assumption)|(refine absurd h_ ?_;focus assumption)))<;>(try simp only[h]))
        |apply qX rfl (G3.mono (Nat.le_refl _) (fun id h1 h2=>by(try simp only[wM]);(repeat rw[if_neg o_])));(focus(first|exact qc.sl|exact qc.asl));(focus(simp only[wZ,hlr];omega));(focus(unfold maxLen;simp only[wZ,hlr];omega))
        |refine t_ ?_
        |apply Gr.iaQ G3;omega;exact wd_
        |apply qo;omega;exact wd_
        |apply qX (hg:=G3);(focus(first|rfl|(simp -implicitDefEqProofs only[wM];done)));(focus(first|exact qc.sl|exact qc.asl|exact qc.gr G3|exact qc.str));exact wf_;(focus(unfold maxLen;first|omega|(simp only[wZ]<;>omega)))
        |apply qW;(focus(first|exact qc.sl|exact qc.asl|exact qc.gr G3|exact qc.str));exact wf_;(focus(unfold maxLen;first|omega|(simp only[wZ]<;>omega)))
        |(refine qI ?_;simp -implicitDefEqProofs only[wM,wN,seval,g4,g8,g9,g10,g16,g17,g3,g18,hzj];apply za;(focus(first|exact qc.sl|exact qc.asl|exact qc.gr G3|exact qc.str));(exact wf_);(focus(unfold maxLen;first|omega|(simp only[wZ]<;>omega))))
        |apply qB;(focus(first|omega|(simp only[wZ]<;>omega)))
        |apply qf;exact wu_;exact wu_;(focus((try simp -implicitDefEqProofs only[wE,Nat.reduceAdd]);rfl))
        |apply qg;exact wd_;exact wu_
        |apply qh;exact wu_
        |apply qR;exact wf_;exact wu_;exact wu_;(focus(intro _;with_unfolding_all rfl))
        |apply qO;exact wu_;exact wu_;exact wu_
        |simp -implicitDefEqProofs (disch:=omega) only[w64,if_neg]
       exact⟨wg_,j+1,o_,trivial,trivial,trivial,trivial,trivial,trivial,⟨_,rfl,by rw[hst3,← List.append_assoc,List.map_append];exact Gr.tok (id:=s.next+1+4+3+6) (fin:=(T++U).length+1) hh_ wg_⟩,rfl,o_,by rw[hst3,List.length_append,List.length_singleton];omega⟩
     · have hst3:(xm.take (j+1)).filterMap (trF i)=U:=by rw[hst2];simp[trF,hc]
       repeat' with_reducible first
        |refine s_ ?_
        |refine s_ ?_
        |simp -implicitDefEqProofs only[wS,wT,wU,wV,wW,wX,wY,wC,wF,wG,wL,wM,wN,seval,Int.cast_ofNat_Int,Int.reduceLT,Int.reduceLE,Int.reduceEq,Int.reduceToNat,decide_true,decide_false,Bool.false_eq_true,g4,g8,g9,g10,g16,g17,g3,g18,hzj,G3.len]
        |(refine qa (fun h h_=>?_) (fun h h_=>?_)<;>(try simp only[wD,reduceCtorEq]at h_)<;>(try(exfalso;first|omega|exact absurd (Eq.trans (Eq.symm h_) (by assumption):false=true) (by decide)|exact absurd (Eq.trans (Eq.symm h_) (by assumption):true=false) (by decide)|(refine absurd ?_ h_;focus assumption)|(refine absurd h_ ?_;focus assumption)))<;>(try simp only[h]))
        |refine t_ ?_
        |apply Gr.iaQ G3;omega;exact wd_
        |apply qo;omega;exact wd_
        |apply qX (hg:=G3);(focus(first|rfl|(simp -implicitDefEqProofs only[wM];done)));(focus(first|exact qc.sl|exact qc.asl|exact qc.gr G3|exact qc.str));exact wf_;(focus(unfold maxLen;first|omega|(simp only[wZ]<;>omega)))
        |apply qW;(focus(first|exact qc.sl|exact qc.asl|exact qc.gr G3|exact qc.str));exact wf_;(focus(unfold maxLen;first|omega|(simp only[wZ]<;>omega)))
        |(refine qI ?_;simp -implicitDefEqProofs only[wM,wN,seval,g4,g8,g9,g10,g16,g17,g3,g18,hzj];apply za;(focus(first|exact qc.sl|exact qc.asl|exact qc.gr G3|exact qc.str));(exact wf_);(focus(unfold maxLen;first|omega|(simp only[wZ]<;>omega))))
        |apply qB;(focus(first|omega|(simp only[wZ]<;>omega)))
        |apply qf;exact wu_;exact wu_;(focus((try simp -implicitDefEqProofs only[wE,Nat.reduceAdd]);rfl))
        |apply qg;exact wd_;exact wu_
        |apply qh;exact wu_
        |apply qR;exact wf_;exact wu_;exact wu_;(focus(intro _;with_unfolding_all rfl))
        |apply qO;exact wu_;exact wu_;exact wu_
        |simp -implicitDefEqProofs (disch:=omega) only[w64,if_neg]
       refine⟨wk_,j+1,o_,?_⟩
       refine⟨?_,?_,?_,?_,?_,?_,?_,?_,?_,?_⟩
       iterate 8 (focus(first|(simp -implicitDefEqProofs only[wL,wM,wN,wX,seval,Option.some.injEq,g4,g8,g9,g10,g16,g17,g3,g18,hst3]<;>first|rfl|exact⟨_,rfl⟩|exact⟨_,rfl,by first|assumption|exact Gr.nil|exact Gr.tok rfl o_|exact Gr.tok (by simp -implicitDefEqProofs only[wM,seval]<;>rfl) o_|exact Gr.clip|exact G3.to (by first|rfl|(simp[*];done)) o_ rfl|exact G3.mono' (by first|rfl|(simp[*];done)) o_ (fun j hj hl=>by(try simp only[wM,QB]);repeat(first|rfl|rw[if_neg o_]))⟩)|rfl|exact⟨_,rfl⟩|exact⟨_,rfl,by first|assumption|exact G3.to (by first|rfl|(simp[*];done)) o_ rfl|exact G3.mono' (by first|rfl|(simp[*];done)) o_ (fun j hj hl=>by(try simp only[wM,QB]);repeat(first|rfl|rw[if_neg o_]))⟩))
       all_goals try omega
       rw[hst3];omega
   · have e:xm.take j=xm:=List.take_of_length_le o_
     rw[e]at G3 k2_1
     rw[← hst]at G3
     repeat' with_reducible first
      |refine s_ ?_
      |refine s_ ?_
      |simp -implicitDefEqProofs only[wS,wT,wU,wV,wW,wX,wY,wC,wF,wG,wL,wM,wN,seval,Int.cast_ofNat_Int,Int.reduceLT,Int.reduceLE,Int.reduceEq,Int.reduceToNat,decide_true,decide_false,Bool.false_eq_true,g4,g8,g9,g10,g16,g17,g3,g18,hz,G3.len]
      |(refine qa (fun h h_=>?_) (fun h h_=>?_)<;>(try simp only[wD,reduceCtorEq]at h_)<;>(try(exfalso;first|omega|exact absurd (Eq.trans (Eq.symm h_) (by assumption):false=true) (by decide)|exact absurd (Eq.trans (Eq.symm h_) (by assumption):true=false) (by decide)|(refine absurd ?_ h_;focus assumption)|(refine absurd h_ ?_;focus assumption)))<;>(try simp only[h]))
      |refine t_ ?_
      |apply Gr.iaQ G3;omega;exact wd_
      |apply qo;omega;exact wd_
      |apply qX (hg:=G3);(focus(first|rfl|(simp -implicitDefEqProofs only[wM];done)));(focus(first|exact qc.sl|exact qc.asl|exact qc.gr G3|exact qc.str));exact wf_;(focus(unfold maxLen;first|omega|(simp only[wZ]<;>omega)))
      |apply qW;(focus(first|exact qc.sl|exact qc.asl|exact qc.gr G3|exact qc.str));exact wf_;(focus(unfold maxLen;first|omega|(simp only[wZ]<;>omega)))
      |(refine qI ?_;simp -implicitDefEqProofs only[wM,wN,seval,g4,g8,g9,g10,g16,g17,g3,g18,hz];apply za;(focus(first|exact qc.sl|exact qc.asl|exact qc.gr G3|exact qc.str));(exact wf_);(focus(unfold maxLen;first|omega|(simp only[wZ]<;>omega))))
      |apply qB;(focus(first|omega|(simp only[wZ]<;>omega)))
      |apply qf;exact wu_;exact wu_;(focus((try simp -implicitDefEqProofs only[wE,Nat.reduceAdd]);rfl))
      |apply qg;exact wd_;exact wu_
      |apply qh;exact wu_
      |apply qR;exact wf_;exact wu_;exact wu_;(focus(intro _;with_unfolding_all rfl))
      |apply qO;exact wu_;exact wu_;exact wu_
      |simp -implicitDefEqProofs (disch:=omega) only[w64,if_neg]
     exact⟨wg_,i+1,o_,trivial,trivial,⟨v3,rfl,G3.mono wg_ (fun _ _ _=>rfl)⟩,rfl,o_,by rw[hst,List.length_append];omega⟩
 · have e:i=m.length:=o_
   subst e
   skip
   repeat' with_reducible first
    |refine s_ ?_
    |refine s_ ?_
    |simp -implicitDefEqProofs only[wS,wT,wU,wV,wW,wX,wY,wC,wF,wG,wL,wM,wN,seval,Int.cast_ofNat_Int,Int.reduceLT,Int.reduceLE,Int.reduceEq,Int.reduceToNat,decide_true,decide_false,Bool.false_eq_true,g8,g9,g3,g10,hz,G3.len]
    |(refine qa (fun h h_=>?_) (fun h h_=>?_)<;>(try simp only[wD,reduceCtorEq]at h_)<;>(try(exfalso;first|omega|exact absurd (Eq.trans (Eq.symm h_) (by assumption):false=true) (by decide)|exact absurd (Eq.trans (Eq.symm h_) (by assumption):true=false) (by decide)|(refine absurd ?_ h_;focus assumption)|(refine absurd h_ ?_;focus assumption)))<;>(try simp only[h]))
    |refine t_ ?_
    |apply Gr.iaQ G3;omega;exact wd_
    |apply qo;omega;exact wd_
    |apply qX (hg:=G3);(focus(first|rfl|(simp -implicitDefEqProofs only[wM];done)));(focus(first|exact qc.sl|exact qc.asl|exact qc.gr G3|exact qc.str));exact wf_;(focus(unfold maxLen;first|omega|(simp only[wZ]<;>omega)))
    |apply qW;(focus(first|exact qc.sl|exact qc.asl|exact qc.gr G3|exact qc.str));exact wf_;(focus(unfold maxLen;first|omega|(simp only[wZ]<;>omega)))
    |(refine qI ?_;simp -implicitDefEqProofs only[wM,wN,seval,g8,g9,g3,g10,hz];apply za;(focus(first|exact qc.sl|exact qc.asl|exact qc.gr G3|exact qc.str));(exact wf_);(focus(unfold maxLen;first|omega|(simp only[wZ]<;>omega))))
    |apply qB;(focus(first|omega|(simp only[wZ]<;>omega)))
    |apply qf;exact wu_;exact wu_;(focus((try simp -implicitDefEqProofs only[wE,Nat.reduceAdd]);rfl))
    |apply qg;exact wd_;exact wu_
    |apply qh;exact wu_
    |apply qR;exact wf_;exact wu_;exact wu_;(focus(intro _;with_unfolding_all rfl))
    |apply qO;exact wu_;exact wu_;exact wu_
    |simp -implicitDefEqProofs (disch:=omega) only[w64,if_neg]
   all_goals refine qF rfl (Or.inr rfl) ?_
   all_goals(try simp -implicitDefEqProofs only[wL,seval,g8,g9,g3,g10])
   all_goals(first|refine er_ ?_ |refine G3.er ?_)
   all_goals(try(with_reducible rfl))
end Go.Proofs

namespace Go.E
section
variable {P : Program} [Glob P] {cls : Cls} {id : Nat} {s : St}
theorem qe5 {K:V→St→Prop}:qd P cls id s K .mkmap=K (.map id) (s.setO id (some (.mapo []))):=rfl
theorem qsE {K:V→St→Prop} (x k v:Opd):qd P cls id s K (.mset x k v)=onS (Qr s (ev s x) (ev s k) (ev s v)) fun s'=>K .undef s':=rfl
theorem qR0 {K:St→Prop} {i:Nat} {l:List (Int×Int×Int)} {a b c:Int} (hH:s.H i=some (.mapo l)) (hn: ∀e∈l,¬ (e.1=a∧e.2.1=b)) (hk:K (s.setO i (some (.mapo (l++[(a,b,c)]))))):
 onS (Qr s (.map i) (.agg [.int .i64 a,.int .i64 b]) (.int .i64 c)) K:=by
 have e:l.find? (fun e=>e.1 == a && e.2.1 == b)=none:=by
  rw[List.find?_eq_none]
  intro x hx h
  rw[Bool.and_eq_true,beq_iff_eq,beq_iff_eq]at h
  exact hn x hx h
 have e1:Qr s (.map i) (.agg [.int .i64 a,.int .i64 b]) (.int .i64 c)=some (s.setO i (some (.mapo (l++[(a,b,c)])))):=by
  unfold Qr
  simp only[hH,e]
 rw[e1];exact hk
end
end Go.E
