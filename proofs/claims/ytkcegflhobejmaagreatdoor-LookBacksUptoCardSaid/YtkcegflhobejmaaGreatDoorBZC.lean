/- Part of a proof that a law of the given program answers true. -/
import Derived.Test.YtkcegflhobejmaaGreatDoorBZB
import Derived.Test.YtkcegflhobejmaaGreatDoorBRA
set_option maxRecDepth 20000
set_option linter.unusedSimpArgs false
set_option linter.unusedVariables false
set_option maxHeartbeats 4000000
namespace Go.Proofs
open Go.E
def qbE (m:List Sta) (i:Nat):List (Int×Int):=(m[i]?.map (·.mov)).getD []
abbrev trF (i:Nat):Int×Int→Option (Int×Int):=fun p=>if 1000≤p.1 then some ((i:Int),p.1)else none
def xh (m:List Sta) (n:Nat):List (Int×Int):=(List.range n).flatMap fun i=>(qbE m i).filterMap (trF i)
theorem yT (m:List Sta) (n:Nat):xh m (n+1)=xh m n++(qbE m n).filterMap (trF n):=by
 unfold xh;rw[List.range_succ,List.flatMap_append];simp
theorem qcC {α β:Type} (f:α→Option β) {l:List α} {i:Nat} {x:α} (h:l[i]?=some x):(l.take (i+1)).filterMap f=(l.take i).filterMap f++(f x).toList:=by
 rw[List.take_add_one,h,List.filterMap_append]
 cases hf:f x<;>simp[hf]
theorem zL {m:List Sta} (hm:m.length≤1000) (hq: ∀q∈m,q.mov.length≤1000):Pure Tryz.prog 16 [.sl 2 false (m.map Sta.V)] (.sl 2 false ((jb m).map prV)):=by
 refine pure_intro Tryz.func16 nm_ qyk (by show 1≤47;decide) ?_
 show ewp _ qgh _ _
 have hdef:jb m=xh m m.length:=rfl
 rw[hdef]
 repeat' with_reducible first
  |refine s_ ?_
  |refine s_ ?_
  |simp -implicitDefEqProofs only[wS,wT,wU,wV,wW,wX,wY,wC,wF,wG,wL,wM,wN,seval,Int.cast_ofNat_Int,Int.reduceLT,Int.reduceLE,Int.reduceEq,Int.reduceToNat,decide_true,decide_false,Bool.false_eq_true]
  |(refine qa (fun h h_=>?_) (fun h h_=>?_)<;>(try simp only[wD,reduceCtorEq]at h_)<;>(try(exfalso;first|omega|exact absurd (Eq.trans (Eq.symm h_) (by assumption):false=true) (by decide)|exact absurd (Eq.trans (Eq.symm h_) (by assumption):true=false) (by decide)|(refine absurd ?_ h_;focus assumption)|(refine absurd h_ ?_;focus assumption)))<;>(try simp only[h]))
  |refine t_ ?_
  |apply qo;omega;exact wd_
  |apply qW;(focus(first|exact qc.sl|exact qc.asl|exact qc.str));exact wf_;(focus(unfold maxLen;first|omega|(simp only[wZ]<;>omega)))
  |(refine qI ?_;simp -implicitDefEqProofs only[wM,wN,seval];apply za;(focus(first|exact qc.sl|exact qc.asl|exact qc.str));(exact wf_);(focus(unfold maxLen;first|omega|(simp only[wZ]<;>omega))))
  |apply qB;(focus(first|omega|(simp only[wZ]<;>omega)))
  |apply qf;exact wu_;exact wu_;(focus((try simp -implicitDefEqProofs only[wE,Nat.reduceAdd]);rfl))
  |apply qg;exact wd_;exact wu_
  |apply qh;exact wu_
  |simp -implicitDefEqProofs (disch:=omega) only[w64,if_neg]
 refine qi ?nx1 (fun(i:Nat) s=>s.f 0=?v1_0∧(∃v,s.f 3=v∧Gr s.H s.next 2 ((xh m i).map prV) v)∧s.f 4=vi i∧(i≤m.length)∧((xh m i).length≤i *1000)) (fun i=>m.length - i) (0) wj_ (by refine⟨?_,?_,?_,wo_,(by exact Nat.zero_le _)⟩<;>first|(simp -implicitDefEqProofs only[wL,wM,wN,wX,seval,Option.some.injEq]<;>exact wt_)|rfl|exact⟨_,rfl⟩) ?_
 intro i s hnx ⟨g0,⟨v3,g3,G3⟩,g4,k1_0,k1_1⟩
 have hz:=w1_ i
 by_cases hi:i<m.length
 · have hgi:m[i]?=some m[i]:=ge_ hi
   have hml:=hq _ (List.getElem_mem hi)
   have hst:=yT m i
   have hmi:qbE m i=m[i].mov:=by unfold qbE;rw[hgi];rfl
   rw[hmi]at hst
   generalize m[i]=x at *
   generalize hT:xh m i=T at *
   obtain ⟨xk,xm⟩:=x
   dsimp only at hml hst
   repeat' with_reducible first
    |refine s_ ?_
    |refine s_ ?_
    |simp -implicitDefEqProofs only[wS,wT,wU,wV,wW,wX,wY,wC,wF,wG,wL,wM,wN,seval,Int.cast_ofNat_Int,Int.reduceLT,Int.reduceLE,Int.reduceEq,Int.reduceToNat,decide_true,decide_false,Bool.false_eq_true,g0,g3,g4,hz,G3.len]
    |(refine qa (fun h h_=>?_) (fun h h_=>?_)<;>(try simp only[wD,reduceCtorEq]at h_)<;>(try(exfalso;first|omega|exact absurd (Eq.trans (Eq.symm h_) (by assumption):false=true) (by decide)|exact absurd (Eq.trans (Eq.symm h_) (by assumption):true=false) (by decide)|(refine absurd ?_ h_;focus assumption)|(refine absurd h_ ?_;focus assumption)))<;>(try simp only[h]))
    |refine t_ ?_
    |apply Gr.iaQ G3;omega;exact wd_
    |apply qo;omega;exact wd_
    |apply qX (hg:=G3);(focus(first|rfl|(simp -implicitDefEqProofs only[wM];done)));(focus(first|exact qc.sl|exact qc.asl|exact qc.gr G3|exact qc.str));exact wf_;(focus(unfold maxLen;first|omega|(simp only[wZ]<;>omega)))
    |apply qW;(focus(first|exact qc.sl|exact qc.asl|exact qc.gr G3|exact qc.str));exact wf_;(focus(unfold maxLen;first|omega|(simp only[wZ]<;>omega)))
    |(refine qI ?_;simp -implicitDefEqProofs only[wM,wN,seval,g0,g3,g4,hz];apply za;(focus(first|exact qc.sl|exact qc.asl|exact qc.gr G3|exact qc.str));(exact wf_);(focus(unfold maxLen;first|omega|(simp only[wZ]<;>omega))))
    |apply qB;(focus(first|omega|(simp only[wZ]<;>omega)))
    |apply qf;exact wu_;exact wu_;(focus((try simp -implicitDefEqProofs only[wE,Nat.reduceAdd]);rfl))
    |apply qg;exact wd_;exact wu_
    |apply qh;exact wu_
    |simp -implicitDefEqProofs (disch:=omega) only[w64,if_neg]
   refine qi ?nx2 (fun(j:Nat) s=>s.f 0=?v2_0∧s.f 4=?v2_4∧(∃v,s.f 3=v∧Gr s.H s.next 2 ((T++(xm.take j).filterMap (trF i)).map prV) v)∧s.f 5=vi j∧(j≤xm.length)∧(((xm.take j).filterMap (trF i)).length≤j)) (fun j=>xm.length - j) (0) wj_ (by refine⟨?_,?_,?_,?_,wo_,(by exact Nat.zero_le _)⟩<;>first|(simp -implicitDefEqProofs only[wL,wM,wN,wX,seval,Option.some.injEq,g0,g3,g4]<;>first|rfl|exact⟨_,rfl⟩|exact⟨_,rfl,by first|assumption|exact Gr.nil|exact Gr.tok rfl o_|exact Gr.tok (by simp -implicitDefEqProofs only[wM,seval]<;>rfl) o_|exact Gr.clip|exact G3.to (by first|rfl|(simp[*];done)) o_ rfl⟩)|rfl|exact⟨_,rfl⟩|exact⟨_,rfl,by first|assumption|exact G3.to (by first|rfl|(simp[*];done)) o_ rfl⟩) ?_
   intro j s hnx ⟨g0,g4,⟨v3,g3,G3⟩,g5,k2_0,k2_1⟩
   have hzj:=w1_ j
   by_cases hj:j<xm.length
   · have hgj:xm[j]?=some xm[j]:=ge_ hj
     have hst2:=qcC (trF i) hgj
     generalize xm[j]=p at *
     generalize (xm.take j).filterMap (trF i)=U at *
     obtain ⟨p1,p2⟩:=p
     by_cases hc:1000≤p1
     · have hst3:(xm.take (j+1)).filterMap (trF i)=U++[((i:Int),p1)]:=by rw[hst2];simp[trF,hc]
       have hlr:(T++U).length=T.length+U.length:=List.length_append
       repeat' with_reducible first
        |refine s_ ?_
        |refine s_ ?_
        |simp -implicitDefEqProofs only[wS,wT,wU,wV,wW,wX,wY,wC,wF,wG,wL,wM,wN,seval,Int.cast_ofNat_Int,Int.reduceLT,Int.reduceLE,Int.reduceEq,Int.reduceToNat,decide_true,decide_false,Bool.false_eq_true,g0,g4,g3,g5,hzj,G3.len]
        |(refine qa (fun h h_=>?_) (fun h h_=>?_)<;>(try simp only[wD,reduceCtorEq]at h_)<;>(try(exfalso;first|omega|exact absurd (Eq.trans (Eq.symm h_) (by assumption):false=true) (by decide)|exact absurd (Eq.trans (Eq.symm h_) (by assumption):true=false) (by decide)|(refine absurd ?_ h_;focus assumption)|(refine absurd h_ ?_;focus assumption)))<;>(try simp only[h]))
        |apply qX rfl (G3.mono (Nat.le_refl _) (fun id h1 h2=>by(try simp only[wM]);(repeat rw[if_neg o_])));(focus(first|exact qc.sl|exact qc.asl));(focus(simp only[wZ,hlr];omega));(focus(unfold maxLen;simp only[wZ,hlr];omega))
        |refine t_ ?_
        |apply Gr.iaQ G3;omega;exact wd_
        |apply qo;omega;exact wd_
        |apply qX (hg:=G3);(focus(first|rfl|(simp -implicitDefEqProofs only[wM];done)));(focus(first|exact qc.sl|exact qc.asl|exact qc.gr G3|exact qc.str));exact wf_;(focus(unfold maxLen;first|omega|(simp only[wZ]<;>omega)))
        |apply qW;(focus(first|exact qc.sl|exact qc.asl|exact qc.gr G3|exact qc.str));exact wf_;(focus(unfold maxLen;first|omega|(simp only[wZ]<;>omega)))
        |(refine qI ?_;simp -implicitDefEqProofs only[wM,wN,seval,g0,g4,g3,g5,hzj];apply za;(focus(first|exact qc.sl|exact qc.asl|exact qc.gr G3|exact qc.str));(exact wf_);(focus(unfold maxLen;first|omega|(simp only[wZ]<;>omega))))
        |apply qB;(focus(first|omega|(simp only[wZ]<;>omega)))
        |apply qf;exact wu_;exact wu_;(focus((try simp -implicitDefEqProofs only[wE,Nat.reduceAdd]);rfl))
        |apply qg;exact wd_;exact wu_
        |apply qh;exact wu_
        |simp -implicitDefEqProofs (disch:=omega) only[w64,if_neg]
       exact⟨wg_,j+1,o_,trivial,trivial,⟨_,rfl,by rw[hst3,← List.append_assoc,List.map_append];exact Gr.tok (id:=s.next+8+10+13) (fin:=(T++U).length+1) hh_ wg_⟩,rfl,o_,by rw[hst3,List.length_append,List.length_singleton];omega⟩
     · have hst3:(xm.take (j+1)).filterMap (trF i)=U:=by rw[hst2];simp[trF,hc]
       repeat' with_reducible first
        |refine s_ ?_
        |refine s_ ?_
        |simp -implicitDefEqProofs only[wS,wT,wU,wV,wW,wX,wY,wC,wF,wG,wL,wM,wN,seval,Int.cast_ofNat_Int,Int.reduceLT,Int.reduceLE,Int.reduceEq,Int.reduceToNat,decide_true,decide_false,Bool.false_eq_true,g0,g4,g3,g5,hzj,G3.len]
        |(refine qa (fun h h_=>?_) (fun h h_=>?_)<;>(try simp only[wD,reduceCtorEq]at h_)<;>(try(exfalso;first|omega|exact absurd (Eq.trans (Eq.symm h_) (by assumption):false=true) (by decide)|exact absurd (Eq.trans (Eq.symm h_) (by assumption):true=false) (by decide)|(refine absurd ?_ h_;focus assumption)|(refine absurd h_ ?_;focus assumption)))<;>(try simp only[h]))
        |refine t_ ?_
        |apply Gr.iaQ G3;omega;exact wd_
        |apply qo;omega;exact wd_
        |apply qX (hg:=G3);(focus(first|rfl|(simp -implicitDefEqProofs only[wM];done)));(focus(first|exact qc.sl|exact qc.asl|exact qc.gr G3|exact qc.str));exact wf_;(focus(unfold maxLen;first|omega|(simp only[wZ]<;>omega)))
        |apply qW;(focus(first|exact qc.sl|exact qc.asl|exact qc.gr G3|exact qc.str));exact wf_;(focus(unfold maxLen;first|omega|(simp only[wZ]<;>omega)))
        |(refine qI ?_;simp -implicitDefEqProofs only[wM,wN,seval,g0,g4,g3,g5,hzj];apply za;(focus(first|exact qc.sl|exact qc.asl|exact qc.gr G3|exact qc.str));(exact wf_);(focus(unfold maxLen;first|omega|(simp only[wZ]<;>omega))))
        |apply qB;(focus(first|omega|(simp only[wZ]<;>omega)))
        |apply qf;exact wu_;exact wu_;(focus((try simp -implicitDefEqProofs only[wE,Nat.reduceAdd]);rfl))
        |apply qg;exact wd_;exact wu_
        |apply qh;exact wu_
        |simp -implicitDefEqProofs (disch:=omega) only[w64,if_neg]
       refine⟨wk_,j+1,o_,?_⟩
       refine⟨?_,?_,?_,?_,?_,?_⟩
       iterate 4 (focus(first|(simp -implicitDefEqProofs only[wL,wM,wN,wX,seval,Option.some.injEq,g0,g4,g3,g5,hst3]<;>first|rfl|exact⟨_,rfl⟩|exact⟨_,rfl,by first|assumption|exact Gr.nil|exact Gr.tok rfl o_|exact Gr.tok (by simp -implicitDefEqProofs only[wM,seval]<;>rfl) o_|exact Gr.clip|exact G3.to (by first|rfl|(simp[*];done)) o_ rfl⟩)|rfl|exact⟨_,rfl⟩|exact⟨_,rfl,by first|assumption|exact G3.to (by first|rfl|(simp[*];done)) o_ rfl⟩))
       all_goals try omega
       rw[hst3];omega
   · have e:xm.take j=xm:=List.take_of_length_le o_
     rw[e]at G3 k2_1
     rw[← hst]at G3
     repeat' with_reducible first
      |refine s_ ?_
      |refine s_ ?_
      |simp -implicitDefEqProofs only[wS,wT,wU,wV,wW,wX,wY,wC,wF,wG,wL,wM,wN,seval,Int.cast_ofNat_Int,Int.reduceLT,Int.reduceLE,Int.reduceEq,Int.reduceToNat,decide_true,decide_false,Bool.false_eq_true,g0,g4,g3,g5,hz,G3.len]
      |(refine qa (fun h h_=>?_) (fun h h_=>?_)<;>(try simp only[wD,reduceCtorEq]at h_)<;>(try(exfalso;first|omega|exact absurd (Eq.trans (Eq.symm h_) (by assumption):false=true) (by decide)|exact absurd (Eq.trans (Eq.symm h_) (by assumption):true=false) (by decide)|(refine absurd ?_ h_;focus assumption)|(refine absurd h_ ?_;focus assumption)))<;>(try simp only[h]))
      |refine t_ ?_
      |apply Gr.iaQ G3;omega;exact wd_
      |apply qo;omega;exact wd_
      |apply qX (hg:=G3);(focus(first|rfl|(simp -implicitDefEqProofs only[wM];done)));(focus(first|exact qc.sl|exact qc.asl|exact qc.gr G3|exact qc.str));exact wf_;(focus(unfold maxLen;first|omega|(simp only[wZ]<;>omega)))
      |apply qW;(focus(first|exact qc.sl|exact qc.asl|exact qc.gr G3|exact qc.str));exact wf_;(focus(unfold maxLen;first|omega|(simp only[wZ]<;>omega)))
      |(refine qI ?_;simp -implicitDefEqProofs only[wM,wN,seval,g0,g4,g3,g5,hz];apply za;(focus(first|exact qc.sl|exact qc.asl|exact qc.gr G3|exact qc.str));(exact wf_);(focus(unfold maxLen;first|omega|(simp only[wZ]<;>omega))))
      |apply qB;(focus(first|omega|(simp only[wZ]<;>omega)))
      |apply qf;exact wu_;exact wu_;(focus((try simp -implicitDefEqProofs only[wE,Nat.reduceAdd]);rfl))
      |apply qg;exact wd_;exact wu_
      |apply qh;exact wu_
      |simp -implicitDefEqProofs (disch:=omega) only[w64,if_neg]
     exact⟨wg_,i+1,o_,trivial,⟨v3,rfl,G3.mono wg_ (fun _ _ _=>rfl)⟩,rfl,o_,by rw[hst,List.length_append];omega⟩
 · have e:i=m.length:=o_
   subst e
   skip
   repeat' with_reducible first
    |refine s_ ?_
    |refine s_ ?_
    |simp -implicitDefEqProofs only[wS,wT,wU,wV,wW,wX,wY,wC,wF,wG,wL,wM,wN,seval,Int.cast_ofNat_Int,Int.reduceLT,Int.reduceLE,Int.reduceEq,Int.reduceToNat,decide_true,decide_false,Bool.false_eq_true,g0,g3,g4,hz,G3.len]
    |(refine qa (fun h h_=>?_) (fun h h_=>?_)<;>(try simp only[wD,reduceCtorEq]at h_)<;>(try(exfalso;first|omega|exact absurd (Eq.trans (Eq.symm h_) (by assumption):false=true) (by decide)|exact absurd (Eq.trans (Eq.symm h_) (by assumption):true=false) (by decide)|(refine absurd ?_ h_;focus assumption)|(refine absurd h_ ?_;focus assumption)))<;>(try simp only[h]))
    |refine t_ ?_
    |apply Gr.iaQ G3;omega;exact wd_
    |apply qo;omega;exact wd_
    |apply qX (hg:=G3);(focus(first|rfl|(simp -implicitDefEqProofs only[wM];done)));(focus(first|exact qc.sl|exact qc.asl|exact qc.gr G3|exact qc.str));exact wf_;(focus(unfold maxLen;first|omega|(simp only[wZ]<;>omega)))
    |apply qW;(focus(first|exact qc.sl|exact qc.asl|exact qc.gr G3|exact qc.str));exact wf_;(focus(unfold maxLen;first|omega|(simp only[wZ]<;>omega)))
    |(refine qI ?_;simp -implicitDefEqProofs only[wM,wN,seval,g0,g3,g4,hz];apply za;(focus(first|exact qc.sl|exact qc.asl|exact qc.gr G3|exact qc.str));(exact wf_);(focus(unfold maxLen;first|omega|(simp only[wZ]<;>omega))))
    |apply qB;(focus(first|omega|(simp only[wZ]<;>omega)))
    |apply qf;exact wu_;exact wu_;(focus((try simp -implicitDefEqProofs only[wE,Nat.reduceAdd]);rfl))
    |apply qg;exact wd_;exact wu_
    |apply qh;exact wu_
    |simp -implicitDefEqProofs (disch:=omega) only[w64,if_neg]
   all_goals refine qF rfl (Or.inr rfl) ?_
   all_goals(try simp -implicitDefEqProofs only[wL,seval,g0,g3,g4])
   all_goals(first|refine er_ ?_ |refine G3.er ?_)
   all_goals(try(with_reducible rfl))

abbrev Zw (m:List Sta) (x:GPr) (q:Int) (t:List (Int×Int)):Nat→Bool:=fun i=>decide ((t.getD i (0,0)).2=1000+x.left∧yM m (t.getD i (0,0)).1 x.right=q)
theorem Jv (f:Nat→Bool) (n:Nat):((List.range (n+1)).filter f).map (fun(i:Nat)=>(i:Int))=((List.range n).filter f).map (fun(i:Nat)=>(i:Int))++(if f n=true then[(n:Int)]else[]):=by
 rw[List.range_succ,List.filter_append,List.map_append]
 cases h:f n<;>simp[h]
theorem Q6 (f:Nat→Bool) (n:Nat):(((List.range n).filter f).map (fun(i:Nat)=>(i:Int))).length≤n:=by
 rw[List.length_map]
 exact Nat.le_trans (List.length_filter_le _ _) (by rw[List.length_range];exact Nat.le_refl _)
theorem XL {m:List Sta} (hq: ∀q∈m,q.mov.length≤1000): ∀n,(xh m n).length≤n *1000
 |0=>Nat.zero_le _
 | n+1=>by
   rw[yT,List.length_append]
   have:=XL hq n
   have h1:=List.length_filterMap_le (trF n) (qbE m n)
   have h2:(qbE m n).length≤1000:=by
    unfold qbE
    cases h:m[n]? with
    |none=>simp
    |some q=>exact hq q (List.mem_of_getElem? h)
   omega
theorem jh {g:Grammar} {m:List Sta} {q n:Nat} (hg:GOk g) (hm:m.length≤1000) (hq: ∀q∈m,q.mov.length≤1000) (hqm:q<m.length) (hn:1≤n) (hnl:n<g.prods.length):Pure Tryz.prog 27 [g.V,.sl 2 false (m.map Sta.V),vi q,vi n] (.sl 1 false ((YB g m q n).map (V.int .i64))):=by
 refine pure_intro Tryz.func27 nm_ qf8 (by show 4≤74;decide) ?_
 show ewp _ qcR _ _
 have hpl:=hg.pl2
 have hgp:g.prods[n]?=some g.prods[n]:=ge_ hnl
 have hrl:=hg.rlen _ (List.getElem_mem hnl)
 obtain ⟨lf,hl1,hl2⟩:=hg.left _ (List.getElem_mem hnl)
 have hnn:=hg.nn2
 have hdef:YB g m q n=((List.range (jb m).length).filter (Zw m g.prods[n] (q:Int) (jb m))).map (fun(i:Nat)=>(i:Int)):=by
  unfold YB
  rw[show ((n:Int)).toNat=n from rfl,hgp]
 rw[hdef]
 have htr:=zL hm hq
 have htl:(jb m).length≤1000000:=by have:=XL hq m.length;have e:jb m=xh m m.length:=rfl;rw[e];omega
 generalize jb m=T at *
 generalize g.prods[n]=p at *
 obtain ⟨pl,pr,pc,pco,pa,pat⟩:=p
 dsimp only at hl1 hrl
 subst hl1
 have hzl:IntKind.i64.wrap (1000+(lf:Int))=1000+(lf:Int):=wrap64 o_ o_
 repeat' with_reducible first
  |refine s_ ?_
  |refine s_ ?_
  |refine s_ ?_
  |simp -implicitDefEqProofs only[wS,wT,wU,wV,wW,wX,wY,wC,wF,wG,wL,wM,wN,seval,Int.cast_ofNat_Int,Int.reduceLT,Int.reduceLE,Int.reduceEq,Int.reduceToNat,decide_true,decide_false,Bool.false_eq_true]
  |(refine qa (fun h h_=>?_) (fun h h_=>?_)<;>(try simp only[wD,reduceCtorEq]at h_)<;>(try(exfalso;first|omega|exact absurd (Eq.trans (Eq.symm h_) (by assumption):false=true) (by decide)|exact absurd (Eq.trans (Eq.symm h_) (by assumption):true=false) (by decide)|(refine absurd ?_ h_;focus assumption)|(refine absurd h_ ?_;focus assumption)))<;>(try simp only[h]))
  |((first|refine zk (fun h=>?_) (fun h=>?_)|refine zl (fun h=>?_) (fun h=>?_))<;>have h_:=h<;>(try simp only[wD,reduceCtorEq]at h_)<;>(try(exfalso;first|omega|exact absurd (Eq.trans (Eq.symm h_) (by assumption):false=true) (by decide)|exact absurd (Eq.trans (Eq.symm h_) (by assumption):true=false) (by decide)|(refine absurd ?_ h_;focus assumption)|(refine absurd h_ ?_;focus assumption)))<;>(try simp only[h]))
  |refine cq1 htr qj ?_
  |refine t_ ?_
  |apply qo;omega;exact wd_
  |apply qW;(focus(first|exact qc.sl|exact qc.asl|exact qc.str));exact wf_;(focus(unfold maxLen;first|omega|(simp only[wZ]<;>omega)))
  |(refine qI ?_;simp -implicitDefEqProofs only[wM,wN,seval];apply za;(focus(first|exact qc.sl|exact qc.asl|exact qc.str));(exact wf_);(focus(unfold maxLen;first|omega|(simp only[wZ]<;>omega))))
  |apply qB;(focus(first|omega|(simp only[wZ]<;>omega)))
  |apply qf;exact wu_;exact wu_;(focus((try simp -implicitDefEqProofs only[wE,Nat.reduceAdd]);rfl))
  |apply qg;exact wd_;exact wu_
  |apply qh;exact wu_
  |refine zf we_ (zL wf_ wf_) ?_
  |refine zu we_ we_ we_ (zN wf_ wf_ wf_) ?_
  |simp -implicitDefEqProofs (disch:=omega) only[w64,if_neg]
 refine qi ?nx1 (fun(i:Nat) s=>s.f 1=?v1_1∧s.f 2=?v1_2∧s.f 3=?v1_3∧s.f 4=?v1_4∧s.f 9=?v1_9∧s.H 0=some (.own 5 [g.V] false)∧(∃v,s.f 10=v∧Gr s.H s.next 1 ((((List.range i).filter (Zw m {left:=(lf:Int),right:=pr,prec:=pc,code:=pco,args:=pa,at_:=pat} (q:Int) T)).map (fun(i:Nat)=>(i:Int))).map (V.int .i64)) v)∧s.f 11=vi i∧(i≤T.length)) (fun i=>T.length - i) (0) wj_ (by refine⟨?_,?_,?_,?_,?_,?_,?_,?_,wo_⟩<;>first|(simp -implicitDefEqProofs only[wL,wM,wN,wX,seval,Option.some.injEq]<;>exact wt_)|rfl|exact⟨_,rfl⟩) ?_
 intro i s hnx ⟨g1,g2,g3,g4,g9,o0,⟨v10,g10,G10⟩,g11,k1_0⟩
 have hz:=w1_ i
 have hlr:=Q6 (Zw m {left:=(lf:Int),right:=pr,prec:=pc,code:=pco,args:=pa,at_:=pat} (q:Int) T) i
 by_cases hi:i<T.length
 · have hgi:T[i]?=some T[i]:=ge_ hi
   have hst:=Jv (Zw m {left:=(lf:Int),right:=pr,prec:=pc,code:=pco,args:=pa,at_:=pat} (q:Int) T) i
   have hbf:Zw m {left:=(lf:Int),right:=pr,prec:=pc,code:=pco,args:=pa,at_:=pat} (q:Int) T i=decide (T[i].2=1000+(lf:Int)∧yM m T[i].1 pr=q):=by
    show decide _=_
    rw[List.getD,hgi,Option.getD_some]
   rw[hbf]at hst
   have hwk:=zN (m:=m) (q:=T[i].1) (l:=pr) o_ (fun q h=>by have:=hq q h;omega) o_
   generalize ((List.range i).filter (Zw m {left:=(lf:Int),right:=pr,prec:=pc,code:=pco,args:=pa,at_:=pat} (q:Int) T)).map (fun(i:Nat)=>(i:Int))=U at *
   generalize T[i]=t at *
   obtain ⟨t1,t2⟩:=t
   dsimp only at hwk hst
   generalize yM m t1 pr=w at *
   by_cases hc:t2=1000+(lf:Int)∧w=q
   · rw[decide_eq_true hc,if_pos rfl]at hst
     obtain ⟨hc1,hc2⟩:=hc
     subst hc1 hc2
     repeat' with_reducible first
      |refine s_ ?_
      |refine s_ ?_
      |refine s_ ?_
      |simp -implicitDefEqProofs only[wS,wT,wU,wV,wW,wX,wY,wC,wF,wG,wL,wM,wN,seval,Int.cast_ofNat_Int,Int.reduceLT,Int.reduceLE,Int.reduceEq,Int.reduceToNat,decide_true,decide_false,Bool.false_eq_true,g1,g2,g3,g4,g9,g10,g11,o0,Gr.dropO G10 o0,hz,hzl,G10.len]
      |(refine qa (fun h h_=>?_) (fun h h_=>?_)<;>(try simp only[wD,reduceCtorEq]at h_)<;>(try(exfalso;first|omega|exact absurd (Eq.trans (Eq.symm h_) (by assumption):false=true) (by decide)|exact absurd (Eq.trans (Eq.symm h_) (by assumption):true=false) (by decide)|(refine absurd ?_ h_;focus assumption)|(refine absurd h_ ?_;focus assumption)))<;>(try simp only[h]))
      |((first|refine zk (fun h=>?_) (fun h=>?_)|refine zl (fun h=>?_) (fun h=>?_))<;>have h_:=h<;>(try simp only[wD,reduceCtorEq]at h_)<;>(try(exfalso;first|omega|exact absurd (Eq.trans (Eq.symm h_) (by assumption):false=true) (by decide)|exact absurd (Eq.trans (Eq.symm h_) (by assumption):true=false) (by decide)|(refine absurd ?_ h_;focus assumption)|(refine absurd h_ ?_;focus assumption)))<;>(try simp only[h]))
      |apply qX rfl (G10.mono (Nat.le_refl _) (fun id h1 h2=>by(try simp only[wM]);(repeat rw[if_neg o_])));(focus(first|exact qc.sl|exact qc.asl));(focus(simp only[wZ,hz];omega));(focus(unfold maxLen;simp only[wZ,hz];omega))
      |refine t_ ?_
      |refine cq3 hwk qj qj qj ?_
      |apply Gr.iaQ G10;omega;exact wd_
      |apply qo;omega;exact wd_
      |apply qX (hg:=G10);(focus(first|rfl|(simp -implicitDefEqProofs only[wM];done)));(focus(first|exact qc.sl|exact qc.asl|exact qc.gr G10|exact qc.str));exact wf_;(focus(unfold maxLen;first|omega|(simp only[wZ]<;>omega)))
      |apply qW;(focus(first|exact qc.sl|exact qc.asl|exact qc.gr G10|exact qc.str));exact wf_;(focus(unfold maxLen;first|omega|(simp only[wZ]<;>omega)))
      |(refine qI ?_;simp -implicitDefEqProofs only[wM,wN,seval,g1,g2,g3,g4,g9,g10,g11,o0,Gr.dropO G10 o0,hz,hzl];apply za;(focus(first|exact qc.sl|exact qc.asl|exact qc.gr G10|exact qc.str));(exact wf_);(focus(unfold maxLen;first|omega|(simp only[wZ]<;>omega))))
      |apply qB;(focus(first|omega|(simp only[wZ]<;>omega)))
      |apply qf;exact wu_;exact wu_;(focus((try simp -implicitDefEqProofs only[wE,Nat.reduceAdd]);rfl))
      |apply qg;exact wd_;exact wu_
      |apply qh;exact wu_
      |apply zf (hp:=zL ?_ ?_);(focus(first|exact zh|exact qj|exact zS|exact zF|exact G10.er rfl));rotate_left;exact wf_;exact wf_
      |apply zu (hp:=zN ?_ ?_ ?_);(focus(first|exact zh|exact qj|exact zS|exact zF|exact G10.er rfl));(focus(first|exact zh|exact qj|exact zS|exact zF|exact G10.er rfl));(focus(first|exact zh|exact qj|exact zS|exact zF|exact G10.er rfl));rotate_left;exact wf_;exact wf_;exact wf_
      |simp -implicitDefEqProofs (disch:=omega) only[w64,if_neg]
     all_goals exact⟨wg_,i+1,o_,trivial,trivial,trivial,trivial,trivial,trivial,⟨_,rfl,by rw[hst];exact Gr.tok (id:=s.next+4+30+3) (fin:=U.length+1) hh_ wg_⟩,rfl,o_⟩
   · rw[decide_eq_false hc,if_neg (by simp),List.append_nil]at hst
     repeat' with_reducible first
      |refine s_ ?_
      |refine s_ ?_
      |refine s_ ?_
      |simp -implicitDefEqProofs only[wS,wT,wU,wV,wW,wX,wY,wC,wF,wG,wL,wM,wN,seval,Int.cast_ofNat_Int,Int.reduceLT,Int.reduceLE,Int.reduceEq,Int.reduceToNat,decide_true,decide_false,Bool.false_eq_true,g1,g2,g3,g4,g9,g10,g11,o0,Gr.dropO G10 o0,hz,hzl,G10.len]
      |(refine qa (fun h h_=>?_) (fun h h_=>?_)<;>(try simp only[wD,reduceCtorEq]at h_)<;>(try(exfalso;first|omega|exact absurd (Eq.trans (Eq.symm h_) (by assumption):false=true) (by decide)|exact absurd (Eq.trans (Eq.symm h_) (by assumption):true=false) (by decide)|(refine absurd ?_ h_;focus assumption)|(refine absurd h_ ?_;focus assumption)))<;>(try simp only[h]))
      |((first|refine zk (fun h=>?_) (fun h=>?_)|refine zl (fun h=>?_) (fun h=>?_))<;>have h_:=h<;>(try simp only[wD,reduceCtorEq]at h_)<;>(try(exfalso;first|omega|exact absurd (Eq.trans (Eq.symm h_) (by assumption):false=true) (by decide)|exact absurd (Eq.trans (Eq.symm h_) (by assumption):true=false) (by decide)|(refine absurd ?_ h_;focus assumption)|(refine absurd h_ ?_;focus assumption)))<;>(try simp only[h]))
      |refine t_ ?_
      |refine cq3 hwk qj qj qj ?_
      |apply Gr.iaQ G10;omega;exact wd_
      |apply qo;omega;exact wd_
      |apply qX (hg:=G10);(focus(first|rfl|(simp -implicitDefEqProofs only[wM];done)));(focus(first|exact qc.sl|exact qc.asl|exact qc.gr G10|exact qc.str));exact wf_;(focus(unfold maxLen;first|omega|(simp only[wZ]<;>omega)))
      |apply qW;(focus(first|exact qc.sl|exact qc.asl|exact qc.gr G10|exact qc.str));exact wf_;(focus(unfold maxLen;first|omega|(simp only[wZ]<;>omega)))
      |(refine qI ?_;simp -implicitDefEqProofs only[wM,wN,seval,g1,g2,g3,g4,g9,g10,g11,o0,Gr.dropO G10 o0,hz,hzl];apply za;(focus(first|exact qc.sl|exact qc.asl|exact qc.gr G10|exact qc.str));(exact wf_);(focus(unfold maxLen;first|omega|(simp only[wZ]<;>omega))))
      |apply qB;(focus(first|omega|(simp only[wZ]<;>omega)))
      |apply qf;exact wu_;exact wu_;(focus((try simp -implicitDefEqProofs only[wE,Nat.reduceAdd]);rfl))
      |apply qg;exact wd_;exact wu_
      |apply qh;exact wu_
      |apply zf (hp:=zL ?_ ?_);(focus(first|exact zh|exact qj|exact zS|exact zF|exact G10.er rfl));rotate_left;exact wf_;exact wf_
      |apply zu (hp:=zN ?_ ?_ ?_);(focus(first|exact zh|exact qj|exact zS|exact zF|exact G10.er rfl));(focus(first|exact zh|exact qj|exact zS|exact zF|exact G10.er rfl));(focus(first|exact zh|exact qj|exact zS|exact zF|exact G10.er rfl));rotate_left;exact wf_;exact wf_;exact wf_
      |simp -implicitDefEqProofs (disch:=omega) only[w64,if_neg]
     all_goals exact⟨wg_,i+1,o_,trivial,trivial,trivial,trivial,trivial,trivial,⟨_,rfl,by rw[hst];exact G10.mono wg_ (fun _ _ _=>rfl)⟩,rfl,o_⟩
 · have e:i=T.length:=o_
   subst e
   repeat' with_reducible first
    |refine s_ ?_
    |refine s_ ?_
    |refine s_ ?_
    |simp -implicitDefEqProofs only[wS,wT,wU,wV,wW,wX,wY,wC,wF,wG,wL,wM,wN,seval,Int.cast_ofNat_Int,Int.reduceLT,Int.reduceLE,Int.reduceEq,Int.reduceToNat,decide_true,decide_false,Bool.false_eq_true,g1,g2,g3,g4,g9,g10,g11,o0,Gr.dropO G10 o0,hz,G10.len]
    |(refine qa (fun h h_=>?_) (fun h h_=>?_)<;>(try simp only[wD,reduceCtorEq]at h_)<;>(try(exfalso;first|omega|exact absurd (Eq.trans (Eq.symm h_) (by assumption):false=true) (by decide)|exact absurd (Eq.trans (Eq.symm h_) (by assumption):true=false) (by decide)|(refine absurd ?_ h_;focus assumption)|(refine absurd h_ ?_;focus assumption)))<;>(try simp only[h]))
    |((first|refine zk (fun h=>?_) (fun h=>?_)|refine zl (fun h=>?_) (fun h=>?_))<;>have h_:=h<;>(try simp only[wD,reduceCtorEq]at h_)<;>(try(exfalso;first|omega|exact absurd (Eq.trans (Eq.symm h_) (by assumption):false=true) (by decide)|exact absurd (Eq.trans (Eq.symm h_) (by assumption):true=false) (by decide)|(refine absurd ?_ h_;focus assumption)|(refine absurd h_ ?_;focus assumption)))<;>(try simp only[h]))
    |refine t_ ?_
    |apply Gr.iaQ G10;omega;exact wd_
    |apply qo;omega;exact wd_
    |apply qX (hg:=G10);(focus(first|rfl|(simp -implicitDefEqProofs only[wM];done)));(focus(first|exact qc.sl|exact qc.asl|exact qc.gr G10|exact qc.str));exact wf_;(focus(unfold maxLen;first|omega|(simp only[wZ]<;>omega)))
    |apply qW;(focus(first|exact qc.sl|exact qc.asl|exact qc.gr G10|exact qc.str));exact wf_;(focus(unfold maxLen;first|omega|(simp only[wZ]<;>omega)))
    |(refine qI ?_;simp -implicitDefEqProofs only[wM,wN,seval,g1,g2,g3,g4,g9,g10,g11,o0,Gr.dropO G10 o0,hz];apply za;(focus(first|exact qc.sl|exact qc.asl|exact qc.gr G10|exact qc.str));(exact wf_);(focus(unfold maxLen;first|omega|(simp only[wZ]<;>omega))))
    |apply qB;(focus(first|omega|(simp only[wZ]<;>omega)))
    |apply qf;exact wu_;exact wu_;(focus((try simp -implicitDefEqProofs only[wE,Nat.reduceAdd]);rfl))
    |apply qg;exact wd_;exact wu_
    |apply qh;exact wu_
    |apply zf (hp:=zL ?_ ?_);(focus(first|exact zh|exact qj|exact zS|exact zF|exact G10.er rfl));rotate_left;exact wf_;exact wf_
    |apply zu (hp:=zN ?_ ?_ ?_);(focus(first|exact zh|exact qj|exact zS|exact zF|exact G10.er rfl));(focus(first|exact zh|exact qj|exact zS|exact zF|exact G10.er rfl));(focus(first|exact zh|exact qj|exact zS|exact zF|exact G10.er rfl));rotate_left;exact wf_;exact wf_;exact wf_
    |simp -implicitDefEqProofs (disch:=omega) only[w64,if_neg]
   all_goals refine qF rfl (Or.inr rfl) ?_
   all_goals(try simp -implicitDefEqProofs only[wL,seval,g1,g2,g3,g4,g9,g10,g11])
   all_goals(first|refine er_ ?_ |refine G10.er ?_)
   all_goals(try(with_reducible rfl))

theorem Jd {m:List Sta} {B:Nat} (hq: ∀q∈m,q.mov.length≤B): ∀n,(xh m n).length≤n *B
 |0=>Nat.zero_le _
 | n+1=>by
   rw[yT,List.length_append]
   have:=Jd hq n
   have h1:=List.length_filterMap_le (trF n) (qbE m n)
   have h2:(qbE m n).length≤B:=by
    unfold qbE
    cases h:m[n]? with
    |none=>simp
    |some q=>exact hq q (List.mem_of_getElem? h)
   rw[Nat.add_mul,Nat.one_mul]
   omega
theorem MOk.trans_len {g:Grammar} {m:List Sta} (h:MOk g m):(jb m).length≤9600:=by
 have h1:=Jd h.mvl m.length
 have e:jb m=xh m m.length:=rfl
 have h2:=h.len
 have h3:m.length *64≤150 *64:=Nat.mul_le_mul_right _ h2
 rw[e];omega
theorem YW {α β:Type} (P:β→Prop) (f:β→α→β): ∀(l:List α) (b:β),P b→(∀b a,a∈l→P b→P (f b a))→P (l.foldl f b)
 |[],b,h,_=>h
 |a::l,b,h,hf=>YW P f l (f b a) (hf b a List.mem_cons_self h) fun b x hx=>hf b x (List.mem_cons_of_mem _ hx)
theorem qa1 {α:Type} {L:List α} {i:Nat} {l:α} (f:α→α) (h:L[i]?=some l):L.modify i f=L.set i (f l):=by
 refine List.ext_getElem? fun j=>?_
 rw[List.getElem?_modify,List.getElem?_set]
 have hi:=(List.getElem?_eq_some_iff.1 h).1
 by_cases e:i=j
 · subst e;rw[if_pos rfl,if_pos hi,h];simp
 · rw[if_neg e];simp[e]
theorem XM {α β:Type} (f:β→α→β) (b:β) {l:List α} {i:Nat} {x:α} (h:l[i]?=some x):(l.take (i+1)).foldl f b=f ((l.take i).foldl f b) x:=by
 rw[List.take_add_one,h,List.foldl_append];rfl
theorem Gr.ne {H:Nat→Option MObj} {next z D:Nat} {es:List V} {v:V} (h:Gr H next z es v) {sz:Nat} {l:List V} {ro:Bool} (ho:H D=some (.own sz l ro)) {x:Nat} (hx:gid v=some x):x≠D:=by
 rcases h with rfl|⟨id,fin,rfl,h1,_⟩
 · cases hx
 · cases hx;intro e;rw[e,ho]at h1;cases h1

theorem qcG {g:Grammar} {l:List Int} {s:Int} (hg:GOk g) (hx: ∀x∈l,ZT g x) (hr:kK l):kK (XB g l s)∧ ∀x∈XB g l s,ZT g x:=by
 obtain ⟨_,hok,_⟩:=JR hg hx hr
 unfold XB
 refine YW (fun o=>kK o∧ ∀x∈o,ZT g x) _ _ _ ⟨List.Pairwise.nil,fun x h=>by cases h⟩ fun b a ha hb=>?_
 split
 · rename_i hc
   refine⟨kg hb.1,fun x hx=>(jO.1 hx).elim (hb.2 x) fun e=>?_⟩
   subst e
   have h1:=hok a ha
   obtain ⟨m,d,p,hm,hd,hp,hdl,hn⟩:=h1.nat
   have hlt:d<p.right.length:=by
    refine Classical.byContradiction fun h=>?_
    rw[List.getElem?_eq_none o_]at hn
    rw[hn]at hc
    have:=hc.1
    simp at this
   have h2:=qbZ hg.rlen h1
   have h0:=h1.1
   refine⟨o_,p,?_,?_⟩
   · rw[show ((a+1) / 16).toNat=m by omega];exact hp
   · rw[show ((a+1) % 16).toNat=d+1 by omega];exact hlt
 · exact hb
theorem Zo {k:List Int}: ∀(m:List Sta) (n:Nat),Zc k m n= -1∨ ∃i:Nat,Zc k m n=((n+i:Nat):Int)∧ ∃q,m[i]?=some q∧q.ker=k
 |[],_=>Or.inl rfl
 | p ::m,n=>by
   unfold Zc
   split
   · rename_i e;exact Or.inr ⟨0,by simp,p,rfl,e⟩
   · rcases Zo m (n+1)with h|⟨i,h1,h2⟩
     · exact Or.inl h
     · exact Or.inr ⟨i+1,by rw[h1];omega,by simpa using h2⟩
theorem Jy {k:List Int} (m:List Sta):Zv m k= -1∨ ∃i:Nat,Zv m k=(i:Int)∧ ∃q,m[i]?=some q∧q.ker=k:=by
 rcases Zo (k:=k) m 0 with h|⟨i,h1,h2⟩
 · exact Or.inl h
 · exact Or.inr ⟨i,by unfold Zv;rw[h1];omega,h2⟩
theorem Vg {g:Grammar} (hg:GOk g):(jK g).length≤64:=by
 have:=hg.tk2;have:=hg.nn2
 unfold jK
 simp;omega
theorem VF {g:Grammar}: ∀s∈jK g,kX g.toks.length g.nons.length s:=by
 intro s hs
 unfold jK at hs
 rw[List.mem_append,List.mem_map,List.mem_map]at hs
 rcases hs with ⟨i,hi,rfl⟩|⟨i,hi,rfl⟩
 · exact Or.inl ⟨i,rfl,List.mem_range.1 hi⟩
 · exact Or.inr ⟨i,rfl,List.mem_range.1 hi⟩
structure AutI (g:Grammar) (m:List Sta) (i k:Nat):Prop where
 len:m.length≤150
 mvl: ∀j q,m[j]?=some q→q.mov.length≤(if j<i then 64 else if j=i then k else 0)
 mv: ∀q∈m,∀p∈q.mov,kX g.toks.length g.nons.length p.1∧ ∃t:Nat,p.2=t∧t<m.length
 kr: ∀q∈m,kK q.ker
 ki: ∀q∈m,∀x∈q.ker,ZT g x
theorem AutI.kl {g:Grammar} {m:List Sta} {i k:Nat} (h:AutI g m i k) (hpl:g.prods.length≤60): ∀q∈m,q.ker.length≤960:=fun q hq=>
 kT (a:=0) (h.kr q hq) fun x hx=>by
  obtain ⟨h0,p,hp,_⟩:=h.ki q hq x hx
  have:=(List.getElem?_eq_some_iff.1 hp).1
  omega
theorem AutI.next {g:Grammar} {m:List Sta} {i k:Nat} (h:AutI g m i k) (hk:k≤64):AutI g m (i+1) 0:=by
 refine⟨h.len,fun j q hq=>?_,h.mv,h.kr,h.ki⟩
 have:=h.mvl j q hq
 split at this
 · rw[if_pos o_];omega
 · split at this
   · rw[if_pos o_];omega
   · split
     · omega
     · split<;>omega
theorem AutI.skip {g:Grammar} {m:List Sta} {i k:Nat} (h:AutI g m i k):AutI g m i (k+1):=by
 refine⟨h.len,fun j q hq=>?_,h.mv,h.kr,h.ki⟩
 have:=h.mvl j q hq
 split at this
 · rename_i e;rw[if_pos e];omega
 · rename_i e
   rw[if_neg e]
   split at this
   · rename_i e2;rw[if_pos e2];omega
   · rename_i e2;rw[if_neg e2];omega
theorem AutI.snoc {g:Grammar} {m:List Sta} {i k:Nat} (h:AutI g m i k) (hi:i<m.length) (hl:m.length<150) {o:List Int} (hr:kK o) (ho: ∀x∈o,ZT g x):AutI g (m++[⟨o,[]⟩]) i k:=by
 refine⟨by simp;omega,fun j q hq=>?_,fun q hq p hp=>?_,fun q hq=>?_,fun q hq=>?_⟩
 · by_cases e:j<m.length
   · rw[List.getElem?_append_left e]at hq;exact h.mvl j q hq
   · have:j=m.length:=by
      have:=(List.getElem?_eq_some_iff.1 hq).1
      simp at this;omega
     subst this
     rw[List.getElem?_append_right (Nat.le_refl _),Nat.sub_self]at hq
     cases hq
     exact Nat.zero_le _
 · rw[List.mem_append,List.mem_singleton]at hq
   rcases hq with hq|rfl
   · obtain ⟨h1,t,h2,h3⟩:=h.mv q hq p hp
     exact⟨h1,t,h2,by simp;omega⟩
   · cases hp
 · rw[List.mem_append,List.mem_singleton]at hq
   rcases hq with hq|rfl
   · exact h.kr q hq
   · exact hr
 · rw[List.mem_append,List.mem_singleton]at hq
   rcases hq with hq|rfl
   · exact h.ki q hq
   · exact ho
theorem jD {m:List Sta} {i:Nat} {s t:Int} {q:Sta} (h:m[i]?=some q):xY m i s t=m.set i {q with mov:=q.mov++[(s,t)]}:=qa1 _ h
theorem AutI.add {g:Grammar} {m:List Sta} {i k t:Nat} {s:Int} (h:AutI g m i k) {q:Sta} (hq:m[i]?=some q) (hs:kX g.toks.length g.nons.length s) (ht:t<m.length):AutI g (xY m i s t) i (k+1):=by
 rw[jD hq]
 have hqm:=List.mem_of_getElem? hq
 refine⟨by rw[List.length_set];exact h.len,fun j x hx=>?_,fun x hx p hp=>?_,fun x hx=>?_,fun x hx=>?_⟩
 · rw[List.getElem?_set]at hx
   have hi:=(List.getElem?_eq_some_iff.1 hq).1
   by_cases e:i=j
   · subst e
     rw[if_pos rfl,if_pos hi]at hx
     cases hx
     have:=h.mvl i q hq
     rw[if_neg o_,if_pos rfl]at this ⊢
     simp;omega
   · rw[if_neg e]at hx
     have:=h.mvl j x hx
     split at this
     · rename_i e1;rw[if_pos e1];omega
     · rename_i e1;rw[if_neg e1];rw[if_neg o_]at this ⊢;exact this
 · rw[List.length_set]
   rcases List.mem_or_eq_of_mem_set hx with hx|rfl
   · exact h.mv x hx p hp
   · rw[List.mem_append,List.mem_singleton]at hp
     rcases hp with hp|rfl
     · exact h.mv q hqm p hp
     · exact⟨hs,t,rfl,ht⟩
 · rcases List.mem_or_eq_of_mem_set hx with hx|rfl
   · exact h.kr x hx
   · exact h.kr q hqm
 · rcases List.mem_or_eq_of_mem_set hx with hx|rfl
   · exact h.ki x hx
   · exact h.ki q hqm
theorem AutI.mok {g:Grammar} {m:List Sta} {i:Nat} (h:AutI g m i 0) (hi:m.length≤i):MOk g m:=
 ⟨h.len,fun q hq=>by
  obtain ⟨j,hj,rfl⟩:=List.getElem_of_mem hq
  have:=h.mvl j _ (ge_ hj)
  rw[if_pos o_]at this;exact this,h.mv,h.kr,h.ki⟩
theorem qhA {g:Grammar} (hg:GOk g):AutI g [⟨[0],[]⟩] 0 0:=by
 refine⟨by simp,fun j q hq=>?_,fun q hq p hp=>?_,fun q hq=>?_,fun q hq x hx=>?_⟩
 · cases j with
   |zero=>simp at hq;subst hq;simp
   |succ j=>simp at hq
 · rw[List.mem_singleton]at hq;subst hq;cases hp
 · rw[List.mem_singleton]at hq;subst hq;exact List.pairwise_singleton _ _
 · rw[List.mem_singleton]at hq;subst hq
   rw[List.mem_singleton]at hx;subst hx
   have h1:=hg.pl
   exact⟨Int.le_refl _,g.prods[0],by simp,Nat.zero_le _⟩

abbrev RMv (q:Sta):Prop:=(q.mov.map (·.1)).Pairwise (· < ·)
def RI (m:List Sta) (i:Nat) (B:Int):Prop:= ∀(j:Nat) q,m[j]?=some q→RMv q∧(j=i→ ∀p∈q.mov,p.1<B)∧(i<j→q.mov=[])
theorem RI.mono {m:List Sta} {i:Nat} {B C:Int} (h:RI m i B) (hB:B≤C):RI m i C:=fun j q hq=>by
 obtain ⟨h1,h2,h3⟩:=h j q hq
 exact⟨h1,fun e p hp=>Int.lt_of_lt_of_le (h2 e p hp) hB,h3⟩
theorem RI.push {m:List Sta} {i:Nat} {B:Int} (h:RI m i B) (k:List Int):RI (m++[⟨k,[]⟩]) i B:=fun j q hq=>by
 by_cases hj:j<m.length
 · rw[List.getElem?_append_left hj]at hq;exact h j q hq
 · have hlt:=(List.getElem?_eq_some_iff.1 hq).1
   rw[List.length_append,List.length_singleton]at hlt
   have e:j=m.length:=o_
   subst e
   rw[List.getElem?_append_right (Nat.le_refl _),Nat.sub_self]at hq
   cases hq
   exact⟨List.Pairwise.nil,fun _ p hp=>(by cases hp),fun _=>rfl⟩
theorem RI.add {m:List Sta} {i:Nat} {B s t:Int} (h:RI m i B) (hs:B≤s):RI (xY m i s t) i (s+1):=fun j q hq=>by
 unfold xY at hq
 rw[List.getElem?_modify]at hq
 cases hm:m[j]? with
 |none=>rw[hm]at hq;cases hq
 | some q0=>
   rw[hm]at hq
   obtain ⟨h1,h2,h3⟩:=h j q0 hm
   by_cases e:i=j
   · subst e
     simp only[if_true,Option.map_eq_map,Option.map_some,Option.some.injEq]at hq
     subst hq
     refine⟨?_,fun _ p hp=>?_,fun hlt=>absurd hlt (Nat.lt_irrefl _)⟩
     · show ((q0.mov++[(s,t)]).map (·.1)).Pairwise (· < ·)
       rw[List.map_append,List.pairwise_append]
       refine⟨h1,by simp,fun a ha b hb=>?_⟩
       obtain ⟨p,hp,rfl⟩:=List.mem_map.1 ha
       simp at hb;subst hb
       have:=h2 rfl p hp
       omega
     · rcases List.mem_append.1 hp with hp|hp
       · have:=h2 rfl p hp;omega
       · simp at hp;subst hp;show s<s+1;omega
   · simp only[if_neg e,Option.map_eq_map,Option.map_some,Option.some.injEq]at hq
     subst hq
     exact⟨h1,fun e'=>absurd e'.symm e,h3⟩
theorem RI.step {g:Grammar} {aft:List Int} {m m':List Sta} {i:Nat} {B s:Int} (h:RI m i B) (hs:B≤s) (he:vE g i aft (some m) s=some m'):RI m' i (s+1):=by
 unfold vE at he
 simp only[Option.bind_some]at he
 split at he
 · split at he
   · split at he
     · cases he
     · cases he;exact(h.push _).add hs
   · cases he;exact h.add hs
 · cases he;exact h.mono o_
theorem qaz (g:Grammar) (i:Nat) (a:List Int): ∀l:List Int,l.foldl (vE g i a) none=none
 |[]=>rfl
 |s::l=>by rw[List.foldl_cons];exact qaz g i a l
theorem RI.fold {g:Grammar} {aft:List Int} {i:Nat}: ∀(l:List Int) {m m':List Sta} {B:Int},RI m i B→l.Pairwise (· < ·)→(∀x∈l,B≤x)→l.foldl (vE g i aft) (some m)=some m'→ ∃C,RI m' i C
 |[],m,m',B,h,_,_,e=>by cases e;exact⟨B,h⟩
 | s ::l,m,m',B,h,hp,hb,e=>by
   rw[List.foldl_cons]at e
   cases hs:vE g i aft (some m) s with
   |none=>rw[hs,qaz]at e;cases e
   | some m1=>
     rw[hs]at e
     have h1:=h.step (hb s (by simp)) hs
     rw[List.pairwise_cons]at hp
     exact RI.fold l h1 hp.2 (fun x hx=>by have:=hp.1 x hx;omega) e
theorem XA {g:Grammar} (hg:GOk g):(jK g).Pairwise (· < ·)∧ ∀x∈jK g,0≤x:=by
 have htk:=hg.tk2
 have key: ∀(n:Nat) (f:Nat→Int),(∀a b,a<b→f a<f b)→((List.range n).map f).Pairwise (· < ·):=fun n f hf=>by
  rw[List.pairwise_map]
  exact List.pairwise_lt_range.imp fun h=>hf _ _ h
 refine⟨?_,fun x hx=>?_⟩
 · unfold jK
   rw[List.pairwise_append]
   refine⟨key _ _ fun a b h=>by omega,key _ _ fun a b h=>by omega,fun a ha b hb=>?_⟩
   obtain ⟨i,hi,rfl⟩:=List.mem_map.1 ha
   obtain ⟨j,hj,rfl⟩:=List.mem_map.1 hb
   rw[List.mem_range]at hi
   omega
 · unfold jK at hx
   rcases List.mem_append.1 hx with hx|hx<;>obtain ⟨i,hi,rfl⟩:=List.mem_map.1 hx<;>omega
theorem XI {g:Grammar} (hg:GOk g): ∀(n:Nat) {m m':List Sta} {i:Nat},(∀(j:Nat) q,m[j]?=some q→RMv q∧(i≤j→q.mov=[]))→Xn g n m i=some m'→ ∀q∈m',RMv q
 | 0,m,m',i,h,e=>by
   cases e
   intro q hq
   obtain ⟨j,hj⟩:=List.getElem?_of_mem hq
   exact(h j q hj).1
 | n +1,m,m',i,h,e=>by
   unfold Xn at e
   split at e
   · obtain ⟨m1,e1,e2⟩:=Option.bind_eq_some_iff.1 e
     have h0:RI m i 0:=fun j q hq=>by
      obtain ⟨h1,h2⟩:=h j q hq
      exact⟨h1,(fun e p hp=>by rw[h2 o_]at hp;cases hp),fun hlt=>h2 o_⟩
     obtain ⟨C,hC⟩:=RI.fold _ h0 (XA hg).1 (XA hg).2 e1
     exact XI hg n (fun j q hq=>by obtain ⟨h1,_,h3⟩:=hC j q hq;exact⟨h1,fun hj=>h3 o_⟩) e2
   · cases e
     intro q hq
     obtain ⟨j,hj⟩:=List.getElem?_of_mem hq
     exact(h j q hj).1
theorem qbp {g:Grammar} (hg:GOk g) {m:List Sta} (h:YI g=some m): ∀q∈m,RMv q:=by
 refine XI hg 151 (i:=0) (fun j q hq=>?_) h
 cases j with
 |zero=>cases hq;exact⟨List.Pairwise.nil,fun _=>rfl⟩
 |succ j=>simp at hq
def qBK (a b:Int×Int):Prop:=a.1<b.1∨(a.1=b.1∧a.2<b.2)
theorem qdU {m:List Sta} (h: ∀q∈m,RMv q):(jb m).Pairwise qBK:=by
 unfold jb
 rw[List.pairwise_flatMap]
 refine⟨fun i _=>?_,?_⟩
 · rw [List.pairwise_filterMap]
   have:((((m[i]?).map (·.mov)).getD []).map (·.1)).Pairwise (· < ·):=by
    cases hq:m[i]? with
    |none=>exact List.Pairwise.nil
    |some x=>exact h x (List.mem_of_getElem? hq)
   rw[List.pairwise_map]at this
   refine this.imp fun {a b} hab x hx y hy=>?_
   split at hx
   · split at hy
     · simp only[Option.some.injEq]at hx hy
       subst hx hy
       exact Or.inr ⟨rfl,hab⟩
     · cases hy
   · cases hx
 · refine List.pairwise_lt_range.imp fun {a b} hab x hx y hy=>?_
   obtain ⟨p,_,hp⟩:=List.mem_filterMap.1 hx
   obtain ⟨q,_,hq⟩:=List.mem_filterMap.1 hy
   split at hp
   · split at hq
     · simp only[Option.some.injEq]at hp hq
       subst hp hq
       exact Or.inl (by show (a:Int)<b;omega)
     · cases hq
   · cases hp
theorem qty {T:List (Int×Int)} (hT:T.Pairwise qBK) {i j:Nat} {a:Int×Int} (hi:T[i]?=some a) (hj:T[j]?=some a):i=j:=by
 obtain ⟨li,ei⟩:=List.getElem?_eq_some_iff.1 hi
 obtain ⟨lj,ej⟩:=List.getElem?_eq_some_iff.1 hj
 rcases Nat.lt_trichotomy i j with h1|h1|h1
 · have:=List.pairwise_iff_getElem.1 hT i j li lj h1
   rw[ei,ej]at this;unfold qBK at this;omega
 · exact h1
 · have:=List.pairwise_iff_getElem.1 hT j i lj li h1
   rw[ei,ej]at this;unfold qBK at this;omega
def qul (T:List (Int×Int)) (n:Nat):List (Int×Int×Int):=(List.range n).map fun i=>((T.getD i (0,0)).1,(T.getD i (0,0)).2,(i:Int))
theorem qdE {T:List (Int×Int)} {n:Nat} {a b:Int} (h:T[n]?=some (a,b)):qul T (n+1)=qul T n++[(a,b,(n:Int))]:=by
 unfold qul
 rw[List.range_succ,List.map_append]
 simp only[List.map_cons,List.map_nil,List.getD,h,Option.getD_some]
theorem qe4 {T:List (Int×Int)} (hT:T.Pairwise qBK) {n:Nat} {a b:Int} (h:T[n]?=some (a,b)): ∀e∈qul T n,¬ (e.1=a∧e.2.1=b):=by
 intro e he hc
 unfold qul at he
 obtain ⟨i,hi,rfl⟩:=List.mem_map.1 he
 rw[List.mem_range]at hi
 have hn:=(List.getElem?_eq_some_iff.1 h).1
 have hg:T[i]?=some T[i]:=ge_ o_
 simp only[List.getD,hg,Option.getD_some]at hc
 have e2:T[i]=(a,b):=by rw[← hc.1,← hc.2]
 rw[e2]at hg
 have:=qty hT hg h
 omega
theorem qdm {g:Grammar} {m:List Sta} (h:MOk g m) (q s:Int):goS m q s= -1∨ ∃r:Nat,goS m q s=r∧r<m.length:=by
 unfold goS
 split
 · exact Or.inl rfl
 · split
   · rename_i x hx
     rcases qbN x.mov s with e|e
     · exact Or.inl e
     · exact Or.inr (h.mv x (List.mem_of_getElem? hx) _ e).2
   · exact Or.inl rfl
end Go.Proofs
