/- Part of a proof that a law of the given program answers true. -/
import Derived.Test.YtkcegflhobejmaaGreatDoorBZA
set_option maxRecDepth 20000
set_option linter.unusedSimpArgs false
set_option linter.unusedVariables false
set_option maxHeartbeats 4000000
namespace Go.Proofs
open Go.E
theorem qei {α β:Type} (f:β→α→β) (b:β) {l:List α} {i:Nat} {x:α} (h:l[i]?=some x):(l.take (i+1)).foldl f b=f ((l.take i).foldl f b) x:=by
 rw[List.take_add_one,h,List.foldl_append];rfl
theorem JR {g:Grammar} {l:List Int} (hg:GOk g) (hx: ∀x∈l,ZT g x) (hr:kK l):IsCl g l (yt g l)∧(∀x∈yt g l,ZT g x)∧(yt g l).length≤960:=by
 have h:=Y5 hg.pl2 hg.rlen hx hr
 refine⟨h,h.ok hx,?_⟩
 exact ClM.len ⟨h.rise,h.clo.1,h.least,h.ok hx⟩ hg.pl2
theorem qbZ {g:Grammar} {x:Int} (hrl: ∀p∈g.prods,p.right.length≤8) (h:ZT g x):(x+1) / 16=x / 16∧(x+1) % 16=x % 16+1∧0≤x % 16∧x % 16≤8:=by
 obtain ⟨h0,p,hp,hd⟩:=h
 have:=hrl p (List.mem_of_getElem? hp)
 omega
theorem qP {g:Grammar} {l:List Int} {sy:Int} (hx: ∀x∈l,ZT g x) (hr:kK l) (hl:l.length≤1000000) (hg:GOk g):Pure Tryz.prog 86 [g.V,.sl 2 false (l.map itV),vi sy] (.sl 2 false ((XB g l sy).map itV)):=by
 refine pure_intro Tryz.func86 nm_ qht (by show 3≤48;decide) ?_
 show ewp _ qgJ _ _
 have hcl:=qC hx hr hl hg
 obtain ⟨hI,hok,hcb⟩:=JR hg hx hr
 have hdef:XB g l sy=(yt g l).foldl (fun o x=>if 0≤nxt g x∧nxt g x=sy then vF o (x+1)else o) []:=rfl
 rw[hdef]
 generalize yt g l=cl at *
 repeat' with_reducible first
  |refine s_ ?_
  |refine s_ ?_
  |refine s_ ?_
  |simp -implicitDefEqProofs only[wS,wT,wU,wV,wW,wX,wY,wC,wF,wG,wL,wM,wN,seval,Int.cast_ofNat_Int,Int.reduceLT,Int.reduceLE,Int.reduceEq,Int.reduceToNat,decide_true,decide_false,Bool.false_eq_true]
  |(refine qa (fun h h_=>?_) (fun h h_=>?_)<;>(try simp only[wD,reduceCtorEq]at h_)<;>(try(exfalso;first|omega|exact absurd (Eq.trans (Eq.symm h_) (by assumption):false=true) (by decide)|exact absurd (Eq.trans (Eq.symm h_) (by assumption):true=false) (by decide)|(refine absurd ?_ h_;focus assumption)|(refine absurd h_ ?_;focus assumption)))<;>(try simp only[h]))
  |((first|refine zk (fun h=>?_) (fun h=>?_)|refine zl (fun h=>?_) (fun h=>?_))<;>have h_:=h<;>(try simp only[wD,reduceCtorEq]at h_)<;>(try(exfalso;first|omega|exact absurd (Eq.trans (Eq.symm h_) (by assumption):false=true) (by decide)|exact absurd (Eq.trans (Eq.symm h_) (by assumption):true=false) (by decide)|(refine absurd ?_ h_;focus assumption)|(refine absurd h_ ?_;focus assumption)))<;>(try simp only[h]))
  |refine cq2 hcl qj qj ?_
  |refine t_ ?_
  |apply qo;omega;exact wd_
  |apply qB;(focus(first|omega|(simp only[wZ]<;>omega)))
  |apply qf;exact wu_;exact wu_;(focus((try simp -implicitDefEqProofs only[wE,Nat.reduceAdd]);rfl))
  |apply qg;exact wd_;exact wu_
  |apply qh;exact wu_
  |refine qA we_ we_ (qC wf_ wf_ wf_ wf_) ?_
  |refine qA we_ we_ (qw wf_ wf_ wf_) ?_
  |refine qA we_ we_ (qD wf_) ?_
  |simp -implicitDefEqProofs (disch:=omega) only[w64,if_neg]
 refine qi ?nx1 (fun(i:Nat) s=>s.f 2=?v1_2∧s.f 3=?v1_3∧s.f 8=?v1_8∧s.H 0=some (.own 5 [g.V] false)∧(∃c,s.f 7=.sl 2 c (((cl.take i).foldl (fun o x=>if 0≤nxt g x∧nxt g x=sy then vF o (x+1)else o) []).map itV))∧s.f 9=vi i∧(i≤cl.length)∧(((cl.take i).foldl (fun o x=>if 0≤nxt g x∧nxt g x=sy then vF o (x+1)else o) []).length≤i)) (fun i=>cl.length - i) (0) wj_ (by refine⟨?_,?_,?_,?_,?_,?_,wo_,wo_⟩<;>first|(simp -implicitDefEqProofs only[wL,wM,wN,wX,seval,Option.some.injEq]<;>exact wt_)|rfl|exact⟨_,rfl⟩) ?_
 intro i s hnx ⟨g2,g3,g8,o0,⟨c7,g7⟩,g9,k1_0,k1_1⟩
 have hz:=w1_ i
 by_cases hi:i<cl.length
 · have hgi:cl[i]?=some cl[i]:=ge_ hi
   have hst:=qei (fun(o:List Int) x=>if 0≤nxt g x∧nxt g x=sy then vF o (x+1)else o) [] hgi
   have hxo:=hok _ (List.getElem_mem hi)
   have hnx:=qw hxo hg.pl2 hg.rlen
   have hbd:=qcm hg hxo
   have hin:=qbZ hg.rlen hxo
   generalize cl[i]=x at *
   generalize (cl.take i).foldl (fun o x=>if 0≤nxt g x∧nxt g x=sy then vF o (x+1)else o) []=o at *
   generalize nxt g x=nx at *
   have hzd:IntKind.i64.wrap (x % 16+1)=x % 16+1:=wrap64 o_ o_
   have hput:=qD (l:=o) (x:=x+1) o_
   have hpl:=qaP o (x+1)
   have hkv:itV (x+1)=.agg [vi (x / 16),vi (x % 16+1)]:=by rw[← hin.1,← hin.2.1]
   rw[hkv]at hput
   by_cases hc:0≤nx∧nx=sy
   · rw[if_pos hc]at hst
     repeat' with_reducible first
      |refine s_ ?_
      |refine s_ ?_
      |refine s_ ?_
      |simp -implicitDefEqProofs only[wS,wT,wU,wV,wW,wX,wY,wC,wF,wG,wL,wM,wN,seval,Int.cast_ofNat_Int,Int.reduceLT,Int.reduceLE,Int.reduceEq,Int.reduceToNat,decide_true,decide_false,Bool.false_eq_true,g2,g3,g8,g7,g9,o0,hz,hzd]
      |(refine qa (fun h h_=>?_) (fun h h_=>?_)<;>(try simp only[wD,reduceCtorEq]at h_)<;>(try(exfalso;first|omega|exact absurd (Eq.trans (Eq.symm h_) (by assumption):false=true) (by decide)|exact absurd (Eq.trans (Eq.symm h_) (by assumption):true=false) (by decide)|(refine absurd ?_ h_;focus assumption)|(refine absurd h_ ?_;focus assumption)))<;>(try simp only[h]))
      |((first|refine zk (fun h=>?_) (fun h=>?_)|refine zl (fun h=>?_) (fun h=>?_))<;>have h_:=h<;>(try simp only[wD,reduceCtorEq]at h_)<;>(try(exfalso;first|omega|exact absurd (Eq.trans (Eq.symm h_) (by assumption):false=true) (by decide)|exact absurd (Eq.trans (Eq.symm h_) (by assumption):true=false) (by decide)|(refine absurd ?_ h_;focus assumption)|(refine absurd h_ ?_;focus assumption)))<;>(try simp only[h]))
      |refine t_ ?_
      |refine cq2 hnx qj qj ?_
      |refine cq2 hput zS qj ?_
      |apply qo;omega;exact wd_
      |apply qB;(focus(first|omega|(simp only[wZ]<;>omega)))
      |apply qf;exact wu_;exact wu_;(focus((try simp -implicitDefEqProofs only[wE,Nat.reduceAdd]);rfl))
      |apply qg;exact wd_;exact wu_
      |apply qh;exact wu_
      |refine qA we_ we_ (qC wf_ wf_ wf_ wf_) ?_
      |refine qA we_ we_ (qw wf_ wf_ wf_) ?_
      |refine qA we_ we_ (qD wf_) ?_
      |simp -implicitDefEqProofs (disch:=omega) only[w64,if_neg]
     refine⟨wk_,i+1,o_,?_⟩
     refine⟨?_,?_,?_,?_,?_,?_,?_,?_⟩
     iterate 6 (focus(first|(simp -implicitDefEqProofs only[wL,wM,wN,wX,seval,Option.some.injEq,g2,g3,g8,g7,g9,o0,hst]<;>exact wt_)|rfl|exact⟨_,rfl⟩))
     all_goals try omega
     rw[hst];omega
   · rw[if_neg hc]at hst
     repeat' with_reducible first
      |refine s_ ?_
      |refine s_ ?_
      |refine s_ ?_
      |simp -implicitDefEqProofs only[wS,wT,wU,wV,wW,wX,wY,wC,wF,wG,wL,wM,wN,seval,Int.cast_ofNat_Int,Int.reduceLT,Int.reduceLE,Int.reduceEq,Int.reduceToNat,decide_true,decide_false,Bool.false_eq_true,g2,g3,g8,g7,g9,o0,hz,hzd]
      |(refine qa (fun h h_=>?_) (fun h h_=>?_)<;>(try simp only[wD,reduceCtorEq]at h_)<;>(try(exfalso;first|omega|exact absurd (Eq.trans (Eq.symm h_) (by assumption):false=true) (by decide)|exact absurd (Eq.trans (Eq.symm h_) (by assumption):true=false) (by decide)|(refine absurd ?_ h_;focus assumption)|(refine absurd h_ ?_;focus assumption)))<;>(try simp only[h]))
      |((first|refine zk (fun h=>?_) (fun h=>?_)|refine zl (fun h=>?_) (fun h=>?_))<;>have h_:=h<;>(try simp only[wD,reduceCtorEq]at h_)<;>(try(exfalso;first|omega|exact absurd (Eq.trans (Eq.symm h_) (by assumption):false=true) (by decide)|exact absurd (Eq.trans (Eq.symm h_) (by assumption):true=false) (by decide)|(refine absurd ?_ h_;focus assumption)|(refine absurd h_ ?_;focus assumption)))<;>(try simp only[h]))
      |refine t_ ?_
      |refine cq2 hnx qj qj ?_
      |apply qo;omega;exact wd_
      |apply qB;(focus(first|omega|(simp only[wZ]<;>omega)))
      |apply qf;exact wu_;exact wu_;(focus((try simp -implicitDefEqProofs only[wE,Nat.reduceAdd]);rfl))
      |apply qg;exact wd_;exact wu_
      |apply qh;exact wu_
      |refine qA we_ we_ (qC wf_ wf_ wf_ wf_) ?_
      |refine qA we_ we_ (qw wf_ wf_ wf_) ?_
      |refine qA we_ we_ (qD wf_) ?_
      |simp -implicitDefEqProofs (disch:=omega) only[w64,if_neg]
     all_goals exact⟨wg_,i+1,o_,trivial,trivial,trivial,trivial,⟨_,by rw[hst]⟩,rfl,o_,by rw[hst];omega⟩
 · have e:cl.take i=cl:=List.take_of_length_le o_
   rw[e]at g7
   repeat' with_reducible first
    |refine s_ ?_
    |refine s_ ?_
    |refine s_ ?_
    |simp -implicitDefEqProofs only[wS,wT,wU,wV,wW,wX,wY,wC,wF,wG,wL,wM,wN,seval,Int.cast_ofNat_Int,Int.reduceLT,Int.reduceLE,Int.reduceEq,Int.reduceToNat,decide_true,decide_false,Bool.false_eq_true,g2,g3,g8,g7,g9,o0,hz]
    |(refine qa (fun h h_=>?_) (fun h h_=>?_)<;>(try simp only[wD,reduceCtorEq]at h_)<;>(try(exfalso;first|omega|exact absurd (Eq.trans (Eq.symm h_) (by assumption):false=true) (by decide)|exact absurd (Eq.trans (Eq.symm h_) (by assumption):true=false) (by decide)|(refine absurd ?_ h_;focus assumption)|(refine absurd h_ ?_;focus assumption)))<;>(try simp only[h]))
    |((first|refine zk (fun h=>?_) (fun h=>?_)|refine zl (fun h=>?_) (fun h=>?_))<;>have h_:=h<;>(try simp only[wD,reduceCtorEq]at h_)<;>(try(exfalso;first|omega|exact absurd (Eq.trans (Eq.symm h_) (by assumption):false=true) (by decide)|exact absurd (Eq.trans (Eq.symm h_) (by assumption):true=false) (by decide)|(refine absurd ?_ h_;focus assumption)|(refine absurd h_ ?_;focus assumption)))<;>(try simp only[h]))
    |refine t_ ?_
    |apply qo;omega;exact wd_
    |apply qB;(focus(first|omega|(simp only[wZ]<;>omega)))
    |apply qf;exact wu_;exact wu_;(focus((try simp -implicitDefEqProofs only[wE,Nat.reduceAdd]);rfl))
    |apply qg;exact wd_;exact wu_
    |apply qh;exact wu_
    |refine qA we_ we_ (qC wf_ wf_ wf_ wf_) ?_
    |refine qA we_ we_ (qw wf_ wf_ wf_) ?_
    |refine qA we_ we_ (qD wf_) ?_
    |simp -implicitDefEqProofs (disch:=omega) only[w64,if_neg]
   all_goals refine qF rfl (Or.inr rfl) ?_
   all_goals(try simp -implicitDefEqProofs only[wL,seval,g2,g3,g8,g7,g9])
   all_goals refine er_ ?_
   all_goals(try(with_reducible rfl))
theorem qG {g:Grammar} (hg:GOk g):Pure Tryz.prog 83 [g.V] (.sl 1 false ((jK g).map (V.int .i64))):=by
 refine pure_intro Tryz.func83 nm_ qf5 (by show 1≤30;decide) ?_
 show ewp _ qfZ _ _
 have htl:=hg.tk2;have hnl:=hg.nn2
 have hdef:jK g=(List.range g.toks.length).map (fun(i:Nat)=>(i:Int))++(List.range g.nons.length).map fun(i:Nat)=>1000+(i:Int):=rfl
 rw[hdef]
 repeat' with_reducible first
  |refine s_ ?_
  |refine s_ ?_
  |simp -implicitDefEqProofs only[wS,wT,wU,wV,wW,wX,wY,wC,wF,wG,wL,wM,wN,seval,Int.cast_ofNat_Int,Int.reduceLT,Int.reduceLE,Int.reduceEq,Int.reduceToNat,decide_true,decide_false,Bool.false_eq_true]
  |(refine qa (fun h h_=>?_) (fun h h_=>?_)<;>(try simp only[wD,reduceCtorEq]at h_)<;>(try(exfalso;first|omega|exact absurd (Eq.trans (Eq.symm h_) (by assumption):false=true) (by decide)|exact absurd (Eq.trans (Eq.symm h_) (by assumption):true=false) (by decide)|(refine absurd ?_ h_;focus assumption)|(refine absurd h_ ?_;focus assumption)))<;>(try simp only[h]))
  |apply qW;(focus(first|exact qc.sl|exact qc.asl|exact qc.str));exact wf_;(focus(unfold maxLen;first|omega|(simp only[wZ]<;>omega)))
  |(refine qI ?_;simp -implicitDefEqProofs only[wM,wN,seval];apply za;(focus(first|exact qc.sl|exact qc.asl|exact qc.str));(exact wf_);(focus(unfold maxLen;first|omega|(simp only[wZ]<;>omega))))
  |refine t_ ?_
  |apply qB;(focus(first|omega|(simp only[wZ]<;>omega)))
  |apply qf;exact wu_;exact wu_;(focus((try simp -implicitDefEqProofs only[wE,Nat.reduceAdd]);rfl))
  |apply qg;exact wd_;exact wu_
  |apply qh;exact wu_
  |simp -implicitDefEqProofs (disch:=omega) only[w64,if_neg]
 refine qi ?nx1 (fun(i:Nat) s=>s.f 1=?v1_1∧s.H 0=some (.own 5 [g.V] false)∧(∃v,s.f 3=v∧Gr s.H s.next 1 (((List.range i).map (fun(i:Nat)=>(i:Int))).map (V.int .i64)) v)∧s.f 4=vi i∧(i≤g.toks.length)) (fun i=>g.toks.length - i) (0) wj_ (by refine⟨?_,?_,?_,?_,wo_⟩<;>first|(simp -implicitDefEqProofs only[wL,wM,wN,wX,seval,Option.some.injEq]<;>exact wt_)|rfl|exact⟨_,rfl⟩) ?_
 intro i s hnx ⟨g1,o0,⟨v3,g3,G3⟩,g4,k1_0⟩
 have hz:=w1_ i
 by_cases hi:i<g.toks.length
 · have hst:(List.range (i+1)).map (fun(i:Nat)=>(i:Int))=(List.range i).map (fun(i:Nat)=>(i:Int))++[(i:Int)]:=by rw[List.range_succ,List.map_append];rfl
   have hlr:((List.range i).map (fun(i:Nat)=>(i:Int))).length=i:=by simp
   repeat' with_reducible first
    |refine s_ ?_
    |refine s_ ?_
    |simp -implicitDefEqProofs only[wS,wT,wU,wV,wW,wX,wY,wC,wF,wG,wL,wM,wN,seval,Int.cast_ofNat_Int,Int.reduceLT,Int.reduceLE,Int.reduceEq,Int.reduceToNat,decide_true,decide_false,Bool.false_eq_true,g1,g3,g4,o0,Gr.dropO G3 o0,hz,G3.len]
    |(refine qa (fun h h_=>?_) (fun h h_=>?_)<;>(try simp only[wD,reduceCtorEq]at h_)<;>(try(exfalso;first|omega|exact absurd (Eq.trans (Eq.symm h_) (by assumption):false=true) (by decide)|exact absurd (Eq.trans (Eq.symm h_) (by assumption):true=false) (by decide)|(refine absurd ?_ h_;focus assumption)|(refine absurd h_ ?_;focus assumption)))<;>(try simp only[h]))
    |apply qX rfl (G3.mono (Nat.le_refl _) (fun id h1 h2=>by(try simp only[wM]);(repeat rw[if_neg o_])));(focus(first|exact qc.sl|exact qc.asl));(focus(simp only[wZ,hlr];omega));(focus(unfold maxLen;simp only[wZ,hlr];omega))
    |apply qX (hg:=G3);(focus(first|rfl|(simp -implicitDefEqProofs only[wM];done)));(focus(first|exact qc.sl|exact qc.asl|exact qc.gr G3|exact qc.str));exact wf_;(focus(unfold maxLen;first|omega|(simp only[wZ]<;>omega)))
    |apply qW;(focus(first|exact qc.sl|exact qc.asl|exact qc.gr G3|exact qc.str));exact wf_;(focus(unfold maxLen;first|omega|(simp only[wZ]<;>omega)))
    |(refine qI ?_;simp -implicitDefEqProofs only[wM,wN,seval,g1,g3,g4,o0,Gr.dropO G3 o0,hz];apply za;(focus(first|exact qc.sl|exact qc.asl|exact qc.gr G3|exact qc.str));(exact wf_);(focus(unfold maxLen;first|omega|(simp only[wZ]<;>omega))))
    |refine t_ ?_
    |apply qB;(focus(first|omega|(simp only[wZ]<;>omega)))
    |apply qf;exact wu_;exact wu_;(focus((try simp -implicitDefEqProofs only[wE,Nat.reduceAdd]);rfl))
    |apply qg;exact wd_;exact wu_
    |apply qh;exact wu_
    |simp -implicitDefEqProofs (disch:=omega) only[w64,if_neg]
   refine⟨wk_,i+1,o_,?_⟩
   refine⟨?_,?_,?_,?_,?_⟩
   iterate 4 (focus(first|(simp -implicitDefEqProofs only[wL,wM,wN,wX,seval,Option.some.injEq,g1,g3,g4,o0,Gr.dropO G3 o0,hst]<;>first|rfl|exact⟨_,rfl⟩|exact⟨_,rfl,by first|assumption|exact Gr.nil|exact Gr.tok rfl o_|exact Gr.tok (by simp -implicitDefEqProofs only[wM,seval]<;>rfl) o_|exact Gr.clip|exact G3.to (by first|rfl|(simp[*];done)) o_ rfl⟩)|rfl|exact⟨_,rfl⟩|exact⟨_,rfl,by first|assumption|exact G3.to (by first|rfl|(simp[*];done)) o_ rfl⟩))
   all_goals try omega
 · have e:i=g.toks.length:=o_
   subst e
   repeat' with_reducible first
    |refine s_ ?_
    |refine s_ ?_
    |simp -implicitDefEqProofs only[wS,wT,wU,wV,wW,wX,wY,wC,wF,wG,wL,wM,wN,seval,Int.cast_ofNat_Int,Int.reduceLT,Int.reduceLE,Int.reduceEq,Int.reduceToNat,decide_true,decide_false,Bool.false_eq_true,g1,g3,g4,o0,Gr.dropO G3 o0,hz,G3.len]
    |(refine qa (fun h h_=>?_) (fun h h_=>?_)<;>(try simp only[wD,reduceCtorEq]at h_)<;>(try(exfalso;first|omega|exact absurd (Eq.trans (Eq.symm h_) (by assumption):false=true) (by decide)|exact absurd (Eq.trans (Eq.symm h_) (by assumption):true=false) (by decide)|(refine absurd ?_ h_;focus assumption)|(refine absurd h_ ?_;focus assumption)))<;>(try simp only[h]))
    |apply qX (hg:=G3);(focus(first|rfl|(simp -implicitDefEqProofs only[wM];done)));(focus(first|exact qc.sl|exact qc.asl|exact qc.gr G3|exact qc.str));exact wf_;(focus(unfold maxLen;first|omega|(simp only[wZ]<;>omega)))
    |apply qW;(focus(first|exact qc.sl|exact qc.asl|exact qc.gr G3|exact qc.str));exact wf_;(focus(unfold maxLen;first|omega|(simp only[wZ]<;>omega)))
    |(refine qI ?_;simp -implicitDefEqProofs only[wM,wN,seval,g1,g3,g4,o0,Gr.dropO G3 o0,hz];apply za;(focus(first|exact qc.sl|exact qc.asl|exact qc.gr G3|exact qc.str));(exact wf_);(focus(unfold maxLen;first|omega|(simp only[wZ]<;>omega))))
    |refine t_ ?_
    |apply qB;(focus(first|omega|(simp only[wZ]<;>omega)))
    |apply qf;exact wu_;exact wu_;(focus((try simp -implicitDefEqProofs only[wE,Nat.reduceAdd]);rfl))
    |apply qg;exact wd_;exact wu_
    |apply qh;exact wu_
    |simp -implicitDefEqProofs (disch:=omega) only[w64,if_neg]
   refine qi ?nx2 (fun(j:Nat) s=>s.f 1=?v2_1∧s.H 0=some (.own 5 [g.V] false)∧(∃v,s.f 3=v∧Gr s.H s.next 1 (((List.range g.toks.length).map (fun(i:Nat)=>(i:Int))++(List.range j).map fun(i:Nat)=>1000+(i:Int)).map (V.int .i64)) v)∧s.f 5=vi j∧(j≤g.nons.length)) (fun j=>g.nons.length - j) (0) wj_ (by refine⟨?_,?_,?_,?_,wo_⟩<;>first|(simp -implicitDefEqProofs only[wL,wM,wN,wX,seval,Option.some.injEq,g1,g3,g4,o0,Gr.dropO G3 o0]<;>first|rfl|exact⟨_,rfl⟩|exact⟨_,rfl,by first|assumption|exact Gr.nil|exact Gr.tok rfl o_|exact Gr.tok (by simp -implicitDefEqProofs only[wM,seval]<;>rfl) o_|exact Gr.clip|exact G3.to (by first|rfl|(simp[*];done)) o_ rfl⟩)|rfl|exact⟨_,rfl⟩|exact⟨_,rfl,by first|assumption|exact G3.to (by first|rfl|(simp[*];done)) o_ rfl⟩) ?_
   intro j s hnx ⟨g1,o0,⟨v3,g3,G3⟩,g5,k2_0⟩
   have hzj:=w1_ j
   have hzk:IntKind.i64.wrap (1000+(j:Int))=1000+(j:Int):=wrap64 o_ o_
   by_cases hj:j<g.nons.length
   · have hst:(List.range g.toks.length).map (fun(i:Nat)=>(i:Int))++(List.range (j+1)).map (fun(i:Nat)=>1000+(i:Int))=((List.range g.toks.length).map (fun(i:Nat)=>(i:Int))++(List.range j).map fun(i:Nat)=>1000+(i:Int))++[1000+(j:Int)]:=by rw[List.range_succ,List.map_append,List.append_assoc];rfl
     have hlr:((List.range g.toks.length).map (fun(i:Nat)=>(i:Int))++(List.range j).map fun(i:Nat)=>1000+(i:Int)).length=g.toks.length+j:=by simp
     repeat' with_reducible first
      |refine s_ ?_
      |refine s_ ?_
      |simp -implicitDefEqProofs only[wS,wT,wU,wV,wW,wX,wY,wC,wF,wG,wL,wM,wN,seval,Int.cast_ofNat_Int,Int.reduceLT,Int.reduceLE,Int.reduceEq,Int.reduceToNat,decide_true,decide_false,Bool.false_eq_true,g1,g3,g5,o0,Gr.dropO G3 o0,hzj,hzk,G3.len]
      |(refine qa (fun h h_=>?_) (fun h h_=>?_)<;>(try simp only[wD,reduceCtorEq]at h_)<;>(try(exfalso;first|omega|exact absurd (Eq.trans (Eq.symm h_) (by assumption):false=true) (by decide)|exact absurd (Eq.trans (Eq.symm h_) (by assumption):true=false) (by decide)|(refine absurd ?_ h_;focus assumption)|(refine absurd h_ ?_;focus assumption)))<;>(try simp only[h]))
      |apply qX rfl (G3.mono (Nat.le_refl _) (fun id h1 h2=>by(try simp only[wM]);(repeat rw[if_neg o_])));(focus(first|exact qc.sl|exact qc.asl));(focus(simp only[wZ,hlr];omega));(focus(unfold maxLen;simp only[wZ,hlr];omega))
      |apply qX (hg:=G3);(focus(first|rfl|(simp -implicitDefEqProofs only[wM];done)));(focus(first|exact qc.sl|exact qc.asl|exact qc.gr G3|exact qc.str));exact wf_;(focus(unfold maxLen;first|omega|(simp only[wZ]<;>omega)))
      |apply qW;(focus(first|exact qc.sl|exact qc.asl|exact qc.gr G3|exact qc.str));exact wf_;(focus(unfold maxLen;first|omega|(simp only[wZ]<;>omega)))
      |(refine qI ?_;simp -implicitDefEqProofs only[wM,wN,seval,g1,g3,g5,o0,Gr.dropO G3 o0,hzj,hzk];apply za;(focus(first|exact qc.sl|exact qc.asl|exact qc.gr G3|exact qc.str));(exact wf_);(focus(unfold maxLen;first|omega|(simp only[wZ]<;>omega))))
      |refine t_ ?_
      |apply qB;(focus(first|omega|(simp only[wZ]<;>omega)))
      |apply qf;exact wu_;exact wu_;(focus((try simp -implicitDefEqProofs only[wE,Nat.reduceAdd]);rfl))
      |apply qg;exact wd_;exact wu_
      |apply qh;exact wu_
      |simp -implicitDefEqProofs (disch:=omega) only[w64,if_neg]
     refine⟨wk_,j+1,o_,?_⟩
     refine⟨?_,?_,?_,?_,?_⟩
     iterate 4 (focus(first|(simp -implicitDefEqProofs only[wL,wM,wN,wX,seval,Option.some.injEq,g1,g3,g5,o0,Gr.dropO G3 o0,hst]<;>first|rfl|exact⟨_,rfl⟩|exact⟨_,rfl,by first|assumption|exact Gr.nil|exact Gr.tok rfl o_|exact Gr.tok (by simp -implicitDefEqProofs only[wM,seval]<;>rfl) o_|exact Gr.clip|exact G3.to (by first|rfl|(simp[*];done)) o_ rfl⟩)|rfl|exact⟨_,rfl⟩|exact⟨_,rfl,by first|assumption|exact G3.to (by first|rfl|(simp[*];done)) o_ rfl⟩))
     all_goals try omega
   · have e:j=g.nons.length:=o_
     subst e
     repeat' with_reducible first
      |refine s_ ?_
      |refine s_ ?_
      |simp -implicitDefEqProofs only[wS,wT,wU,wV,wW,wX,wY,wC,wF,wG,wL,wM,wN,seval,Int.cast_ofNat_Int,Int.reduceLT,Int.reduceLE,Int.reduceEq,Int.reduceToNat,decide_true,decide_false,Bool.false_eq_true,g1,g3,g5,o0,Gr.dropO G3 o0,G3.len]
      |(refine qa (fun h h_=>?_) (fun h h_=>?_)<;>(try simp only[wD,reduceCtorEq]at h_)<;>(try(exfalso;first|omega|exact absurd (Eq.trans (Eq.symm h_) (by assumption):false=true) (by decide)|exact absurd (Eq.trans (Eq.symm h_) (by assumption):true=false) (by decide)|(refine absurd ?_ h_;focus assumption)|(refine absurd h_ ?_;focus assumption)))<;>(try simp only[h]))
      |apply qX (hg:=G3);(focus(first|rfl|(simp -implicitDefEqProofs only[wM];done)));(focus(first|exact qc.sl|exact qc.asl|exact qc.gr G3|exact qc.str));exact wf_;(focus(unfold maxLen;first|omega|(simp only[wZ]<;>omega)))
      |apply qW;(focus(first|exact qc.sl|exact qc.asl|exact qc.gr G3|exact qc.str));exact wf_;(focus(unfold maxLen;first|omega|(simp only[wZ]<;>omega)))
      |(refine qI ?_;simp -implicitDefEqProofs only[wM,wN,seval,g1,g3,g5,o0,Gr.dropO G3 o0];apply za;(focus(first|exact qc.sl|exact qc.asl|exact qc.gr G3|exact qc.str));(exact wf_);(focus(unfold maxLen;first|omega|(simp only[wZ]<;>omega))))
      |refine t_ ?_
      |apply qB;(focus(first|omega|(simp only[wZ]<;>omega)))
      |apply qf;exact wu_;exact wu_;(focus((try simp -implicitDefEqProofs only[wE,Nat.reduceAdd]);rfl))
      |apply qg;exact wd_;exact wu_
      |apply qh;exact wu_
      |simp -implicitDefEqProofs (disch:=omega) only[w64,if_neg]
     all_goals refine qF rfl (Or.inr rfl) ?_
     all_goals(try simp -implicitDefEqProofs only[wL,seval,g1,g3,g5])
     all_goals(first|refine er_ ?_ |refine G3.er ?_)
     all_goals(try(with_reducible rfl))

theorem qd4 {k:List Int} {m:List Sta} {i n:Nat} {q:Sta} (h:m[i]?=some q):Zc k (m.drop i) n=if q.ker=k then(n:Int)else Zc k (m.drop (i+1)) (n+1):=by
 have hi:=(List.getElem?_eq_some_iff.1 h)
 rw[List.drop_eq_getElem_cons hi.1,hi.2];rfl
theorem qQ {m:List Sta} {k:List Int} (hm:m.length≤1000000) (hk:k.length≤1000000) (hq: ∀q∈m,q.ker.length≤1000000):Pure Tryz.prog 87 [.sl 2 false (m.map Sta.V),.sl 2 false (k.map itV)] (vi (Zv m k)):=by
 refine pure_intro Tryz.func87 nm_ qgL (by show 2≤20;decide) ?_
 show ewp _ qhC _ _
 repeat' with_reducible first
  |refine s_ ?_
  |refine s_ ?_
  |simp -implicitDefEqProofs only[wS,wT,wU,wV,wW,wX,wY,wC,wF,wG,wL,wM,wN,seval,Int.cast_ofNat_Int,Int.reduceLT,Int.reduceLE,Int.reduceEq,Int.reduceToNat,decide_true,decide_false,Bool.false_eq_true]
  |(refine qa (fun h h_=>?_) (fun h h_=>?_)<;>(try simp only[wD,reduceCtorEq]at h_)<;>(try(exfalso;first|omega|exact absurd (Eq.trans (Eq.symm h_) (by assumption):false=true) (by decide)|exact absurd (Eq.trans (Eq.symm h_) (by assumption):true=false) (by decide)|(refine absurd ?_ h_;focus assumption)|(refine absurd h_ ?_;focus assumption)))<;>(try simp only[h]))
  |refine t_ ?_
  |apply qo;omega;exact wd_
  |apply qB;(focus(first|omega|(simp only[wZ]<;>omega)))
  |apply qf;exact wu_;exact wu_;(focus((try simp -implicitDefEqProofs only[wE,Nat.reduceAdd]);rfl))
  |apply qg;exact wd_;exact wu_
  |apply qh;exact wu_
  |refine qA we_ we_ (zP wf_ wf_) ?_
  |simp -implicitDefEqProofs (disch:=omega) only[w64,if_neg]
 refine qi ?nx1 (fun(i:Nat) s=>s.f 0=?v1_0∧s.f 1=?v1_1∧s.f 5=vi i∧(i≤m.length)∧(Zv m k=Zc k (m.drop i) i)) (fun i=>m.length - i) (0) wj_ (by refine⟨?_,?_,?_,wo_,(by rfl)⟩<;>first|(simp -implicitDefEqProofs only[wL,wM,wN,wX,seval,Option.some.injEq]<;>exact wt_)|rfl|exact⟨_,rfl⟩) ?_
 intro i s hnx ⟨g0,g1,g5,k1_0,k1_1⟩
 have hz:=w1_ i
 by_cases hi:i<m.length
 · have hgi:m[i]?=some m[i]:=ge_ hi
   have hst:=qd4 (k:=k) (n:=i) hgi
   have he:=zP (a:=m[i].ker) (b:=k) (by have:=hq _ (List.getElem_mem hi);omega) o_
   generalize m[i]=q at *
   obtain ⟨qk,qm⟩:=q
   dsimp only at hst he
   by_cases hc:qk=k
   · rw[if_pos hc]at hst
     rw[decide_eq_true hc]at he
     rw[k1_1,hst]
     repeat' with_reducible first
      |refine s_ ?_
      |refine s_ ?_
      |simp -implicitDefEqProofs only[wS,wT,wU,wV,wW,wX,wY,wC,wF,wG,wL,wM,wN,seval,Int.cast_ofNat_Int,Int.reduceLT,Int.reduceLE,Int.reduceEq,Int.reduceToNat,decide_true,decide_false,Bool.false_eq_true,g0,g1,g5,hz]
      |(refine qa (fun h h_=>?_) (fun h h_=>?_)<;>(try simp only[wD,reduceCtorEq]at h_)<;>(try(exfalso;first|omega|exact absurd (Eq.trans (Eq.symm h_) (by assumption):false=true) (by decide)|exact absurd (Eq.trans (Eq.symm h_) (by assumption):true=false) (by decide)|(refine absurd ?_ h_;focus assumption)|(refine absurd h_ ?_;focus assumption)))<;>(try simp only[h]))
      |refine t_ ?_
      |refine cq2 he qj qj ?_
      |apply qo;omega;exact wd_
      |apply qB;(focus(first|omega|(simp only[wZ]<;>omega)))
      |apply qf;exact wu_;exact wu_;(focus((try simp -implicitDefEqProofs only[wE,Nat.reduceAdd]);rfl))
      |apply qg;exact wd_;exact wu_
      |apply qh;exact wu_
      |refine qA we_ we_ (zP wf_ wf_) ?_
      |simp -implicitDefEqProofs (disch:=omega) only[w64,if_neg]
     all_goals refine qF rfl (Or.inr rfl) ?_
     all_goals(try simp -implicitDefEqProofs only[wL,seval,g0,g1,g5])
     all_goals refine er_ ?_
     all_goals(try(with_reducible rfl))
   · rw[if_neg hc]at hst
     rw[decide_eq_false hc]at he
     repeat' with_reducible first
      |refine s_ ?_
      |refine s_ ?_
      |simp -implicitDefEqProofs only[wS,wT,wU,wV,wW,wX,wY,wC,wF,wG,wL,wM,wN,seval,Int.cast_ofNat_Int,Int.reduceLT,Int.reduceLE,Int.reduceEq,Int.reduceToNat,decide_true,decide_false,Bool.false_eq_true,g0,g1,g5,hz]
      |(refine qa (fun h h_=>?_) (fun h h_=>?_)<;>(try simp only[wD,reduceCtorEq]at h_)<;>(try(exfalso;first|omega|exact absurd (Eq.trans (Eq.symm h_) (by assumption):false=true) (by decide)|exact absurd (Eq.trans (Eq.symm h_) (by assumption):true=false) (by decide)|(refine absurd ?_ h_;focus assumption)|(refine absurd h_ ?_;focus assumption)))<;>(try simp only[h]))
      |refine t_ ?_
      |refine cq2 he qj qj ?_
      |apply qo;omega;exact wd_
      |apply qB;(focus(first|omega|(simp only[wZ]<;>omega)))
      |apply qf;exact wu_;exact wu_;(focus((try simp -implicitDefEqProofs only[wE,Nat.reduceAdd]);rfl))
      |apply qg;exact wd_;exact wu_
      |apply qh;exact wu_
      |refine qA we_ we_ (zP wf_ wf_) ?_
      |simp -implicitDefEqProofs (disch:=omega) only[w64,if_neg]
     refine⟨wk_,i+1,o_,?_⟩
     refine⟨?_,?_,?_,?_,?_⟩
     iterate 3 (focus(first|(simp -implicitDefEqProofs only[wL,wM,wN,wX,seval,Option.some.injEq,g0,g1,g5]<;>exact wt_)|rfl|exact⟨_,rfl⟩))
     all_goals try omega
 · have e:m.drop i=[]:=List.drop_of_length_le o_
   rw[e]at k1_1
   rw[k1_1]
   repeat' with_reducible first
    |refine s_ ?_
    |refine s_ ?_
    |simp -implicitDefEqProofs only[wS,wT,wU,wV,wW,wX,wY,wC,wF,wG,wL,wM,wN,seval,Int.cast_ofNat_Int,Int.reduceLT,Int.reduceLE,Int.reduceEq,Int.reduceToNat,decide_true,decide_false,Bool.false_eq_true,g0,g1,g5,hz]
    |(refine qa (fun h h_=>?_) (fun h h_=>?_)<;>(try simp only[wD,reduceCtorEq]at h_)<;>(try(exfalso;first|omega|exact absurd (Eq.trans (Eq.symm h_) (by assumption):false=true) (by decide)|exact absurd (Eq.trans (Eq.symm h_) (by assumption):true=false) (by decide)|(refine absurd ?_ h_;focus assumption)|(refine absurd h_ ?_;focus assumption)))<;>(try simp only[h]))
    |refine t_ ?_
    |apply qo;omega;exact wd_
    |apply qB;(focus(first|omega|(simp only[wZ]<;>omega)))
    |apply qf;exact wu_;exact wu_;(focus((try simp -implicitDefEqProofs only[wE,Nat.reduceAdd]);rfl))
    |apply qg;exact wd_;exact wu_
    |apply qh;exact wu_
    |refine qA we_ we_ (zP wf_ wf_) ?_
    |simp -implicitDefEqProofs (disch:=omega) only[w64,if_neg]
   all_goals refine qF rfl (Or.inr rfl) ?_
   all_goals(try simp -implicitDefEqProofs only[wL,seval,g0,g1,g5])
   all_goals refine er_ ?_
   all_goals(try(with_reducible rfl))
   all_goals rfl
theorem qdM {l:List (Int×Int)} {s:Int} {i:Nat} {p:Int×Int} (h:l[i]?=some p):goL (l.drop i) s=if p.1=s then p.2 else goL (l.drop (i+1)) s:=by
 have hi:=(List.getElem?_eq_some_iff.1 h)
 rw[List.drop_eq_getElem_cons hi.1,hi.2];rfl
theorem qgA {m:List Sta} {q:Nat} {x:Sta} (h:m[q]?=some x) (s:Int):goS m (q:Int) s=goL x.mov s:=by
 unfold goS
 rw[if_neg o_,show ((q:Int)).toNat=q from rfl,h]
theorem qiy {m:List Sta} {q:Int} (h:q<0∨(m.length:Int)≤q) (s:Int):goS m q s= -1:=by
 unfold goS
 split
 · rfl
 · rw[List.getElem?_eq_none o_]
theorem j5 {m:List Sta} {q sy:Int} (hm:m.length≤1000000) (hq: ∀q∈m,q.mov.length≤1000000):Pure Tryz.prog 54 [.sl 2 false (m.map Sta.V),vi q,vi sy] (vi (goS m q sy)):=by
 refine pure_intro Tryz.func54 nm_ qLz (by show 3≤48;decide) ?_
 show ewp _ qfO _ _
 repeat' with_reducible first
  |refine s_ ?_
  |refine s_ ?_
  |refine s_ ?_
  |simp -implicitDefEqProofs only[wS,wT,wU,wV,wW,wX,wY,wC,wF,wG,wL,wM,wN,seval,Int.cast_ofNat_Int,Int.reduceLT,Int.reduceLE,Int.reduceEq,Int.reduceToNat,decide_true,decide_false,Bool.false_eq_true]
  |(refine qa (fun h h_=>?_) (fun h h_=>?_)<;>(try simp only[wD,reduceCtorEq]at h_)<;>(try(exfalso;first|omega|exact absurd (Eq.trans (Eq.symm h_) (by assumption):false=true) (by decide)|exact absurd (Eq.trans (Eq.symm h_) (by assumption):true=false) (by decide)|(refine absurd ?_ h_;focus assumption)|(refine absurd h_ ?_;focus assumption)))<;>(try simp only[h]))
  |((first|refine zk (fun h=>?_) (fun h=>?_)|refine zl (fun h=>?_) (fun h=>?_))<;>have h_:=h<;>(try simp only[wD,reduceCtorEq]at h_)<;>(try(exfalso;first|omega|exact absurd (Eq.trans (Eq.symm h_) (by assumption):false=true) (by decide)|exact absurd (Eq.trans (Eq.symm h_) (by assumption):true=false) (by decide)|(refine absurd ?_ h_;focus assumption)|(refine absurd h_ ?_;focus assumption)))<;>(try simp only[h]))
  |refine t_ ?_
  |apply qo;omega;exact wd_
  |apply qB;(focus(first|omega|(simp only[wZ]<;>omega)))
  |apply qf;exact wu_;exact wu_;(focus((try simp -implicitDefEqProofs only[wE,Nat.reduceAdd]);rfl))
  |apply qg;exact wd_;exact wu_
  |apply qh;exact wu_
  |simp -implicitDefEqProofs (disch:=omega) only[w64,if_neg]
 refine qi ?nx1 (fun(i:Nat) s=>s.f 0=?v1_0∧s.f 1=?v1_1∧s.f 2=?v1_2∧s.f 7=vi i∧((∀x,m[q.toNat]?=some x→i≤x.mov.length∧goL x.mov sy=goL (x.mov.drop i) sy))) (fun i=>((m[q.toNat]?).map (·.mov.length)).getD 0 - i) (0) wj_ (by refine⟨?_,?_,?_,?_,(by exact fun x _=>⟨Nat.zero_le _,rfl⟩)⟩<;>first|(simp -implicitDefEqProofs only[wL,wM,wN,wX,seval,Option.some.injEq]<;>exact wt_)|rfl|exact⟨_,rfl⟩) ?_
 intro i s hnx ⟨g0,g1,g2,g7,k1_0⟩
 have hz:i<1000000→IntKind.i64.wrap ((i+1:Nat):Int)=((i+1:Nat):Int):=fun h=>wrap64 o_ o_
 by_cases hin:0≤q∧q<m.length
 · obtain ⟨n,rfl⟩: ∃n:Nat,q=(n:Int):=⟨q.toNat,o_⟩
   have hgn:m[n]?=some m[n]:=ge_ o_
   have hml:=hq _ (List.getElem_mem (show n<m.length by omega))
   rw[qgA hgn]
   rw[show ((n:Int)).toNat=n from rfl]at *
   generalize m[n]=x at *
   obtain ⟨h1,h2⟩:=k1_0 _ hgn
   obtain ⟨xk,xm⟩:=x
   dsimp only at hml h1 h2 ⊢
   by_cases hi:i<xm.length
   · have hz:=hz o_
     have hgi:xm[i]?=some xm[i]:=ge_ hi
     have hst:=qdM (s:=sy) hgi
     generalize xm[i]=p at *
     obtain ⟨p1,p2⟩:=p
     dsimp only at hst
     by_cases hc:p1=sy
     · rw[if_pos hc]at hst
       rw[h2,hst]
       repeat' with_reducible first
        |refine s_ ?_
        |refine s_ ?_
        |refine s_ ?_
        |simp -implicitDefEqProofs only[wS,wT,wU,wV,wW,wX,wY,wC,wF,wG,wL,wM,wN,seval,Int.cast_ofNat_Int,Int.reduceLT,Int.reduceLE,Int.reduceEq,Int.reduceToNat,decide_true,decide_false,Bool.false_eq_true,g0,g1,g2,g7,hz]
        |(refine qa (fun h h_=>?_) (fun h h_=>?_)<;>(try simp only[wD,reduceCtorEq]at h_)<;>(try(exfalso;first|omega|exact absurd (Eq.trans (Eq.symm h_) (by assumption):false=true) (by decide)|exact absurd (Eq.trans (Eq.symm h_) (by assumption):true=false) (by decide)|(refine absurd ?_ h_;focus assumption)|(refine absurd h_ ?_;focus assumption)))<;>(try simp only[h]))
        |((first|refine zk (fun h=>?_) (fun h=>?_)|refine zl (fun h=>?_) (fun h=>?_))<;>have h_:=h<;>(try simp only[wD,reduceCtorEq]at h_)<;>(try(exfalso;first|omega|exact absurd (Eq.trans (Eq.symm h_) (by assumption):false=true) (by decide)|exact absurd (Eq.trans (Eq.symm h_) (by assumption):true=false) (by decide)|(refine absurd ?_ h_;focus assumption)|(refine absurd h_ ?_;focus assumption)))<;>(try simp only[h]))
        |refine t_ ?_
        |apply qo;omega;exact wd_
        |apply qB;(focus(first|omega|(simp only[wZ]<;>omega)))
        |apply qf;exact wu_;exact wu_;(focus((try simp -implicitDefEqProofs only[wE,Nat.reduceAdd]);rfl))
        |apply qg;exact wd_;exact wu_
        |apply qh;exact wu_
        |simp -implicitDefEqProofs (disch:=omega) only[w64,if_neg]
       all_goals refine qF rfl (Or.inr rfl) ?_
       all_goals(try simp -implicitDefEqProofs only[wL,seval,g0,g1,g2,g7])
       all_goals refine er_ ?_
       all_goals(try(with_reducible rfl))
     · rw[if_neg hc]at hst
       repeat' with_reducible first
        |refine s_ ?_
        |refine s_ ?_
        |refine s_ ?_
        |simp -implicitDefEqProofs only[wS,wT,wU,wV,wW,wX,wY,wC,wF,wG,wL,wM,wN,seval,Int.cast_ofNat_Int,Int.reduceLT,Int.reduceLE,Int.reduceEq,Int.reduceToNat,decide_true,decide_false,Bool.false_eq_true,g0,g1,g2,g7,hz]
        |(refine qa (fun h h_=>?_) (fun h h_=>?_)<;>(try simp only[wD,reduceCtorEq]at h_)<;>(try(exfalso;first|omega|exact absurd (Eq.trans (Eq.symm h_) (by assumption):false=true) (by decide)|exact absurd (Eq.trans (Eq.symm h_) (by assumption):true=false) (by decide)|(refine absurd ?_ h_;focus assumption)|(refine absurd h_ ?_;focus assumption)))<;>(try simp only[h]))
        |((first|refine zk (fun h=>?_) (fun h=>?_)|refine zl (fun h=>?_) (fun h=>?_))<;>have h_:=h<;>(try simp only[wD,reduceCtorEq]at h_)<;>(try(exfalso;first|omega|exact absurd (Eq.trans (Eq.symm h_) (by assumption):false=true) (by decide)|exact absurd (Eq.trans (Eq.symm h_) (by assumption):true=false) (by decide)|(refine absurd ?_ h_;focus assumption)|(refine absurd h_ ?_;focus assumption)))<;>(try simp only[h]))
        |refine t_ ?_
        |apply qo;omega;exact wd_
        |apply qB;(focus(first|omega|(simp only[wZ]<;>omega)))
        |apply qf;exact wu_;exact wu_;(focus((try simp -implicitDefEqProofs only[wE,Nat.reduceAdd]);rfl))
        |apply qg;exact wd_;exact wu_
        |apply qh;exact wu_
        |simp -implicitDefEqProofs (disch:=omega) only[w64,if_neg]
       refine⟨wg_,i+1,by simp only[hgn,Option.map_some,Option.getD_some];omega,?_⟩;(repeat refine⟨True.intro,?_⟩)
       refine⟨rfl,fun x hx=>?_⟩
       rw[hgn]at hx
       cases hx
       exact⟨by dsimp only;omega,by dsimp only;rw[h2,hst]⟩
   · have e:xm.drop i=[]:=List.drop_of_length_le o_
     rw[e]at h2
     rw[h2]
     repeat' with_reducible first
      |refine s_ ?_
      |refine s_ ?_
      |refine s_ ?_
      |simp -implicitDefEqProofs only[wS,wT,wU,wV,wW,wX,wY,wC,wF,wG,wL,wM,wN,seval,Int.cast_ofNat_Int,Int.reduceLT,Int.reduceLE,Int.reduceEq,Int.reduceToNat,decide_true,decide_false,Bool.false_eq_true,g0,g1,g2,g7]
      |(refine qa (fun h h_=>?_) (fun h h_=>?_)<;>(try simp only[wD,reduceCtorEq]at h_)<;>(try(exfalso;first|omega|exact absurd (Eq.trans (Eq.symm h_) (by assumption):false=true) (by decide)|exact absurd (Eq.trans (Eq.symm h_) (by assumption):true=false) (by decide)|(refine absurd ?_ h_;focus assumption)|(refine absurd h_ ?_;focus assumption)))<;>(try simp only[h]))
      |((first|refine zk (fun h=>?_) (fun h=>?_)|refine zl (fun h=>?_) (fun h=>?_))<;>have h_:=h<;>(try simp only[wD,reduceCtorEq]at h_)<;>(try(exfalso;first|omega|exact absurd (Eq.trans (Eq.symm h_) (by assumption):false=true) (by decide)|exact absurd (Eq.trans (Eq.symm h_) (by assumption):true=false) (by decide)|(refine absurd ?_ h_;focus assumption)|(refine absurd h_ ?_;focus assumption)))<;>(try simp only[h]))
      |refine t_ ?_
      |apply qo;omega;exact wd_
      |apply qB;(focus(first|omega|(simp only[wZ]<;>omega)))
      |apply qf;exact wu_;exact wu_;(focus((try simp -implicitDefEqProofs only[wE,Nat.reduceAdd]);rfl))
      |apply qg;exact wd_;exact wu_
      |apply qh;exact wu_
      |simp -implicitDefEqProofs (disch:=omega) only[w64,if_neg]
     all_goals refine qF rfl (Or.inr rfl) ?_
     all_goals(try simp -implicitDefEqProofs only[wL,seval,g0,g1,g2,g7])
     all_goals refine er_ ?_
     all_goals(try(with_reducible rfl))
     all_goals rfl
 · rw[qiy o_]
   repeat' with_reducible first
    |refine s_ ?_
    |refine s_ ?_
    |refine s_ ?_
    |simp -implicitDefEqProofs only[wS,wT,wU,wV,wW,wX,wY,wC,wF,wG,wL,wM,wN,seval,Int.cast_ofNat_Int,Int.reduceLT,Int.reduceLE,Int.reduceEq,Int.reduceToNat,decide_true,decide_false,Bool.false_eq_true,g0,g1,g2,g7]
    |(refine qa (fun h h_=>?_) (fun h h_=>?_)<;>(try simp only[wD,reduceCtorEq]at h_)<;>(try(exfalso;first|omega|exact absurd (Eq.trans (Eq.symm h_) (by assumption):false=true) (by decide)|exact absurd (Eq.trans (Eq.symm h_) (by assumption):true=false) (by decide)|(refine absurd ?_ h_;focus assumption)|(refine absurd h_ ?_;focus assumption)))<;>(try simp only[h]))
    |((first|refine zk (fun h=>?_) (fun h=>?_)|refine zl (fun h=>?_) (fun h=>?_))<;>have h_:=h<;>(try simp only[wD,reduceCtorEq]at h_)<;>(try(exfalso;first|omega|exact absurd (Eq.trans (Eq.symm h_) (by assumption):false=true) (by decide)|exact absurd (Eq.trans (Eq.symm h_) (by assumption):true=false) (by decide)|(refine absurd ?_ h_;focus assumption)|(refine absurd h_ ?_;focus assumption)))<;>(try simp only[h]))
    |refine t_ ?_
    |apply qo;omega;exact wd_
    |apply qB;(focus(first|omega|(simp only[wZ]<;>omega)))
    |apply qf;exact wu_;exact wu_;(focus((try simp -implicitDefEqProofs only[wE,Nat.reduceAdd]);rfl))
    |apply qg;exact wd_;exact wu_
    |apply qh;exact wu_
    |simp -implicitDefEqProofs (disch:=omega) only[w64,if_neg]
   all_goals refine qF rfl (Or.inr rfl) ?_
   all_goals(try simp -implicitDefEqProofs only[wL,seval,g0,g1,g2,g7])
   all_goals refine er_ ?_
   all_goals(try(with_reducible rfl))
theorem Vb {m:List Sta} {l:List Int} {i:Nat} {q s:Int} (h:l[i]?=some s):yM m q (l.drop i)=if q<0 then q else yM m (goS m q s) (l.drop (i+1)):=by
 have hi:=(List.getElem?_eq_some_iff.1 h)
 rw[List.drop_eq_getElem_cons hi.1,hi.2];rfl
theorem Vd {m:List Sta} {q:Int} (h:q<0): ∀l,yM m q l=q
 |[]=>rfl
 |s::l=>by unfold yM;rw[if_pos h]
theorem zN {m:List Sta} {q:Int} {l:List Int} (hm:m.length≤1000000) (hq: ∀q∈m,q.mov.length≤1000000) (hl:l.length≤1000000):Pure Tryz.prog 61 [.sl 2 false (m.map Sta.V),vi q,.sl 1 false (l.map (V.int .i64))] (vi (yM m q l)):=by
 refine pure_intro Tryz.func61 nm_ qEV (by show 3≤26;decide) ?_
 show ewp _ qfK _ _
 repeat' with_reducible first
  |refine s_ ?_
  |refine s_ ?_
  |refine s_ ?_
  |simp -implicitDefEqProofs only[wS,wT,wU,wV,wW,wX,wY,wC,wF,wG,wL,wM,wN,seval,Int.cast_ofNat_Int,Int.reduceLT,Int.reduceLE,Int.reduceEq,Int.reduceToNat,decide_true,decide_false,Bool.false_eq_true]
  |(refine qa (fun h h_=>?_) (fun h h_=>?_)<;>(try simp only[wD,reduceCtorEq]at h_)<;>(try(exfalso;first|omega|exact absurd (Eq.trans (Eq.symm h_) (by assumption):false=true) (by decide)|exact absurd (Eq.trans (Eq.symm h_) (by assumption):true=false) (by decide)|(refine absurd ?_ h_;focus assumption)|(refine absurd h_ ?_;focus assumption)))<;>(try simp only[h]))
  |((first|refine zk (fun h=>?_) (fun h=>?_)|refine zl (fun h=>?_) (fun h=>?_))<;>have h_:=h<;>(try simp only[wD,reduceCtorEq]at h_)<;>(try(exfalso;first|omega|exact absurd (Eq.trans (Eq.symm h_) (by assumption):false=true) (by decide)|exact absurd (Eq.trans (Eq.symm h_) (by assumption):true=false) (by decide)|(refine absurd ?_ h_;focus assumption)|(refine absurd h_ ?_;focus assumption)))<;>(try simp only[h]))
  |refine t_ ?_
  |apply qo;omega;exact wd_
  |apply qB;(focus(first|omega|(simp only[wZ]<;>omega)))
  |apply qf;exact wu_;exact wu_;(focus((try simp -implicitDefEqProofs only[wE,Nat.reduceAdd]);rfl))
  |apply qg;exact wd_;exact wu_
  |apply qh;exact wu_
  |refine zu we_ we_ we_ (j5 wf_ wf_) ?_
  |simp -implicitDefEqProofs (disch:=omega) only[w64,if_neg]
 refine qi ?nx1 (fun(p:Nat×Int) s=>s.f 0=?v1_0∧s.f 2=?v1_2∧s.f 7=vi p.1∧(p.1≤l.length)∧(yM m q l=yM m p.2 (l.drop p.1))∧(s.f 1=.int .i64 p.2)) (fun p=>l.length - p.1) ((0,q)) wj_ (by refine⟨?_,?_,?_,wo_,(by rfl),(by(try simp -implicitDefEqProofs only[wL,wM,wN,seval]);first|done|rfl)⟩<;>first|(simp -implicitDefEqProofs only[wL,wM,wN,wX,seval,Option.some.injEq]<;>exact wt_)|rfl|exact⟨_,rfl⟩) ?_
 intro p s hnx ⟨g0,g2,g7,k1_0,k1_1,g1⟩
 obtain ⟨i,r⟩:=p
 dsimp only at *
 have hz:=w1_ i
 by_cases hi:i<l.length∧0≤r
 · obtain ⟨hi,hr⟩:=hi
   have hgi:l[i]?=some l[i]:=ge_ hi
   have hst:=Vb (m:=m) (q:=r) hgi
   rw[if_neg o_]at hst
   have hgo:=j5 (q:=r) (sy:=l[i]) hm hq
   generalize l[i]=sy at *
   repeat' with_reducible first
    |refine s_ ?_
    |refine s_ ?_
    |refine s_ ?_
    |simp -implicitDefEqProofs only[wS,wT,wU,wV,wW,wX,wY,wC,wF,wG,wL,wM,wN,seval,Int.cast_ofNat_Int,Int.reduceLT,Int.reduceLE,Int.reduceEq,Int.reduceToNat,decide_true,decide_false,Bool.false_eq_true,g0,g2,g7,g1,hz]
    |(refine qa (fun h h_=>?_) (fun h h_=>?_)<;>(try simp only[wD,reduceCtorEq]at h_)<;>(try(exfalso;first|omega|exact absurd (Eq.trans (Eq.symm h_) (by assumption):false=true) (by decide)|exact absurd (Eq.trans (Eq.symm h_) (by assumption):true=false) (by decide)|(refine absurd ?_ h_;focus assumption)|(refine absurd h_ ?_;focus assumption)))<;>(try simp only[h]))
    |((first|refine zk (fun h=>?_) (fun h=>?_)|refine zl (fun h=>?_) (fun h=>?_))<;>have h_:=h<;>(try simp only[wD,reduceCtorEq]at h_)<;>(try(exfalso;first|omega|exact absurd (Eq.trans (Eq.symm h_) (by assumption):false=true) (by decide)|exact absurd (Eq.trans (Eq.symm h_) (by assumption):true=false) (by decide)|(refine absurd ?_ h_;focus assumption)|(refine absurd h_ ?_;focus assumption)))<;>(try simp only[h]))
    |refine t_ ?_
    |refine cq3 hgo qj qj qj ?_
    |apply qo;omega;exact wd_
    |apply qB;(focus(first|omega|(simp only[wZ]<;>omega)))
    |apply qf;exact wu_;exact wu_;(focus((try simp -implicitDefEqProofs only[wE,Nat.reduceAdd]);rfl))
    |apply qg;exact wd_;exact wu_
    |apply qh;exact wu_
    |refine zu we_ we_ we_ (j5 wf_ wf_) ?_
    |simp -implicitDefEqProofs (disch:=omega) only[w64,if_neg]
   refine⟨wg_,(i+1,goS m r sy),by dsimp only;omega,?_⟩;(repeat refine⟨True.intro,?_⟩)
   exact⟨rfl,by dsimp only;omega,by rw[k1_1,hst],rfl⟩
 · have e:yM m r (l.drop i)=r:=by
    by_cases h:r<0
    · exact Vd h _
    · rw[List.drop_of_length_le o_];rfl
   rw[k1_1,e]
   repeat' with_reducible first
    |refine s_ ?_
    |refine s_ ?_
    |refine s_ ?_
    |simp -implicitDefEqProofs only[wS,wT,wU,wV,wW,wX,wY,wC,wF,wG,wL,wM,wN,seval,Int.cast_ofNat_Int,Int.reduceLT,Int.reduceLE,Int.reduceEq,Int.reduceToNat,decide_true,decide_false,Bool.false_eq_true,g0,g2,g7,g1,hz]
    |(refine qa (fun h h_=>?_) (fun h h_=>?_)<;>(try simp only[wD,reduceCtorEq]at h_)<;>(try(exfalso;first|omega|exact absurd (Eq.trans (Eq.symm h_) (by assumption):false=true) (by decide)|exact absurd (Eq.trans (Eq.symm h_) (by assumption):true=false) (by decide)|(refine absurd ?_ h_;focus assumption)|(refine absurd h_ ?_;focus assumption)))<;>(try simp only[h]))
    |((first|refine zk (fun h=>?_) (fun h=>?_)|refine zl (fun h=>?_) (fun h=>?_))<;>have h_:=h<;>(try simp only[wD,reduceCtorEq]at h_)<;>(try(exfalso;first|omega|exact absurd (Eq.trans (Eq.symm h_) (by assumption):false=true) (by decide)|exact absurd (Eq.trans (Eq.symm h_) (by assumption):true=false) (by decide)|(refine absurd ?_ h_;focus assumption)|(refine absurd h_ ?_;focus assumption)))<;>(try simp only[h]))
    |refine t_ ?_
    |apply qo;omega;exact wd_
    |apply qB;(focus(first|omega|(simp only[wZ]<;>omega)))
    |apply qf;exact wu_;exact wu_;(focus((try simp -implicitDefEqProofs only[wE,Nat.reduceAdd]);rfl))
    |apply qg;exact wd_;exact wu_
    |apply qh;exact wu_
    |refine zu we_ we_ we_ (j5 wf_ wf_) ?_
    |simp -implicitDefEqProofs (disch:=omega) only[w64,if_neg]
   all_goals refine qF rfl (Or.inr rfl) ?_
   all_goals(try simp -implicitDefEqProofs only[wL,seval,g0,g2,g7,g1])
   all_goals refine er_ ?_
   all_goals(try(with_reducible rfl))
end Go.Proofs
