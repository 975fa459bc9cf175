/- Part of a proof that a law of the given program answers true. -/
import Derived.Test.YtkcegflhobejmaaGreatDoorBBA
import Derived.Test.YtkcegflhobejmaaGreatDoorBLA
import Derived.Test.YtkcegflhobejmaaGreatDoorBCA
set_option maxRecDepth 20000
set_option linter.unusedSimpArgs false
set_option linter.unusedVariables false
set_option maxHeartbeats 4000000
namespace Go.Proofs
open Go.E
theorem xL {g:Grammar} {E:Nat→Bool} (hg:GOk g) (hE:IsGrow g false E):Pure Tryz.prog 88 [g.V] (.sl 1 false (QM g.nons.length E)):=by
 refine pure_intro Tryz.func88 nm_ qgX (by show 1≤5;decide) ?_
 show ewp _ qv6 _ _
 obtain ⟨E',hE',hp⟩:=Vv (token:=false) hg
 obtain rfl:=hE.uniq hE'
 repeat' with_reducible first
  |refine s_ ?_
  |simp -implicitDefEqProofs only[wS,wT,wU,wV,wW,wX,wY,wC,wF,wG,wL,wM,wN,seval,Int.cast_ofNat_Int,Int.reduceLT,Int.reduceLE,Int.reduceEq,Int.reduceToNat,decide_true,decide_false,Bool.false_eq_true]
  |refine cq2 hp qj (.bool _) ?_
  |refine t_ ?_
  |apply qf;exact wu_;exact wu_;(focus((try simp -implicitDefEqProofs only[wE,Nat.reduceAdd]);rfl))
  |apply qg;exact wd_;exact wu_
  |apply qh;exact wu_
  |simp -implicitDefEqProofs (disch:=omega) only[w64,if_neg]
 refine qF rfl (Or.inr rfl) ?_
 (simp -implicitDefEqProofs only[wL,seval])
 exact @zS _ _ _ _ _ (qgG _ _)
theorem qdR (j:Nat):(V.map j).cells=[V.map j]:=rfl
@[reducible] def qj1 (g:Grammar) (m:List Sta) (E:Nat→Bool) (j:Nat):V:= .agg [.sl 6 false (g.toks.map Tok.V),.sl 2 false (g.nons.map Non.V),.sl 6 false (g.prods.map GPr.V),.str g.pro,.str g.tail,.sl 2 false (m.map Sta.V),.sl 2 false ((jb m).map prV),.map j,.sl 1 false (QM g.nons.length E)]
theorem of_run {H:Nat→Option MObj} {next:Nat} {g:Grammar} {m:List Sta} {E:Nat→Bool} (hg:GOk g) (hM:MOk g m) (hR: ∀q∈m,RMv q) (hE:IsGrow g false E):jQ Tryz.prog 51 [g.V,.sl 2 false (m.map Sta.V)] H next (fun v H' n'=> ∃i j,v=.ptr i 0 0∧next≤i∧i<n'∧H' i=some (.own 9 [qj1 g m E j] false)∧ ∀k,k<next→H' k=H k):=by
 refine zU Tryz.func51 nm_ qf2 (by show 2≤35;decide) ?_
 show ewp _ qgu _ _
 have hml:=hM.len
 have htr:=kM (m:=m) o_ (fun q h=>by have:=hM.mvl q h;omega)
 have htl:=hM.trans_len
 have hlx:=qdU hR
 have hem:=xL hg hE
 obtain ⟨gt,gn,gp,gpr,gta⟩:=g
 repeat' with_reducible first
  |refine s_ ?_
  |refine s_ ?_
  |simp -implicitDefEqProofs only[wS,wT,wU,wV,wW,wX,wY,wC,wF,wG,wL,wM,wN,seval,Int.cast_ofNat_Int,Int.reduceLT,Int.reduceLE,Int.reduceEq,Int.reduceToNat,decide_true,decide_false,Bool.false_eq_true,qe5,qdR]
  |(refine qa (fun h h_=>?_) (fun h h_=>?_)<;>(try simp only[wD,reduceCtorEq]at h_)<;>(try(exfalso;first|omega|exact absurd (Eq.trans (Eq.symm h_) (by assumption):false=true) (by decide)|exact absurd (Eq.trans (Eq.symm h_) (by assumption):true=false) (by decide)|(refine absurd ?_ h_;focus assumption)|(refine absurd h_ ?_;focus assumption)))<;>(try simp only[h]))
  |refine cq1 htr qj ?_
  |refine cq1 hem qj ?_
  |refine t_ ?_
  |apply qo;omega;exact wd_
  |apply qB;(focus(first|omega|(simp only[wZ]<;>omega)))
  |apply qf;exact wu_;exact wu_;(focus((try simp -implicitDefEqProofs only[wE,Nat.reduceAdd]);rfl))
  |apply qg;exact wd_;exact wu_
  |apply qh;exact wu_
  |apply qR;exact wf_;exact wu_;exact wu_;(focus(intro _;with_unfolding_all rfl))
  |apply qO;exact wu_;exact wu_;exact wu_
  |refine zf we_ (kM wf_ wf_) ?_
  |refine zf we_ (xL wf_ wf_) ?_
  |simp -implicitDefEqProofs (disch:=omega) only[w64,if_neg]
 generalize hT:jb m=T at *
 refine qi ?nx1 (fun(i:Nat) s=>s.f 5=?v1_5∧s.f 20=?v1_20∧s.f 21=?v1_21∧s.H (next+2+8)=?o1_0∧s.f 22=vi i∧(i≤T.length)∧((∀k,k<next→s.H k=H k))∧(s.H (next+2+4)=some (.mapo (qul T i)))) (fun i=>T.length - i) (0) wj_ (by refine⟨?_,?_,?_,?_,?_,wo_,(by intro k hk;simp only[wM];(repeat rw[if_neg o_])),(by(try simp -implicitDefEqProofs only[wL,wM,wN,seval]);(exact(if_neg o_).trans rfl))⟩<;>first|(simp -implicitDefEqProofs only[wL,wM,wN,wX,seval,Option.some.injEq]<;>exact wt_)|rfl|exact⟨_,rfl⟩) ?_
 intro i s hnx ⟨g5,g20,g21,o0,g22,k1_0,k1_1,o100⟩
 have hz:=w1_ i
 by_cases hi:i<T.length
 · have hgi:T[i]?=some T[i]:=ge_ hi
   generalize T[i]=t at *
   obtain ⟨a,b⟩:=t
   have hst:=qdE hgi
   have hne:=qe4 hlx hgi
   repeat' with_reducible first
    |refine s_ ?_
    |refine s_ ?_
    |simp -implicitDefEqProofs only[wS,wT,wU,wV,wW,wX,wY,wC,wF,wG,wL,wM,wN,seval,Int.cast_ofNat_Int,Int.reduceLT,Int.reduceLE,Int.reduceEq,Int.reduceToNat,decide_true,decide_false,Bool.false_eq_true,g5,g20,g21,g22,o0,o100,hz,qsE]
    |(refine qa (fun h h_=>?_) (fun h h_=>?_)<;>(try simp only[wD,reduceCtorEq]at h_)<;>(try(exfalso;first|omega|exact absurd (Eq.trans (Eq.symm h_) (by assumption):false=true) (by decide)|exact absurd (Eq.trans (Eq.symm h_) (by assumption):true=false) (by decide)|(refine absurd ?_ h_;focus assumption)|(refine absurd h_ ?_;focus assumption)))<;>(try simp only[h]))
    |refine t_ ?_
    |apply qR0;(focus((try simp only[wM]);(repeat rw[if_neg o_]);exact o100));exact hne
    |apply qo;omega;exact wd_
    |apply qB;(focus(first|omega|(simp only[wZ]<;>omega)))
    |apply qf;exact wu_;exact wu_;(focus((try simp -implicitDefEqProofs only[wE,Nat.reduceAdd]);rfl))
    |apply qg;exact wd_;exact wu_
    |apply qh;exact wu_
    |apply qR;exact wf_;exact wu_;exact wu_;(focus(intro _;with_unfolding_all rfl))
    |apply qO;exact wu_;exact wu_;exact wu_
    |refine zf we_ (kM wf_ wf_) ?_
    |refine zf we_ (xL wf_ wf_) ?_
    |simp -implicitDefEqProofs (disch:=omega) only[w64,if_neg]
   exact⟨wg_,i+1,o_,trivial,trivial,trivial,trivial,rfl,o_,by(intro k hk;rw[if_neg o_,if_neg o_];exact k1_1 k hk),by rw[hst]⟩
 · have e:i=T.length:=o_
   subst e
   repeat' with_reducible first
    |refine s_ ?_
    |refine s_ ?_
    |simp -implicitDefEqProofs only[wS,wT,wU,wV,wW,wX,wY,wC,wF,wG,wL,wM,wN,seval,Int.cast_ofNat_Int,Int.reduceLT,Int.reduceLE,Int.reduceEq,Int.reduceToNat,decide_true,decide_false,Bool.false_eq_true,g5,g20,g21,g22,o0,o100,hz]
    |(refine qa (fun h h_=>?_) (fun h h_=>?_)<;>(try simp only[wD,reduceCtorEq]at h_)<;>(try(exfalso;first|omega|exact absurd (Eq.trans (Eq.symm h_) (by assumption):false=true) (by decide)|exact absurd (Eq.trans (Eq.symm h_) (by assumption):true=false) (by decide)|(refine absurd ?_ h_;focus assumption)|(refine absurd h_ ?_;focus assumption)))<;>(try simp only[h]))
    |refine t_ ?_
    |apply qo;omega;exact wd_
    |apply qB;(focus(first|omega|(simp only[wZ]<;>omega)))
    |apply qf;exact wu_;exact wu_;(focus((try simp -implicitDefEqProofs only[wE,Nat.reduceAdd]);rfl))
    |apply qg;exact wd_;exact wu_
    |apply qh;exact wu_
    |apply qR;exact wf_;exact wu_;exact wu_;(focus(intro _;with_unfolding_all rfl))
    |apply qO;exact wu_;exact wu_;exact wu_
    |refine zf we_ (kM wf_ wf_) ?_
    |refine zf we_ (xL wf_ wf_) ?_
    |simp -implicitDefEqProofs (disch:=omega) only[w64,if_neg]
   refine YA rfl (Or.inr rfl) ?_
   (simp -implicitDefEqProofs only[wL,seval])
   subst hT
   exact⟨next+2+8,next+2+4,rfl,o_,wg_,o0,k1_1⟩

def yG (g:Grammar) (m:List Sta) (q p:Int):List Int:=if q<0∨(m.length:Int)≤q∨p<1∨(g.prods.length:Int)≤p then[]else YB g m q p
theorem qe0 {m:List Sta} {i:Nat} {a b:Int} (h:(jb m)[i]?=some (a,b)): ∃n:Nat,a=n∧n<m.length:=by
 obtain ⟨n,x,e,hx,_⟩:=qdL (List.mem_of_getElem? h)
 exact⟨n,e,(List.getElem?_eq_some_iff.1 hx).1⟩
theorem qfH {H:Nat→Option MObj} {next i j:Nat} {g:Grammar} {m:List Sta} {E:Nat→Bool} {q p:Int} (hg:GOk g) (hM:MOk g m) (hi:H i=some (.own 9 [qj1 g m E j] false)) (hlt:i<next):jQ Tryz.prog 62 [.ptr i 0 0,vi q,vi p] H next (fun v H' n'=>Gr H' n' 1 ((yG g m q p).map (V.int .i64)) v):=by
 refine zU Tryz.func62 nm_ qg1 (by show 3≤84;decide) ?_
 show ewp _ qhk _ _
 by_cases hout:q<0∨(m.length:Int)≤q∨p<1∨(g.prods.length:Int)≤p
 · have e:yG g m q p=[]:=by unfold yG;rw[if_pos hout]
   rw[e]
   obtain ⟨gt,gn,gp,gpr,gta⟩:=g
   dsimp only at hout
   repeat' with_reducible first
    |refine s_ ?_
    |refine s_ ?_
    |refine s_ ?_
    |simp -implicitDefEqProofs only[wS,wT,wU,wV,wW,wX,wY,wC,wF,wG,wL,wM,wN,seval,Int.cast_ofNat_Int,Int.reduceLT,Int.reduceLE,Int.reduceEq,Int.reduceToNat,decide_true,decide_false,Bool.false_eq_true,hi]
    |(refine qa (fun h h_=>?_) (fun h h_=>?_)<;>(try simp only[wD,reduceCtorEq]at h_)<;>(try(exfalso;first|omega|exact absurd (Eq.trans (Eq.symm h_) (by assumption):false=true) (by decide)|exact absurd (Eq.trans (Eq.symm h_) (by assumption):true=false) (by decide)|(refine absurd ?_ h_;focus assumption)|(refine absurd h_ ?_;focus assumption)))<;>(try simp only[h]))
    |((first|refine zk (fun h=>?_) (fun h=>?_)|refine zl (fun h=>?_) (fun h=>?_))<;>have h_:=h<;>(try simp only[wD,reduceCtorEq]at h_)<;>(try(exfalso;first|omega|exact absurd (Eq.trans (Eq.symm h_) (by assumption):false=true) (by decide)|exact absurd (Eq.trans (Eq.symm h_) (by assumption):true=false) (by decide)|(refine absurd ?_ h_;focus assumption)|(refine absurd h_ ?_;focus assumption)))<;>(try simp only[h]))
    |refine t_ ?_
    |apply qo;omega;exact wd_
    |apply qW;(focus(first|exact qc.sl|exact qc.asl|exact qc.str));exact wf_;(focus(unfold maxLen;first|omega|(simp only[wZ]<;>omega)))
    |(refine qI ?_;simp -implicitDefEqProofs only[wM,wN,seval,hi];apply za;(focus(first|exact qc.sl|exact qc.asl|exact qc.str));(exact wf_);(focus(unfold maxLen;first|omega|(simp only[wZ]<;>omega))))
    |apply qB;(focus(first|omega|(simp only[wZ]<;>omega)))
    |apply qf;exact wu_;exact wu_;(focus((try simp -implicitDefEqProofs only[wE,Nat.reduceAdd]);rfl))
    |apply qg;exact wd_;exact wu_
    |apply qh;exact wu_
    |apply qR;exact wf_;exact wu_;exact wu_;(focus(intro _;with_unfolding_all rfl))
    |apply qO;exact wu_;exact wu_;exact wu_
    |refine zu we_ we_ we_ (xE wf_ wf_ wf_) ?_
    |simp -implicitDefEqProofs (disch:=omega) only[w64,if_neg]
   all_goals
    refine YA rfl (Or.inr rfl) ?_
    (simp -implicitDefEqProofs only[wL,seval])
    exact Gr.nil
 · have e :yG g m q p=YB g m q p:=by unfold yG;rw[if_neg hout]
   rw[e]
   obtain ⟨q',rfl⟩:=Int.eq_ofNat_of_zero_le (show 0≤q by omega)
   obtain ⟨n,rfl⟩:=Int.eq_ofNat_of_zero_le (show 0≤p by omega)
   have hqm:q'<m.length:=o_
   have hn:1≤n:=o_
   have hnl:n<g.prods.length:=o_
   have c1: ¬ ((q':Int)<0):=o_
   have c2: ¬ ((m.length:Int)≤(q':Int)):=o_
   have c3: ¬ ((n:Int)<1):=o_
   have c4: ¬ ((g.prods.length:Int)≤(n:Int)):=o_
   clear hout
   have hml:=hM.len
   have hgp:g.prods[n]?=some g.prods[n]:=ge_ hnl
   have hrl:=hg.rlen _ (List.getElem_mem hnl)
   obtain ⟨lf,hl1,hl2⟩:=hg.left _ (List.getElem_mem hnl)
   have hnn:=hg.nn2
   have htl:=hM.trans_len
   have hdef:YB g m q' n=((List.range (jb m).length).filter (Zw m g.prods[n] (q':Int) (jb m))).map (fun(i:Nat)=>(i:Int)):=by
    unfold YB
    rw[show ((n:Int)).toNat=n from rfl,hgp]
   rw[hdef]
   have hta:=fun(k:Nat) (a b:Int)=>qe0 (m:=m) (i:=k) (a:=a) (b:=b)
   generalize hT:jb m=T at *
   generalize g.prods[n]=p at *
   obtain ⟨pl,pr,pc,pco,pa,pat⟩:=p
   dsimp only at hl1 hrl
   subst hl1
   have hzl:IntKind.i64.wrap (1000+(lf:Int))=1000+(lf:Int):=wrap64 o_ o_
   have hwk:=fun(a:Nat) (h:a<m.length)=>xE (q:=a) (l:=pr) hM h o_
   obtain ⟨gt,gn,gp,gpr,gta⟩:=g
   dsimp only at hgp c4
   rw[qj1]at hi
   rw[hT]at hi
   dsimp only at hi
   repeat' with_reducible first
    |refine s_ ?_
    |refine s_ ?_
    |refine s_ ?_
    |simp -implicitDefEqProofs only[wS,wT,wU,wV,wW,wX,wY,wC,wF,wG,wL,wM,wN,seval,Int.cast_ofNat_Int,Int.reduceLT,Int.reduceLE,Int.reduceEq,Int.reduceToNat,decide_true,decide_false,Bool.false_eq_true,hi,c1,c2,c3,c4]
    |(refine qa (fun h h_=>?_) (fun h h_=>?_)<;>(try simp only[wD,reduceCtorEq]at h_)<;>(try(exfalso;first|omega|exact absurd (Eq.trans (Eq.symm h_) (by assumption):false=true) (by decide)|exact absurd (Eq.trans (Eq.symm h_) (by assumption):true=false) (by decide)|(refine absurd ?_ h_;focus assumption)|(refine absurd h_ ?_;focus assumption)))<;>(try simp only[h]))
    |((first|refine zk (fun h=>?_) (fun h=>?_)|refine zl (fun h=>?_) (fun h=>?_))<;>have h_:=h<;>(try simp only[wD,reduceCtorEq]at h_)<;>(try(exfalso;first|omega|exact absurd (Eq.trans (Eq.symm h_) (by assumption):false=true) (by decide)|exact absurd (Eq.trans (Eq.symm h_) (by assumption):true=false) (by decide)|(refine absurd ?_ h_;focus assumption)|(refine absurd h_ ?_;focus assumption)))<;>(try simp only[h]))
    |refine t_ ?_
    |apply qo;omega;exact wd_
    |apply qW;(focus(first|exact qc.sl|exact qc.asl|exact qc.str));exact wf_;(focus(unfold maxLen;first|omega|(simp only[wZ]<;>omega)))
    |(refine qI ?_;simp -implicitDefEqProofs only[wM,wN,seval,hi,c1,c2,c3,c4];apply za;(focus(first|exact qc.sl|exact qc.asl|exact qc.str));(exact wf_);(focus(unfold maxLen;first|omega|(simp only[wZ]<;>omega))))
    |apply qB;(focus(first|omega|(simp only[wZ]<;>omega)))
    |apply qf;exact wu_;exact wu_;(focus((try simp -implicitDefEqProofs only[wE,Nat.reduceAdd]);rfl))
    |apply qg;exact wd_;exact wu_
    |apply qh;exact wu_
    |apply qR;exact wf_;exact wu_;exact wu_;(focus(intro _;with_unfolding_all rfl))
    |apply qO;exact wu_;exact wu_;exact wu_
    |refine zu we_ we_ we_ (xE wf_ wf_ wf_) ?_
    |simp -implicitDefEqProofs (disch:=omega) only[w64,if_neg]
   refine qi ?nx1 (fun(k:Nat) s=>s.f 0=?v1_0∧s.f 1=?v1_1∧s.f 2=?v1_2∧s.f 38=?v1_38∧s.f 39=?v1_39∧(∃v,s.f 7=v∧Gr s.H s.next 1 ((((List.range k).filter (Zw m {left:=(lf:Int),right:=pr,prec:=pc,code:=pco,args:=pa,at_:=pat} (q':Int) T)).map (fun(i:Nat)=>(i:Int))).map (V.int .i64)) v)∧s.f 40=vi k∧(k≤T.length)∧(s.H i=some (.own 9 [.agg [.sl 6 false (gt.map Tok.V),.sl 2 false (gn.map Non.V),.sl 6 false (gp.map GPr.V),.str gpr,.str gta,.sl 2 false (m.map Sta.V),.sl 2 false (T.map prV),.map j,.sl 1 false (QM gn.length E)]] false))) (fun k=>T.length - k) (0) wj_ (by refine⟨?_,?_,?_,?_,?_,?_,?_,wo_,(by(try simp -implicitDefEqProofs only[wL,wM,wN,seval]);exact hi)⟩<;>first|(simp -implicitDefEqProofs only[wL,wM,wN,wX,seval,Option.some.injEq]<;>exact wt_)|rfl|exact⟨_,rfl⟩) ?_
   intro k s hnx ⟨g0,g1,g2,g38,g39,⟨v7,g7,G7⟩,g40,k1_0,o100⟩
   have hz:=w1_ k
   have hlr:=Q6 (Zw m {left:=(lf:Int),right:=pr,prec:=pc,code:=pco,args:=pa,at_:=pat} (q':Int) T) k
   by_cases hk:k<T.length
   · have hgi:T[k]?=some T[k]:=ge_ hk
     have hst:=Jv (Zw m {left:=(lf:Int),right:=pr,prec:=pc,code:=pco,args:=pa,at_:=pat} (q':Int) T) k
     have hbf:Zw m {left:=(lf:Int),right:=pr,prec:=pc,code:=pco,args:=pa,at_:=pat} (q':Int) T k=decide (T[k].2=1000+(lf:Int)∧yM m T[k].1 pr=q'):=by
      show decide _=_
      rw[List.getD,hgi,Option.getD_some]
     rw[hbf]at hst
     generalize ((List.range k).filter (Zw m {left:=(lf:Int),right:=pr,prec:=pc,code:=pco,args:=pa,at_:=pat} (q':Int) T)).map (fun(i:Nat)=>(i:Int))=U at *
     generalize T[k]=t at *
     obtain ⟨t1,t2⟩:=t
     obtain ⟨a,rfl,ha⟩:=hta k t1 t2 hgi
     have hwk:=hwk a ha
     dsimp only at hst
     generalize yM m (a:Int) pr=w at *
     by_cases hc1:t2=1000+(lf:Int)
     · subst hc1
       by_cases hc2:w=q'
       · subst hc2
         rw[decide_eq_true ⟨rfl,rfl⟩,if_pos rfl]at hst
         repeat' with_reducible first
          |refine s_ ?_
          |refine s_ ?_
          |refine s_ ?_
          |simp -implicitDefEqProofs only[wS,wT,wU,wV,wW,wX,wY,wC,wF,wG,wL,wM,wN,seval,Int.cast_ofNat_Int,Int.reduceLT,Int.reduceLE,Int.reduceEq,Int.reduceToNat,decide_true,decide_false,Bool.false_eq_true,g0,g1,g2,g38,g39,g7,g40,o100,Gr.dropO G7 o100,hz,hzl,G7.len]
          |(refine qa (fun h h_=>?_) (fun h h_=>?_)<;>(try simp only[wD,reduceCtorEq]at h_)<;>(try(exfalso;first|omega|exact absurd (Eq.trans (Eq.symm h_) (by assumption):false=true) (by decide)|exact absurd (Eq.trans (Eq.symm h_) (by assumption):true=false) (by decide)|(refine absurd ?_ h_;focus assumption)|(refine absurd h_ ?_;focus assumption)))<;>(try simp only[h]))
          |((first|refine zk (fun h=>?_) (fun h=>?_)|refine zl (fun h=>?_) (fun h=>?_))<;>have h_:=h<;>(try simp only[wD,reduceCtorEq]at h_)<;>(try(exfalso;first|omega|exact absurd (Eq.trans (Eq.symm h_) (by assumption):false=true) (by decide)|exact absurd (Eq.trans (Eq.symm h_) (by assumption):true=false) (by decide)|(refine absurd ?_ h_;focus assumption)|(refine absurd h_ ?_;focus assumption)))<;>(try simp only[h]))
          |apply qX rfl (G7.mono (Nat.le_refl _) (fun id h1 h2=>by(try simp only[wM]);(repeat rw[if_neg o_])));(focus(first|exact qc.sl|exact qc.asl));(focus(simp only[wZ,hz];omega));(focus(unfold maxLen;simp only[wZ,hz];omega))
          |refine t_ ?_
          |refine cq3 hwk qj qj qj ?_
          |apply Gr.iaQ G7;omega;exact wd_
          |apply qo;omega;exact wd_
          |apply qX (hg:=G7);(focus(first|rfl|(simp -implicitDefEqProofs only[wM];done)));(focus(first|exact qc.sl|exact qc.asl|exact qc.gr G7|exact qc.str));exact wf_;(focus(unfold maxLen;first|omega|(simp only[wZ]<;>omega)))
          |apply qW;(focus(first|exact qc.sl|exact qc.asl|exact qc.gr G7|exact qc.str));exact wf_;(focus(unfold maxLen;first|omega|(simp only[wZ]<;>omega)))
          |(refine qI ?_;simp -implicitDefEqProofs only[wM,wN,seval,g0,g1,g2,g38,g39,g7,g40,o100,Gr.dropO G7 o100,hz,hzl];apply za;(focus(first|exact qc.sl|exact qc.asl|exact qc.gr G7|exact qc.str));(exact wf_);(focus(unfold maxLen;first|omega|(simp only[wZ]<;>omega))))
          |apply qB;(focus(first|omega|(simp only[wZ]<;>omega)))
          |apply qf;exact wu_;exact wu_;(focus((try simp -implicitDefEqProofs only[wE,Nat.reduceAdd]);rfl))
          |apply qg;exact wd_;exact wu_
          |apply qh;exact wu_
          |apply qR;exact wf_;exact wu_;exact wu_;(focus(intro _;with_unfolding_all rfl))
          |apply qO;exact wu_;exact wu_;exact wu_
          |apply zu (hp:=xE ?_ ?_ ?_);(focus(first|exact zh|exact qj|exact zS|exact zF|exact G7.er rfl));(focus(first|exact zh|exact qj|exact zS|exact zF|exact G7.er rfl));(focus(first|exact zh|exact qj|exact zS|exact zF|exact G7.er rfl));rotate_left;exact wf_;exact wf_;exact wf_
          |simp -implicitDefEqProofs (disch:=omega) only[w64,if_neg]
         all_goals exact⟨wg_,k+1,o_,trivial,trivial,trivial,trivial,trivial,⟨_,rfl,by rw[hst];exact Gr.tok (id:=s.next+1+6+33+3) (fin:=U.length+1) hh_ wg_⟩,rfl,o_,(G7.mono (Nat.le_refl _) (fun j h1 h2=>hh_)).dropO (by((try simp only[wM]);(repeat first|rw[if_pos trivial]|rw[if_pos rfl]|rw[if_neg o_]));exact o100)⟩
       · have hd:(decide (w=(q':Int)))=false:=decide_eq_false hc2
         rw[decide_eq_false (fun h=>hc2 h.2),if_neg (by simp),List.append_nil]at hst
         repeat' with_reducible first
          |refine s_ ?_
          |refine s_ ?_
          |refine s_ ?_
          |simp -implicitDefEqProofs only[wS,wT,wU,wV,wW,wX,wY,wC,wF,wG,wL,wM,wN,seval,Int.cast_ofNat_Int,Int.reduceLT,Int.reduceLE,Int.reduceEq,Int.reduceToNat,decide_true,decide_false,Bool.false_eq_true,g0,g1,g2,g38,g39,g7,g40,o100,Gr.dropO G7 o100,hz,hzl,hd,G7.len]
          |(refine qa (fun h h_=>?_) (fun h h_=>?_)<;>(try simp only[wD,reduceCtorEq]at h_)<;>(try(exfalso;first|omega|exact absurd (Eq.trans (Eq.symm h_) (by assumption):false=true) (by decide)|exact absurd (Eq.trans (Eq.symm h_) (by assumption):true=false) (by decide)|(refine absurd ?_ h_;focus assumption)|(refine absurd h_ ?_;focus assumption)))<;>(try simp only[h]))
          |((first|refine zk (fun h=>?_) (fun h=>?_)|refine zl (fun h=>?_) (fun h=>?_))<;>have h_:=h<;>(try simp only[wD,reduceCtorEq]at h_)<;>(try(exfalso;first|omega|exact absurd (Eq.trans (Eq.symm h_) (by assumption):false=true) (by decide)|exact absurd (Eq.trans (Eq.symm h_) (by assumption):true=false) (by decide)|(refine absurd ?_ h_;focus assumption)|(refine absurd h_ ?_;focus assumption)))<;>(try simp only[h]))
          |refine t_ ?_
          |refine cq3 hwk qj qj qj ?_
          |apply Gr.iaQ G7;omega;exact wd_
          |apply qo;omega;exact wd_
          |apply qX (hg:=G7);(focus(first|rfl|(simp -implicitDefEqProofs only[wM];done)));(focus(first|exact qc.sl|exact qc.asl|exact qc.gr G7|exact qc.str));exact wf_;(focus(unfold maxLen;first|omega|(simp only[wZ]<;>omega)))
          |apply qW;(focus(first|exact qc.sl|exact qc.asl|exact qc.gr G7|exact qc.str));exact wf_;(focus(unfold maxLen;first|omega|(simp only[wZ]<;>omega)))
          |(refine qI ?_;simp -implicitDefEqProofs only[wM,wN,seval,g0,g1,g2,g38,g39,g7,g40,o100,Gr.dropO G7 o100,hz,hzl,hd];apply za;(focus(first|exact qc.sl|exact qc.asl|exact qc.gr G7|exact qc.str));(exact wf_);(focus(unfold maxLen;first|omega|(simp only[wZ]<;>omega))))
          |apply qB;(focus(first|omega|(simp only[wZ]<;>omega)))
          |apply qf;exact wu_;exact wu_;(focus((try simp -implicitDefEqProofs only[wE,Nat.reduceAdd]);rfl))
          |apply qg;exact wd_;exact wu_
          |apply qh;exact wu_
          |apply qR;exact wf_;exact wu_;exact wu_;(focus(intro _;with_unfolding_all rfl))
          |apply qO;exact wu_;exact wu_;exact wu_
          |apply zu (hp:=xE ?_ ?_ ?_);(focus(first|exact zh|exact qj|exact zS|exact zF|exact G7.er rfl));(focus(first|exact zh|exact qj|exact zS|exact zF|exact G7.er rfl));(focus(first|exact zh|exact qj|exact zS|exact zF|exact G7.er rfl));rotate_left;exact wf_;exact wf_;exact wf_
          |simp -implicitDefEqProofs (disch:=omega) only[w64,if_neg]
         all_goals exact⟨wg_,k+1,o_,trivial,trivial,trivial,trivial,trivial,⟨v7,rfl,by rw[hst];exact G7.mono wg_ (fun j h1 h2=>hh_)⟩,rfl,o_,trivial⟩
     · have hd:(decide (t2=1000+(lf:Int)))=false:=decide_eq_false hc1
       rw[decide_eq_false (fun h=>hc1 h.1),if_neg (by simp),List.append_nil]at hst
       repeat' with_reducible first
        |refine s_ ?_
        |refine s_ ?_
        |refine s_ ?_
        |simp -implicitDefEqProofs only[wS,wT,wU,wV,wW,wX,wY,wC,wF,wG,wL,wM,wN,seval,Int.cast_ofNat_Int,Int.reduceLT,Int.reduceLE,Int.reduceEq,Int.reduceToNat,decide_true,decide_false,Bool.false_eq_true,g0,g1,g2,g38,g39,g7,g40,o100,Gr.dropO G7 o100,hz,hzl,hd,G7.len]
        |(refine qa (fun h h_=>?_) (fun h h_=>?_)<;>(try simp only[wD,reduceCtorEq]at h_)<;>(try(exfalso;first|omega|exact absurd (Eq.trans (Eq.symm h_) (by assumption):false=true) (by decide)|exact absurd (Eq.trans (Eq.symm h_) (by assumption):true=false) (by decide)|(refine absurd ?_ h_;focus assumption)|(refine absurd h_ ?_;focus assumption)))<;>(try simp only[h]))
        |((first|refine zk (fun h=>?_) (fun h=>?_)|refine zl (fun h=>?_) (fun h=>?_))<;>have h_:=h<;>(try simp only[wD,reduceCtorEq]at h_)<;>(try(exfalso;first|omega|exact absurd (Eq.trans (Eq.symm h_) (by assumption):false=true) (by decide)|exact absurd (Eq.trans (Eq.symm h_) (by assumption):true=false) (by decide)|(refine absurd ?_ h_;focus assumption)|(refine absurd h_ ?_;focus assumption)))<;>(try simp only[h]))
        |refine t_ ?_
        |apply Gr.iaQ G7;omega;exact wd_
        |apply qo;omega;exact wd_
        |apply qX (hg:=G7);(focus(first|rfl|(simp -implicitDefEqProofs only[wM];done)));(focus(first|exact qc.sl|exact qc.asl|exact qc.gr G7|exact qc.str));exact wf_;(focus(unfold maxLen;first|omega|(simp only[wZ]<;>omega)))
        |apply qW;(focus(first|exact qc.sl|exact qc.asl|exact qc.gr G7|exact qc.str));exact wf_;(focus(unfold maxLen;first|omega|(simp only[wZ]<;>omega)))
        |(refine qI ?_;simp -implicitDefEqProofs only[wM,wN,seval,g0,g1,g2,g38,g39,g7,g40,o100,Gr.dropO G7 o100,hz,hzl,hd];apply za;(focus(first|exact qc.sl|exact qc.asl|exact qc.gr G7|exact qc.str));(exact wf_);(focus(unfold maxLen;first|omega|(simp only[wZ]<;>omega))))
        |apply qB;(focus(first|omega|(simp only[wZ]<;>omega)))
        |apply qf;exact wu_;exact wu_;(focus((try simp -implicitDefEqProofs only[wE,Nat.reduceAdd]);rfl))
        |apply qg;exact wd_;exact wu_
        |apply qh;exact wu_
        |apply qR;exact wf_;exact wu_;exact wu_;(focus(intro _;with_unfolding_all rfl))
        |apply qO;exact wu_;exact wu_;exact wu_
        |apply zu (hp:=xE ?_ ?_ ?_);(focus(first|exact zh|exact qj|exact zS|exact zF|exact G7.er rfl));(focus(first|exact zh|exact qj|exact zS|exact zF|exact G7.er rfl));(focus(first|exact zh|exact qj|exact zS|exact zF|exact G7.er rfl));rotate_left;exact wf_;exact wf_;exact wf_
        |simp -implicitDefEqProofs (disch:=omega) only[w64,if_neg]
       all_goals exact⟨wg_,k+1,o_,trivial,trivial,trivial,trivial,trivial,⟨v7,rfl,by rw[hst];exact G7.mono wg_ (fun j h1 h2=>hh_)⟩,rfl,o_,trivial⟩
   · have e:k=T.length:=o_
     subst e
     repeat' with_reducible first
      |refine s_ ?_
      |refine s_ ?_
      |refine s_ ?_
      |simp -implicitDefEqProofs only[wS,wT,wU,wV,wW,wX,wY,wC,wF,wG,wL,wM,wN,seval,Int.cast_ofNat_Int,Int.reduceLT,Int.reduceLE,Int.reduceEq,Int.reduceToNat,decide_true,decide_false,Bool.false_eq_true,g0,g1,g2,g38,g39,g7,g40,o100,Gr.dropO G7 o100,hz,G7.len]
      |(refine qa (fun h h_=>?_) (fun h h_=>?_)<;>(try simp only[wD,reduceCtorEq]at h_)<;>(try(exfalso;first|omega|exact absurd (Eq.trans (Eq.symm h_) (by assumption):false=true) (by decide)|exact absurd (Eq.trans (Eq.symm h_) (by assumption):true=false) (by decide)|(refine absurd ?_ h_;focus assumption)|(refine absurd h_ ?_;focus assumption)))<;>(try simp only[h]))
      |((first|refine zk (fun h=>?_) (fun h=>?_)|refine zl (fun h=>?_) (fun h=>?_))<;>have h_:=h<;>(try simp only[wD,reduceCtorEq]at h_)<;>(try(exfalso;first|omega|exact absurd (Eq.trans (Eq.symm h_) (by assumption):false=true) (by decide)|exact absurd (Eq.trans (Eq.symm h_) (by assumption):true=false) (by decide)|(refine absurd ?_ h_;focus assumption)|(refine absurd h_ ?_;focus assumption)))<;>(try simp only[h]))
      |refine t_ ?_
      |apply Gr.iaQ G7;omega;exact wd_
      |apply qo;omega;exact wd_
      |apply qX (hg:=G7);(focus(first|rfl|(simp -implicitDefEqProofs only[wM];done)));(focus(first|exact qc.sl|exact qc.asl|exact qc.gr G7|exact qc.str));exact wf_;(focus(unfold maxLen;first|omega|(simp only[wZ]<;>omega)))
      |apply qW;(focus(first|exact qc.sl|exact qc.asl|exact qc.gr G7|exact qc.str));exact wf_;(focus(unfold maxLen;first|omega|(simp only[wZ]<;>omega)))
      |(refine qI ?_;simp -implicitDefEqProofs only[wM,wN,seval,g0,g1,g2,g38,g39,g7,g40,o100,Gr.dropO G7 o100,hz];apply za;(focus(first|exact qc.sl|exact qc.asl|exact qc.gr G7|exact qc.str));(exact wf_);(focus(unfold maxLen;first|omega|(simp only[wZ]<;>omega))))
      |apply qB;(focus(first|omega|(simp only[wZ]<;>omega)))
      |apply qf;exact wu_;exact wu_;(focus((try simp -implicitDefEqProofs only[wE,Nat.reduceAdd]);rfl))
      |apply qg;exact wd_;exact wu_
      |apply qh;exact wu_
      |apply qR;exact wf_;exact wu_;exact wu_;(focus(intro _;with_unfolding_all rfl))
      |apply qO;exact wu_;exact wu_;exact wu_
      |apply zu (hp:=xE ?_ ?_ ?_);(focus(first|exact zh|exact qj|exact zS|exact zF|exact G7.er rfl));(focus(first|exact zh|exact qj|exact zS|exact zF|exact G7.er rfl));(focus(first|exact zh|exact qj|exact zS|exact zF|exact G7.er rfl));rotate_left;exact wf_;exact wf_;exact wf_
      |simp -implicitDefEqProofs (disch:=omega) only[w64,if_neg]
     refine YA rfl (Or.inr rfl) ?_
     (simp -implicitDefEqProofs only[wL,seval])
     exact G7.mono wg_ (fun _ _ _=>rfl)
theorem kG {g:Grammar} {m:List Sta} {q p:Int} (hg:GOk g) (hM:MOk g m) (hR: ∀q∈m,RMv q):Pure Tryz.prog 26 [g.V,.sl 2 false (m.map Sta.V),vi q,vi p] (.sl 1 false ((yG g m q p).map (V.int .i64))):=by
 refine pure_intro Tryz.func26 nm_ qhD (by show 4≤15;decide) ?_
 show ewp _ qz3 _ _
 obtain ⟨E,hE,_⟩:=Vv (token:=false) hg
 repeat' with_reducible first
  |refine s_ ?_
  |simp -implicitDefEqProofs only[wS,wT,wU,wV,wW,wX,wY,wC,wF,wG,wL,wM,wN,seval,Int.cast_ofNat_Int,Int.reduceLT,Int.reduceLE,Int.reduceEq,Int.reduceToNat,decide_true,decide_false,Bool.false_eq_true]
  |(refine jg rfl rfl rfl ((of_run hg hM hR hE).mono ?_);rintro v1 H1 n1 ⟨i,j,rfl,q1,q2,q3,q4⟩;(try simp only[wN]at q1))
  |(refine jg rfl rfl rfl ((qfH hg hM (by((try simp only[wM]);(repeat first|rw[if_pos trivial]|rw[if_pos rfl]|rw[if_neg o_]));exact q3) wg_).mono ?_);rintro v2 H2 n2 q5)
  |refine t_ ?_
  |apply qf;exact wu_;exact wu_;(focus((try simp -implicitDefEqProofs only[wE,Nat.reduceAdd]);rfl))
  |apply qg;exact wd_;exact wu_
  |apply qh;exact wu_
  |simp -implicitDefEqProofs (disch:=omega) only[w64,if_neg]
 refine qF rfl (Or.inr rfl) ?_
 (simp -implicitDefEqProofs only[wL,seval])
 exact q5.er rfl
theorem qeZ {g:Grammar} {m:List Sta} {q p:Int} (hM:MOk g m) (hout:q<0∨(m.length:Int)≤q∨p<1∨(g.prods.length:Int)≤p):Pure Tryz.prog 27 [g.V,.sl 2 false (m.map Sta.V),vi q,vi p] (.sl 1 false []):=by
 refine pure_intro Tryz.func27 nm_ qf8 (by show 4≤74;decide) ?_
 show ewp _ qcR _ _
 have hml:=hM.len
 obtain ⟨gt,gn,gp,gpr,gta⟩:=g
 dsimp only at hout
 repeat' with_reducible first
  |refine s_ ?_
  |refine s_ ?_
  |refine s_ ?_
  |simp -implicitDefEqProofs only[wS,wT,wU,wV,wW,wX,wY,wC,wF,wG,wL,wM,wN,seval,Int.cast_ofNat_Int,Int.reduceLT,Int.reduceLE,Int.reduceEq,Int.reduceToNat,decide_true,decide_false,Bool.false_eq_true]
  |(refine qa (fun h h_=>?_) (fun h h_=>?_)<;>(try simp only[wD,reduceCtorEq]at h_)<;>(try(exfalso;first|omega|exact absurd (Eq.trans (Eq.symm h_) (by assumption):false=true) (by decide)|exact absurd (Eq.trans (Eq.symm h_) (by assumption):true=false) (by decide)|(refine absurd ?_ h_;focus assumption)|(refine absurd h_ ?_;focus assumption)))<;>(try simp only[h]))
  |((first|refine zk (fun h=>?_) (fun h=>?_)|refine zl (fun h=>?_) (fun h=>?_))<;>have h_:=h<;>(try simp only[wD,reduceCtorEq]at h_)<;>(try(exfalso;first|omega|exact absurd (Eq.trans (Eq.symm h_) (by assumption):false=true) (by decide)|exact absurd (Eq.trans (Eq.symm h_) (by assumption):true=false) (by decide)|(refine absurd ?_ h_;focus assumption)|(refine absurd h_ ?_;focus assumption)))<;>(try simp only[h]))
  |refine t_ ?_
  |apply qo;omega;exact wd_
  |apply qW;(focus(first|exact qc.sl|exact qc.asl|exact qc.str));exact wf_;(focus(unfold maxLen;first|omega|(simp only[wZ]<;>omega)))
  |(refine qI ?_;simp -implicitDefEqProofs only[wM,wN,seval];apply za;(focus(first|exact qc.sl|exact qc.asl|exact qc.str));(exact wf_);(focus(unfold maxLen;first|omega|(simp only[wZ]<;>omega))))
  |apply qB;(focus(first|omega|(simp only[wZ]<;>omega)))
  |apply qf;exact wu_;exact wu_;(focus((try simp -implicitDefEqProofs only[wE,Nat.reduceAdd]);rfl))
  |apply qg;exact wd_;exact wu_
  |apply qh;exact wu_
  |refine zf we_ (zL wf_ wf_) ?_
  |refine zu we_ we_ we_ (zN wf_ wf_ wf_) ?_
  |simp -implicitDefEqProofs (disch:=omega) only[w64,if_neg]
 all_goals
  refine qF rfl (Or.inr rfl) ?_
  (simp -implicitDefEqProofs only[wL,seval])
  exact ErL.sl .nil
theorem qlN {g:Grammar} {m:List Sta} {q p:Int} (hg:GOk g) (hM:MOk g m):Pure Tryz.prog 27 [g.V,.sl 2 false (m.map Sta.V),vi q,vi p] (.sl 1 false ((yG g m q p).map (V.int .i64))):=by
 have hml:=hM.len
 by_cases hout:q<0∨(m.length:Int)≤q∨p<1∨(g.prods.length:Int)≤p
 · have e:yG g m q p=[]:=by unfold yG;rw[if_pos hout]
   rw[e]
   exact qeZ hM hout
 · have e:yG g m q p=YB g m q p:=by unfold yG;rw[if_neg hout]
   rw[e]
   obtain ⟨q',rfl⟩:=Int.eq_ofNat_of_zero_le (show 0≤q by omega)
   obtain ⟨n,rfl⟩:=Int.eq_ofNat_of_zero_le (show 0≤p by omega)
   exact jh (m:=m) (q:=q') (n:=n) hg o_ (fun q h=>by have:=hM.mvl q h;omega) o_ o_ o_
end Go.Proofs
