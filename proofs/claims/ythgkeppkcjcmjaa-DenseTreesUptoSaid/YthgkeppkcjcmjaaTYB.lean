/- Part of a proof that a law of the given program answers true. -/
import Derived.Test.YthgkeppkcjcmjaaTYA
import Derived.Test.YthgkeppkcjcmjaaTRA
set_option linter.unusedSimpArgs false
set_option linter.unusedVariables false
set_option maxHeartbeats 4000000
namespace Go.Proofs
open Go.E
theorem qfN {cls:Cls} {id:Nat} {s:St} {K:V→St→Prop} {z bytes ti yi n m:Nat} {es ys:List V} {ro:Bool} (hcl:(cls == .t)=false) (hH:s.H ti=some (.own z es false)) (hn:n=es.length) (hY:s.H yi=some (.own z ys ro)) (hm:m=ys.length)
 (hb:(es.length+ys.length) *bytes≤140737488355328) (hl:es.length+ys.length≤maxLen)
 (hk:K (.msl id z 0 (es.length+ys.length)) ((s.setO ti none).setO id (some (.own z (es++ys) false)))):Vr cls id s K true z bytes (.msl ti z 0 n) (.msl yi z 0 m):=by
 subst hn hm
 have hs:qbr s z (.msl yi z 0 ys.length)=some ys:=by simp[qbr,hY]
 unfold Vr
 rw[hs]
 refine⟨fun e=>(by subst e;cases hcl),?_⟩
 have e:qW id s true z (.msl ti z 0 es.length) ys=some (.msl id z 0 (es.length+ys.length),(s.setO ti none).setO id (some (.own z (es++ys) false)),es.length+ys.length):=by simp[qW,hH]
 rw[e]
 exact⟨hb,hl,hk⟩
theorem qdo {g :Grammar} (hg:GOk g): ∃l,IsLow g l∧Pure Try.prog 61 [g.V] (.sl 1 false (vJ g.nons.length l)):=by
 have hh:=Vz (G:=fun v=> ∃l,v=.sl 1 false (vJ g.nons.length l)∧IsLow g l) (args:=[g.V]) Try.func61 nm_ qNJ (by show 1≤95;decide) ?_
 · obtain ⟨v,⟨l,rfl,h⟩,h2⟩:=hh
   exact⟨l,h,h2⟩
 show ewp _ qja _ _
 have hnl:=hg.nn2;have hpl:=hg.pl2
 have hb0:List.replicate g.nons.length (V.int .i64 0)=vJ g.nons.length (fun k=>if k<0 then -1 else 0):=(qKe _).trans (VK fun k _=>by rw[if_neg o_])
 repeat' with_reducible first
  |refine s_ ?_
  |simp only[wZZ,seval]
  |refine t_ ?_
  |apply qbj;exact wf_;exact wf_;(focus(unfold maxLen;first|omega|(simp only[wZ]<;>omega)))
 rw[hb0]
 refine qb ?nx1 (fun(i:Nat) s=>s.f 1=?v1_1∧s.f 3=?v1_3∧s.H 0=some (MObj.own 5 [g.V] false)∧s.f 4=vi i∧(i≤g.nons.length)∧((s.H 5=some (MObj.own 1 (vJ g.nons.length (fun k=>if k<i then -1 else 0)) false)))) (fun i=>g.nons.length - i) (0) wj_ (by refine⟨?_,?_,?_,?_,wo_,wc_⟩<;>first|(simp only[wL,wM,wN,wX,seval,Option.some.injEq]<;>exact wt_)|rfl|exact⟨_,rfl⟩) ?_
 intro i s hnx ⟨g1,g3,o0,g4,k1_0,k1_1⟩
 have hz:=w1_ i
 by_cases hi:i<g.nons.length
 · have hst:vJ g.nons.length (qdL (fun k=>if k<i then -1 else 0) i (-1))=vJ g.nons.length (fun k=>if k<i+1 then -1 else 0):=VK fun k _=>by
    unfold qdL
    by_cases e:k=i
    · subst e;rw[if_pos rfl,if_pos o_]
    · rw[if_neg e]
      dsimp only
      by_cases h:k<i
      · rw[if_pos h,if_pos o_]
      · rw[if_neg h,if_neg o_]
   repeat' with_reducible first
    |refine s_ ?_
    |simp only[wZZ,seval,g1,g3,g4,o0,k1_1,hz]
    |apply qa<;>intro h h_<;>(try simp only[wD,reduceCtorEq]at h_)<;>(try exact wb_)<;>(try simp only[h])
    |apply zm;omega;omega
    |(refine stI hi ?_)
   rw[hst]
   refine⟨wk_,i+1,o_,?_⟩
   refine⟨?_,?_,?_,?_,?_,?_⟩
   iterate 4 (focus(first|(simp only[wL,wM,wN,wX,seval,Option.some.injEq,g1,g3,g4,o0]<;>exact wt_)|rfl|exact⟨_,rfl⟩))
   all_goals try omega
   all_goals first|trivial|rfl
 · have hmn : vJ g.nons.length (fun k=>if k<i then(-1:Int)else 0)=vJ g.nons.length (fun _=> -1):=VK fun k hk=>by rw[if_pos o_]
   rw[hmn]at k1_1
   repeat' with_reducible first
    |refine s_ ?_
    |simp only[wZZ,seval,g1,g3,g4,o0,k1_1]
    |apply qa<;>intro h h_<;>(try simp only[wD,reduceCtorEq]at h_)<;>(try exact wb_)<;>(try simp only[h])
   refine qb ?nx2 (fun(q:Nat×Nat×(Nat→Int)) s=>s.f 1=?v2_1∧s.H 0=some (MObj.own 5 [g.V] false)∧s.f 3=.msl q.2.1 1 0 g.nons.length∧s.f 5=vi q.1∧(q.1≤g.nons.length)∧(LowR g q.1 q.2.2)∧((s.H q.2.1=some (MObj.own 1 (vJ g.nons.length q.2.2) false)))∧(1≤q.2.1)∧(q.2.1<s.next)) (fun q=>g.nons.length - q.1) ((0,5,fun _=> -1)) wj_ (by refine⟨?_,?_,?_,?_,wo_,(by exact LowR.init g),(by(simp only[wM];(repeat first|rw[if_pos trivial]|rw[if_pos rfl]|rw[if_neg o_]));exact k1_1),wo_,wg_⟩<;>first|(simp only[wL,wM,wN,wX,seval,Option.some.injEq,g1,g3,g4,o0]<;>exact wt_)|rfl|exact⟨_,rfl⟩) ?_
   intro q s hnx ⟨g1,o0,g3,g5,k2_0,k2_1,k2_2,k2_3,k2_4⟩
   obtain ⟨r,li,l⟩:=q
   dsimp only at *
   have hzr:=w1_ r
   by_cases hr:r<g.nons.length
   · have hil : (vJ g.nons.length l).length=g.nons.length:=xQ _ _
     repeat' with_reducible first
      |refine s_ ?_
      |simp only[wZZ,seval,g1,g3,g5,o0,k2_2]
      |apply qa<;>intro h h_<;>(try simp only[wD,reduceCtorEq]at h_)<;>(try exact wb_)<;>(try simp only[h])
     refine qfN (es:=[]) (ys:=vJ g.nons.length l) (ro:=false) rfl hh_ rfl (by((try simp only[wM]);(repeat first|rw[if_pos trivial]|rw[if_pos rfl]|rw[if_neg o_]));exact k2_2) hil.symm (by rw[hil];simp;omega) (by rw[hil];unfold maxLen;simp;omega) ?_
     rw[hil]
     simp only[List.nil_append,List.length_nil,Nat.zero_add]
     obtain ⟨ni,hni⟩: ∃ni,ni=s.next+4+2:=⟨_,rfl⟩
     rw[← hni]
     repeat' with_reducible first
      |refine s_ ?_
      |simp only[wZZ,seval,g1,g3,g5,o0]
     refine qb ?nx3 (fun(p:Nat×(Nat→Int)) s=>s.f 1=?v3_1∧s.f 3=?v3_3∧s.f 5=?v3_5∧s.f 6=?v3_6∧s.f 7=vi p.1∧(p.1≤g.prods.length)∧(LowN g l p.2 p.1)∧((s.H ni=some (MObj.own 1 (vJ g.nons.length p.2) false)))∧((s.H li=some (MObj.own 1 (vJ g.nons.length l) false)))∧((s.H 0=some (MObj.own 5 [g.V] false)))) (fun p=>g.prods.length - p.1) ((0,l)) wj_ (by refine⟨?_,?_,?_,?_,?_,wo_,(by exact LowN.init g l),wc_,(by(simp only[wM];(repeat first|rw[if_pos trivial]|rw[if_pos rfl]|rw[if_neg o_]));exact k2_2),(by(simp only[wM];(repeat first|rw[if_pos trivial]|rw[if_pos rfl]|rw[if_neg o_]));exact o0)⟩<;>first|(simp only[wL,wM,wN,wX,seval,Option.some.injEq,g1,g3,g5,o0]<;>exact wt_)|rfl|exact⟨_,rfl⟩) ?_
     intro p s hnx ⟨g1,g3,g5,g6,g7,k3_0,k3_1,k3_2,k3_3,k3_4⟩
     obtain ⟨i,l'⟩:=p
     dsimp only at *
     have hz:=w1_ i
     by_cases hi:i<g.prods.length
     · have hmem:=List.getElem_mem hi
       obtain ⟨lf,hl1,hl2⟩:=hg.left _ hmem
       have hrt:=VJ hg hmem
       have hrl:=hg.rlen _ hmem
       generalize hp:g.prods[i]=p at *
       have hgp:g.prods[i]?=some p:=by rw[ge_ hi,hp]
       clear hp
       obtain ⟨pl,pr,pc,pco,pa,pat⟩:=p
       dsimp only at hl1 hrt hrl
       subst hl1
       repeat' with_reducible first
        |refine s_ ?_
        |simp only[wZZ,seval,g1,g3,g5,g6,g7,k3_2,k3_3,k3_4,hz]
        |apply qa<;>intro h h_<;>(try simp only[wD,reduceCtorEq]at h_)<;>(try exact wb_)<;>(try simp only[h])
        |apply zm;omega;omega
        |(refine ldI hl2 ?_)
        |refine t_ ?_
       refine qb ?nx4 (fun(k:Nat) s=>s.f 1=?v4_1∧s.f 3=?v4_3∧s.f 5=?v4_5∧s.f 6=?v4_6∧s.f 7=?v4_7∧s.f 9=vi k∧(k≤pr.length)∧((s.H ni=some (MObj.own 1 (vJ g.nons.length l') false)))∧((s.H li=some (MObj.own 1 (vJ g.nons.length l) false)))∧((s.H 0=some (MObj.own 5 [g.V] false)))∧(s.f 8=.bool (decide (l lf<0) && zo true (Xb l) (pr.take k)))) (fun k=>pr.length - k) (0) wj_ (by refine⟨?_,?_,?_,?_,?_,?_,wo_,(by(simp only[wM];(repeat first|rw[if_pos trivial]|rw[if_pos rfl]|rw[if_neg o_]));exact k3_2),(by(simp only[wM];(repeat first|rw[if_pos trivial]|rw[if_pos rfl]|rw[if_neg o_]));exact k3_3),(by(simp only[wM];(repeat first|rw[if_pos trivial]|rw[if_pos rfl]|rw[if_neg o_]));exact k3_4),(by(try simp only[wL,wM,wN,seval,g1,g3,g5,g6,g7]);simp[zo])⟩<;>first|(simp only[wL,wM,wN,wX,seval,Option.some.injEq,g1,g3,g5,g6,g7]<;>exact wt_)|rfl|exact⟨_,rfl⟩) ?_
       intro k s hnx ⟨g1,g3,g5,g6,g7,g9,k4_0,k4_1,k4_2,k4_3,g8⟩
       have hzk:=w1_ k
       by_cases hk:k<pr.length
       · have hgk:pr[k]?=some pr[k]:=ge_ hk
         have hst:=Zu true (Xb l) (pr.take k) pr[k]
         rw[show pr.take k++[pr[k]]=pr.take (k+1) by rw[List.take_add_one,hgk];rfl]at hst
         have hst:=congrArg (fun b=>decide (l lf<0) && b) hst
         rw[← Bool.and_assoc]at hst
         have hsr:=hrt _ (List.getElem_mem hk)
         generalize pr[k]=sy at *
         generalize (decide (l lf<0) && zo true (Xb l) (pr.take k))=q at *
         rcases hsr with hs|⟨m,rfl,hm⟩
         · rw [if_pos hs,Bool.and_true]at hst
           cases q with
           | false=>
             repeat' with_reducible first
              |refine s_ ?_
              |simp only[wZZ,seval,g1,g3,g5,g6,g7,g9,g8,k4_1,k4_2,k4_3,hzk]
              |apply qa<;>intro h h_<;>(try simp only[wD,reduceCtorEq]at h_)<;>(try exact wb_)<;>(try simp only[h])
              |refine t_ ?_
             refine⟨wk_,k+1,o_,?_⟩
             refine⟨?_,?_,?_,?_,?_,?_,?_,?_,?_,?_,?_⟩
             iterate 6 (focus(first|(simp only[wL,wM,wN,wX,seval,Option.some.injEq,g1,g3,g5,g6,g7,g9,g8,hst,k4_1,k4_2,k4_3]<;>exact wt_)|rfl|exact⟨_,rfl⟩))
             all_goals try omega
             all_goals try simp only[wL,wM,wN,wX,seval,g1,g3,g5,g6,g7,g9,g8,hst,k4_1,k4_2,k4_3]
             all_goals first|trivial|rfl
           | true=>
             repeat' with_reducible first
              |refine s_ ?_
              |simp only[wZZ,seval,g1,g3,g5,g6,g7,g9,g8,k4_1,k4_2,k4_3,hzk]
              |(first|apply qa|apply qg|apply qh)<;>intro h h_<;>(try simp only[wD,reduceCtorEq]at h_)<;>(try exact wb_)<;>(try simp only[h])
              |refine t_ ?_
             refine⟨wk_,k+1,o_,?_⟩
             refine⟨?_,?_,?_,?_,?_,?_,?_,?_,?_,?_,?_⟩
             iterate 6 (focus(first|(simp only[wL,wM,wN,wX,seval,Option.some.injEq,g1,g3,g5,g6,g7,g9,g8,hst,k4_1,k4_2,k4_3]<;>exact wt_)|rfl|exact⟨_,rfl⟩))
             all_goals try omega
             all_goals try simp only[wL,wM,wN,wX,seval,g1,g3,g5,g6,g7,g9,g8,hst,k4_1,k4_2,k4_3]
             all_goals first|trivial|rfl
         · have hzm:IntKind.i64.wrap (1000+(m:Int) - 1000)=(m:Int):=by rw[wrap64 o_ o_];omega
           rw[if_neg o_,show (1000+(m:Int) - 1000).toNat=m by omega]at hst
           cases hb:Xb l m with
           | false=>
             rw[hb,Bool.and_false]at hst
             have hb2:decide (0≤l m)=false:=hb
             cases q with
             | false=>
               repeat' with_reducible first
                |refine s_ ?_
                |simp only[wZZ,seval,g1,g3,g5,g6,g7,g9,g8,k4_1,k4_2,k4_3,hzk,hzm,hb2]
                |apply qa<;>intro h h_<;>(try simp only[wD,reduceCtorEq]at h_)<;>(try exact wb_)<;>(try simp only[h])
                |refine t_ ?_
               refine⟨wk_,k+1,o_,?_⟩
               refine⟨?_,?_,?_,?_,?_,?_,?_,?_,?_,?_,?_⟩
               iterate 6 (focus(first|(simp only[wL,wM,wN,wX,seval,Option.some.injEq,g1,g3,g5,g6,g7,g9,g8,hst,k4_1,k4_2,k4_3]<;>exact wt_)|rfl|exact⟨_,rfl⟩))
               all_goals try omega
               all_goals try simp only[wL,wM,wN,wX,seval,g1,g3,g5,g6,g7,g9,g8,hst,k4_1,k4_2,k4_3]
               all_goals first|trivial|rfl
             | true=>
               repeat' with_reducible first
                |refine s_ ?_
                |simp only[wZZ,seval,g1,g3,g5,g6,g7,g9,g8,k4_1,k4_2,k4_3,hzk,hzm,hb2]
                |(first|apply qa|apply qg|apply qh)<;>intro h h_<;>(try simp only[wD,reduceCtorEq]at h_)<;>(try exact wb_)<;>(try simp only[h])
                |refine t_ ?_
                |apply zm;omega;omega
                |(refine ldI hm ?_)
               refine⟨wk_,k+1,o_,?_⟩
               refine⟨?_,?_,?_,?_,?_,?_,?_,?_,?_,?_,?_⟩
               iterate 6 (focus(first|(simp only[wL,wM,wN,wX,seval,Option.some.injEq,g1,g3,g5,g6,g7,g9,g8,hst,k4_1,k4_2,k4_3]<;>exact wt_)|rfl|exact⟨_,rfl⟩))
               all_goals try omega
               all_goals try simp only[wL,wM,wN,wX,seval,g1,g3,g5,g6,g7,g9,g8,hst,k4_1,k4_2,k4_3]
               all_goals first|trivial|rfl
           | true=>
             rw[hb,Bool.and_true]at hst
             have hb2:decide (0≤l m)=true:=hb
             cases q with
             | false=>
               repeat' with_reducible first
                |refine s_ ?_
                |simp only[wZZ,seval,g1,g3,g5,g6,g7,g9,g8,k4_1,k4_2,k4_3,hzk,hzm,hb2]
                |apply qa<;>intro h h_<;>(try simp only[wD,reduceCtorEq]at h_)<;>(try exact wb_)<;>(try simp only[h])
                |refine t_ ?_
               refine⟨wk_,k+1,o_,?_⟩
               refine⟨?_,?_,?_,?_,?_,?_,?_,?_,?_,?_,?_⟩
               iterate 6 (focus(first|(simp only[wL,wM,wN,wX,seval,Option.some.injEq,g1,g3,g5,g6,g7,g9,g8,hst,k4_1,k4_2,k4_3]<;>exact wt_)|rfl|exact⟨_,rfl⟩))
               all_goals try omega
               all_goals try simp only[wL,wM,wN,wX,seval,g1,g3,g5,g6,g7,g9,g8,hst,k4_1,k4_2,k4_3]
               all_goals first|trivial|rfl
             | true=>
               repeat' with_reducible first
                |refine s_ ?_
                |simp only[wZZ,seval,g1,g3,g5,g6,g7,g9,g8,k4_1,k4_2,k4_3,hzk,hzm,hb2]
                |(first|apply qa|apply qg|apply qh)<;>intro h h_<;>(try simp only[wD,reduceCtorEq]at h_)<;>(try exact wb_)<;>(try simp only[h])
                |refine t_ ?_
                |apply zm;omega;omega
                |(refine ldI hm ?_)
               refine⟨wk_,k+1,o_,?_⟩
               refine⟨?_,?_,?_,?_,?_,?_,?_,?_,?_,?_,?_⟩
               iterate 6 (focus(first|(simp only[wL,wM,wN,wX,seval,Option.some.injEq,g1,g3,g5,g6,g7,g9,g8,hst,k4_1,k4_2,k4_3]<;>exact wt_)|rfl|exact⟨_,rfl⟩))
               all_goals try omega
               all_goals try simp only[wL,wM,wN,wX,seval,g1,g3,g5,g6,g7,g9,g8,hst,k4_1,k4_2,k4_3]
               all_goals first|trivial|rfl
       · rw [List.take_of_length_le o_]at g8
         cases hfit:(decide (l lf<0) && zo true (Xb l) pr)with
         | false=>
           rw[hfit]at g8
           have hn:=k3_1.skip hgp (fun⟨e1,e2⟩=>by rw[show l (lf:Int).toNat=l lf from rfl]at e1;rw[decide_eq_true e1,e2]at hfit;cases hfit)
           repeat' with_reducible first
            |refine s_ ?_
            |simp only[wZZ,seval,g1,g3,g5,g6,g7,g9,g8,k4_1,k4_2,k4_3,hz]
            |apply qa<;>intro h h_<;>(try simp only[wD,reduceCtorEq]at h_)<;>(try exact wb_)<;>(try simp only[h])
            |refine t_ ?_
           refine⟨wk_,(i+1,l'),o_,?_⟩
           refine⟨?_,?_,?_,?_,?_,?_,?_,?_,?_,?_⟩
           iterate 5 (focus(first|(simp only[wL,wM,wN,wX,seval,Option.some.injEq,g1,g3,g5,g6,g7,g9,g8,k4_1,k4_2,k4_3]<;>exact wt_)|rfl|exact⟨_,rfl⟩))
           all_goals try omega
           all_goals first|trivial|rfl|exact hn|exact k4_1|exact k4_2|exact k4_3
         | true=>
           rw[hfit]at g8
           rw[Bool.and_eq_true,decide_eq_true_eq]at hfit
           have hn:=k3_1.put hgp rfl hfit.1 hfit.2
           repeat' with_reducible first
            |refine s_ ?_
            |simp only[wZZ,seval,g1,g3,g5,g6,g7,g9,g8,k4_1,k4_2,k4_3,hz]
            |apply qa<;>intro h h_<;>(try simp only[wD,reduceCtorEq]at h_)<;>(try exact wb_)<;>(try simp only[h])
            |apply zm;omega;omega
            |refine t_ ?_
            |(refine stI hl2 ?_)
            |simp(disch:=omega) only[w64,if_neg]
           refine⟨wk_,(i+1,qdL l' lf (i:Int)),o_,?_⟩
           refine⟨?_,?_,?_,?_,?_,?_,?_,?_,?_,?_⟩
           iterate 5 (focus(first|(simp only[wL,wM,wN,wX,seval,Option.some.injEq,g1,g3,g5,g6,g7,g9,g8,k4_1,k4_2,k4_3]<;>exact wt_)|rfl|exact⟨_,rfl⟩))
           all_goals try omega
           all_goals first|trivial|rfl|exact hn|((simp only[wM];(repeat first|rw[if_pos trivial]|rw[if_pos rfl]|rw[if_neg o_]));first|exact k4_1|exact k4_2|exact k4_3|rfl)
     · have e:i=g.prods.length:=o_
       subst e
       have hnx2:=k2_1.next hg k3_1
       skip
       repeat' with_reducible first
        |refine s_ ?_
        |simp only[wZZ,seval,g1,g3,g5,g6,g7,k3_2,k3_3,k3_4]
        |refine t_ ?_
        |simp(disch:=omega) only[w64,if_neg]
       refine⟨wk_,(r+1,ni,l'),o_,?_⟩
       refine⟨?_,?_,?_,?_,?_,?_,?_,?_,?_⟩
       iterate 4 (focus(first|(simp only[wL,wM,wN,wX,seval,Option.some.injEq,g1,g3,g5,g6,g7,k3_2,k3_3,k3_4]<;>exact wt_)|rfl|exact⟨_,rfl⟩))
       all_goals try omega
       all_goals first|trivial|rfl|exact hnx2|exact k3_2|exact k3_4|(((try simp only[wN])<;>omega))|((simp only[wM];(repeat first|rw[if_pos trivial]|rw[if_pos rfl]|rw[if_neg o_]));first|exact k3_2|exact k3_4)
   · have e:r=g.nons.length:=o_
     subst e
     skip
     repeat' with_reducible first
      |refine s_ ?_
      |simp only[wZZ,seval,g1,g3,g5,o0,k2_2]
     refine⟨_,⟨l,rfl,k2_1.done hg⟩,Or.inr rfl,.msl li 1 0 g.nons.length,?_,qkP (ro:=false) ?_⟩
     · show Y2 _ [.inl 2]=_
       simp[Y2,YK,one,wL,g3]
     · (simp only[wM];(repeat first|rw[if_pos trivial]|rw[if_pos rfl]|rw[if_neg o_]));exact k2_2

theorem qr1 {ef:EF} {Q:V→(Nat→Option MObj)→Nat→Prop} {t n id:Nat} {ag ro:Bool} {v:V} {e:Exit} {s:St} (he:ef.res=[.inr (t,ag,n)]) (hx:e=.normal∨e=.ret) (hp:s.f t=.ptr id 0 0) (hH:s.H id=some (.own n [v] ro)) (ha:v.isAgg=ag)
 (h:Q v s.H s.next):jI ef Q e s:=by
 have hv:zb s ag n (s.f t)=some v:=by
  rw[hp]
  simp only[zb,hH,List.getElem?_cons_zero,zX,ha,and_self,if_true]
 exact⟨hx,v,by rw[he];simp[Y2,YK,hv,one],h⟩
abbrev grV (g:Grammar) (l:Nat→Int) (E:Nat→Bool) (P:List Int) (a c:Nat):V:= .agg [.sl 6 false (g.toks.map Tok.V),.sl 2 false (g.nons.map Non.V),.sl 6 false (g.prods.map GPr.V),.str g.pro,.str g.tail,.sl 1 false (vJ g.nons.length l),.sl 1 false ((Qk g.nons.length E).map (V.int .i64)),.sl 1 false (P.map (V.int .i64)),vi a,vi c]
def phi (c:Nat):Nat:=c+8 *(4001 - c)
theorem qxw {c:Nat} (h:phi c≤32008):c≤32008:=by unfold phi at h;omega
theorem qww {g:Grammar} {l:Nat→Int} {E:Nat→Bool} {P:List Int} {a c:Nat} {ob:MObj} (h:some ob=some (.own 10 [grV g l E P a c] false)) (hl:lab ob=8):False:=by
 injection h with h;subst h;cases hl
abbrev qOY (v:V) (t:Nd):Prop:= ∃kv,v=.agg [vi t.sym,vi t.prod,vi t.at_,kv]∧kv.cells=[kv]∧kv.okCell=true∧kv.isAgg=false∧ErP kv (.sl 4 false (t.kids.map Nd.V))
theorem qbD {v:V} {t:Nd} (h:qOY v t) {b:Bool} {H:Nat→Option MObj}:Er b H v t.V:=by
 obtain ⟨kv,rfl,_,_,_,h⟩:=h
 obtain ⟨y,p,a,ks⟩:=t
 rw[Nd.V_mk]
 exact ErL.agg (.cons (.int _ _) (.cons (.int _ _) (.cons (.int _ _) (.cons (ErP.er h) .nil))))
def qfr (g:Grammar) (E:Nat→Bool) (s:Int):Prop:=s<1000∨ ∃k:Nat,s=1000+(k:Int)∧k<g.nons.length∧E k=true
structure NodeIn (g:Grammar) (l:Nat→Int) (E:Nat→Bool) (H:Nat→Option MObj) (next wi:Nat) (P:List Int) (a c:Nat):Prop where
 hw:H wi=some (.own 10 [grV g l E P a c] false)
 lw:wi<next
 hp:P.length≤1099511627776
 ha:a≤c
 hc:phi c≤32008
abbrev qfO (g:Grammar) (l:Nat→Int) (E:Nat→Bool) (H:Nat→Option MObj) (next wi:Nat) (P:List Int) (a c:Nat) (s:Int) (v:V) (H':Nat→Option MObj) (n':Nat):Prop:=
 next≤n'∧(∃P' a' c',H' wi=some (.own 10 [grV g l E P' a' c'] false)∧c<c'∧phi c'≤phi c+1∧a'≤c'∧P'.length≤P.length∧ ∃t,qOY v t∧(c'≤4000→t.size≤c' - c∧ ∃d,xE g qs0 d s a a' t))∧ ∀j,j<next→j≠wi→H' j=H j
theorem Fst.snoc {R:Int→Nat→Nat→Nd→Prop}: ∀{l:List Int} {i a b:Nat} {ks:List Nd} {s:Int} {k:Nd},Fst R l i a ks→R s a b k→Fst R (l++[s]) i b (ks++[k])
 |[],i,a,b,ks,s,k,⟨e1,e2⟩,h=>by subst e1 e2;exact⟨b,k,[],rfl,h,rfl,rfl⟩
 |x::l,i,a,b,ks,s,k,⟨q,k0,r,e,h1,h2⟩,h=>by subst e;exact⟨q,k0,r++[k],rfl,h1,Fst.snoc h2 h⟩
theorem Fst.up {g:Grammar} {d d':Nat} {l:List Int} {i b:Nat} {ks:List Nd} (h:Fst (xE g qs0 d) l i b ks) (hd:d≤d'):Fst (xE g qs0 d') l i b ks:=h.mono fun _ _ _ _ h=>h.mono hd
structure KidS (s:St) (g:Grammar) (l:Nat→Int) (E:Nat→Bool) (wi db lo:Nat) (P0:List Int) (a0 c0:Nat) (right:List Int) (y:Int) (m i:Nat) (P:List Int) (a c:Nat) (ks:List Nd) (v:V) (es:List V):Prop where
 hw:s.H wi=some (.own 10 [grV g l E P a c] false)
 fg:Fg s db 4 lo 4 (fun v=>.agg [vi y,vi m,vi (-1),v]) v es (ks.map Nd.V)
 hc:c0≤c
 ph:phi c≤phi c0+i
 ha:a≤c
 hP:P.length≤P0.length
 hl:ks.length=i
 hk:c≤4000→Nd.sizes ks≤c - c0∧ ∃d,Fst (xE g qs0 d) (right.take i) a0 a ks
theorem qL8 {s0:St} {g:Grammar} {l:Nat→Int} {E:Nat→Bool} {P:List Int} {a c wi k m r6:Nat} {deep:Int} {p:GPr} {Q:Exit→St→Prop} (hg:GOk g)
 (IH: ∀(H:Nat→Option MObj) (next:Nat) (P:List Int) (a c1:Nat) (s deep:Int),c≤c1→NodeIn g l E H next wi P a c1→qfr g E s→ -(c1:Int) - 1≤deep→deep≤1000→qZ Try.prog 63 [.ptr wi 0 0,vi s,vi deep] H next (qfO g l E H next wi P a c1 s))
 (f0:s0.f 0=.ptr wi 0 0) (f1:s0.f 1=vi (1000+(k:Int))) (f2:s0.f 2=vi deep) (f6:s0.f 6=.ptr r6 0 0) (f7:s0.f 7=vi m) (hw:s0.H wi=some (.own 10 [grV g l E P a c] false)) (h6: ∃x1 x2 x3 x4,s0.H r6=some (.own 4 [.agg [x1,x2,x3,x4]] false)) (n1:wi≠r6) (l1:wi<s0.next) (l6:r6<s0.next)
 (hp:g.prods[m]?=some p) (hpl:p.left=(k:Int)) (hfit:zo true E p.right=true) (hP:P.length≤1099511627776) (ha:a≤c) (hc:c≤4000) (hc1:1≤c) (hd: -(c:Int)≤deep) (hd2:deep≤1000)
 (hQ: ∀s' v P' a' c' t,s'.f 6=.ptr r6 0 0→s'.H r6=some (.own 4 [v] false)→qOY v t→s'.H wi=some (.own 10 [grV g l E P' a' c'] false)→c≤c'→phi c'≤phi c+8→a'≤c'→P'.length≤P.length→(c'≤4000→t.size≤c' - c+1∧ ∃d,xE g qs0 d (1000+(k:Int)) a a' t)→(∀j,j<s0.next→j≠wi→j≠r6→s'.H j=s0.H j)→s0.next≤s'.next→Q .ret s'):ewp Try.prog qce Q s0:=by
 obtain ⟨x1,x2,x3,x4,h6⟩:=h6
 have hmem:=List.mem_of_getElem? hp
 have hrt:=VJ hg hmem
 have hrl:=hg.rlen _ hmem
 obtain ⟨pl,pr,pc,pco,pa,pat⟩:=p
 dsimp only at hrt hrl hpl hfit
 have hphc:phi c=c+8 *(4001 - c):=rfl
 repeat' with_reducible first
  |refine s_ ?_
  |simp only[wZZ,seval,f0,f1,f2,f6,f7]
  |refine t_ ?_
 refine qb ?nx3 (fun(i:Nat) s=>s.f 0=?v3_0∧s.f 2=?v3_2∧s.f 6=?v3_6∧s.f 7=?v3_7∧s.f 12=?v3_12∧s.f 13=vi i∧(i≤pr.length)∧((∃P' a' c' ks v es,KidS s g l E wi (s0.next+3) s0.next P a c pr (1000+(k:Int)) m i P' a' c' ks v es))∧((∀j,j<s0.next→j≠wi→s.H j=s0.H j))) (fun i=>pr.length - i) (0) wj_ (by refine⟨?_,?_,?_,?_,?_,?_,wo_,(by exact⟨P,a,c,[],_,[],⟨by(simp only[wM];(repeat first|rw[if_pos trivial]|rw[if_pos rfl]|rw[if_neg o_]));exact hw,⟨by(simp only[wM];(repeat first|rw[if_pos trivial]|rw[if_pos rfl]|rw[if_neg o_])),Gr.nil,(fun j h=>(by cases h)),.nil⟩,Nat.le_refl _,Nat.le_refl _,ha,Nat.le_refl _,rfl,fun _=>⟨Nat.zero_le _,0,rfl,rfl⟩⟩⟩),(by intro j h1 h2;(simp only[wM];(repeat first|rw[if_pos trivial]|rw[if_pos rfl]|rw[if_neg o_])))⟩<;>first|(simp only[wL,wM,wN,wX,seval,Option.some.injEq]<;>exact wt_)|rfl|exact⟨_,rfl⟩) ?_
 intro i s hnx ⟨g0,g2,g6,g7,g12,g13,k3_0,k3_1,k3_2⟩
 obtain ⟨P1,a1,c1,ks,v,es,kw,⟨ko,kG,klo,kE⟩,kc,kph,ka,kP,kl,kk⟩:=k3_1
 have hel:es.length=i:=by have:=kE.len;rw[List.length_map]at this;omega
 have hz:=w1_ i
 have hzd:IntKind.i64.wrap (deep - 1)=deep - 1:=wrap64 o_ o_
 have hdb:gid v≠some (s0.next+3):=fun e=>by
  rcases kG with rfl|⟨id,fin,rfl,h1,_⟩
  · cases e
  · cases e;rw[ko]at h1;cases h1
 have hwi:gid v≠some wi:=fun e=>by have:=klo _ e;omega
 by_cases hi:i<pr.length
 · have hgi:pr[i]?=some pr[i]:=ge_ hi
   have htk:pr.take (i+1)=pr.take i++[pr[i]]:=by rw[List.take_add_one,hgi];rfl
   have hNS:qfr g E pr[i]:=by
    have h1:=List.all_eq_true.1 hfit _ (List.getElem_mem hi)
    rcases hrt _ (List.getElem_mem hi)with h|⟨q,e,hq⟩
    · exact Or.inl h
    · rw[e,if_neg o_,show (1000+(q:Int) - 1000).toNat=q by omega]at h1
      exact Or.inr ⟨q,e,hq,h1⟩
   generalize pr[i]=sy at *
   repeat' with_reducible first
    |refine s_ ?_
    |simp only[wZZ,seval,g0,g2,g6,g7,g12,g13,f0,f2,f6,f7,ko,kw,hz,hzd,qi hdb,qi hwi]
    |apply qa<;>intro h h_<;>(try simp only[wD,reduceCtorEq]at h_)<;>(try exact wb_)<;>(try simp only[h])
    |(refine And.intro ?_ ?_;(focus(first|with_unfolding_all rfl|exact congrArg some (qgl (by first|omega|(simp only[List.length_set];omega))))))
    |refine t_ ?_
    |(refine qjs rfl rfl ((IH _ _ P1 a1 c1 sy (deep - 1) kc ⟨by((try simp only[wM]);(repeat first|rw[if_pos trivial]|rw[if_pos rfl]|rw[if_neg o_]));exact kw,wg_,o_,ka,o_⟩ hNS o_ o_).mono ?_);rintro v1 H1 n1' ⟨q1,⟨P2,a2,c2,q2,q3,q4,q5,q6,t,⟨kv,rfl,k1,k2,k3,k4⟩,q8⟩,q9⟩;(try simp only[wN]at q1);refine⟨fun id ob hid ho hl=>(q9 id hid (fun e=>qww (by rw[e]at ho;(try simp only[wM]at ho);exact ho.symm.trans kw) hl)).trans ho,?_⟩)
   have q9': ∀j,j<s.next→j≠wi→H1 j=s.H j:=fun j h1 h2=>(q9 j wg_ h2).trans hh_
   have kG1:Gr H1 n1' 4 es v:=kG.mono o_ (fun j h1 h2=>q9' j h2 (fun e=>hwi (by rw[h1,e])))
   have ko1:H1 (s0.next+3)=some (.own 4 [.agg [vi (1000+(k:Int)),vi m,vi (-1),v]] false):=(q9' _ o_ o_).trans ko
   repeat' with_reducible first
    |refine s_ ?_
    |simp only[wZZ,seval,g0,g2,g6,g7,g12,g13,ko1,hz,qi hdb,qi hwi]
    |apply za rfl (kG1.mono (Nat.le_refl _) (fun id h1 h2=>by(try simp only[wM]);(repeat rw[if_neg o_])));(focus(first|exact qU.sl|exact qU.asl));(focus(simp only[wZ,hel];omega));(focus(unfold maxLen;simp only[wZ,hel];omega))
    |refine t_ ?_
    |simp(disch:=omega) only[w64,if_neg]
   refine⟨wg_,i+1,o_,f0,f2,f6,f7,trivial,rfl,o_,⟨P2,a2,c2,ks++[t],_,es++[.agg [vi t.sym,vi t.prod,vi t.at_,kv]],⟨?_,⟨?_,Gr.tok (id:=s.next+12+19) (fin:=es.length+1) (es:=es++[.agg [vi t.sym,vi t.prod,vi t.at_,kv]]) ?_ wg_,(fun j h=>(by cases h;omega)),?_⟩,o_,o_,q5,o_,by simp;omega,fun hc2=>?_⟩⟩,fun j h1 h2=>?_⟩
   · ((try simp only[wM]);(repeat first|rw[if_pos trivial]|rw[if_pos rfl]|rw[if_neg o_]));rw[qi hwi];exact q2
   · ((try simp only[wM]);(repeat first|rw[if_pos trivial]|rw[if_pos rfl]|rw[if_neg o_]))
   · ((try simp only[wM]);(repeat first|rw[if_pos trivial]|rw[if_pos rfl]|rw[if_neg o_]))
   · rw[List.map_append];exact kE.snoc (qbD ⟨kv,rfl,k1,k2,k3,k4⟩)
   · obtain ⟨e1,d1,e2⟩:=kk o_
     obtain ⟨e3,d2,e4⟩:=q8 hc2
     rw[Nd.sizes_snoc,htk]
     exact⟨o_,d1+d2,(e2.up o_).snoc (e4.mono o_)⟩
   · ((try simp only[wM]);(repeat first|rw[if_pos trivial]|rw[if_pos rfl]|rw[if_neg o_]))
     rw[qi (fun e=>by have:=klo _ e;omega),q9' j o_ h2]
     exact k3_2 j h1 h2
 · have hr6:s.H r6=some (.own 4 [.agg [x1,x2,x3,x4]] false):=(k3_2 r6 l6 (Ne.symm n1)).trans h6
   have et:pr.take i=pr:=List.take_of_length_le o_
   rw[et]at kk
   repeat' with_reducible first
    |refine s_ ?_
    |simp only[wZZ,seval,g0,g2,g6,g7,g12,g13,f0,f2,f6,f7,ko,kw,hr6]
    |apply qa<;>intro h h_<;>(try simp only[wD,reduceCtorEq]at h_)<;>(try exact wb_)<;>(try simp only[h])
    |refine t_ ?_
   refine hQ _ (.agg [vi (1000+(k:Int)),vi m,vi (-1),v]) P1 a1 c1 (.mk (1000+(k:Int)) m (-1) ks) (by(simp only[wL,seval,g6,f6])) hh_ ⟨v,rfl,(Gr.ok kG).1,(Gr.ok kG).2.1,(Gr.ok kG).2.2,Gr.erL kG kE⟩ (by((try simp only[wM]);(repeat first|rw[if_pos trivial]|rw[if_pos rfl]|rw[if_neg o_]));exact kw) kc o_ ka kP (fun hc2=>?_) (fun j h1 h2 h3=>by((try simp only[wM]);(repeat first|rw[if_pos trivial]|rw[if_pos rfl]|rw[if_neg o_]));exact k3_2 j h1 h2) wg_
   obtain ⟨e1,d1,e2⟩:=kk hc2
   refine⟨by rw[Nd.size];omega,d1+1,Or.inr ⟨m,_,ks,hp,by dsimp only;rw[hpl],rfl,e2⟩⟩
end Go.Proofs
