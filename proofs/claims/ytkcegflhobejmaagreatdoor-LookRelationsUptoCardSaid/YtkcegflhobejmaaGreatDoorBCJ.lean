/- Part of a proof that a law of the given program answers true. -/
import Derived.Test.YtkcegflhobejmaaGreatDoorBCC
import Derived.Test.YtkcegflhobejmaaGreatDoorBZN
import Derived.Test.YtkcegflhobejmaaGreatDoorBCA
set_option linter.unusedSimpArgs false
set_option linter.unusedVariables false
set_option maxHeartbeats 8000000
set_option maxRecDepth 20000
namespace Go.Proofs
open Go.E
theorem qoZ {T:List (Int×Int)} {a b:Int} (h:(a,b) ∉ T):JE true (VA T T.length) a b=.tup [vi 0,.bool false]:=by
 have e:(VA T T.length).find? (fun e=>e.1 == a && e.2.1 == b)=none:=by
  rw[List.find?_eq_none]
  intro x hx hc
  unfold VA at hx
  obtain ⟨k,hk,rfl⟩:=List.mem_map.1 hx
  rw[List.mem_range]at hk
  have hg:T[k]?=some T[k]:=ge_ hk
  simp only[List.getD,hg,Option.getD_some,Bool.and_eq_true,beq_iff_eq]at hc
  exact h (by rw[← hc.1,← hc.2];exact List.getElem_mem hk)
 unfold JE
 rw[e];rfl
theorem GrN.ne {H:Nat→Option MObj} {base next j z:Nat} {es cs:List V} {v:V} {ro:Bool} (h:GrN H base next 1 es v) (hj:H j=some (.own z cs ro)) (hz:z≠1):YM v≠some j:=by
 rcases h with ⟨_,rfl⟩|⟨_,id,rfl,h1,_⟩
 · intro e;cases e
 · intro e
   cases e
   rw[hj]at h1
   cases h1
   exact hz rfl
theorem kC {g :Grammar} {m:List Sta} {E:Nat→Bool} (hg:GOk g) (hM:MOk g m) (hR: ∀q∈m,RMv q) (hG:MGo g m) (hS:qdr g m):Pure Tryz.prog 59 [.iptr 9 (QA g m E) 0] (.sl 1 false ((zK g E m).map yQ)):=by
 refine pure_intro Tryz.func59 nm_ qkp (by show 1≤117;decide) ?_
 show ewp _ qkw _ _
 have htl:=hM.trans_len
 have hml:=hM.len
 have hpl:=hg.pl2
 have hnn:=hg.nn2
 have hlx:=Q8 hR
 repeat' with_reducible first
  |refine s_ ?_
  |simp -implicitDefEqProofs only[wZZ,seval]
  |refine t_ ?_
  |apply qaU;exact wf_;exact wf_;(focus(unfold maxLen;first|omega|(simp only[wZ]<;>omega)))
 refine qc ?nx1 (fun(i:Nat) s=>s.f 0=?v1_0∧s.f 3=?v1_3∧s.f 23=?v1_23∧s.f 24=?v1_24∧s.f 25=vi i∧(i≤(qg m).length)∧(RowsI (qg m).length i (i *4096) (Vu g E m i))∧((∃es,s.H 6=some (.own 1 es false)∧TabN s.H 7 s.next (Vu g E m i) es))) (fun i=>(qg m).length - i) (0) wj_ (by refine⟨?_,?_,?_,?_,?_,wo_,(by(exact RowsI.new _)),(by exact⟨_,hh_,TabN.new _ _ _ _⟩)⟩<;>first|(simp -implicitDefEqProofs only[wL,wM,wN,wX,seval,Option.some.injEq]<;>exact wt_)|rfl|exact⟨_,rfl⟩) ?_
 intro i s hnx ⟨g0,g3,g23,g24,g25,k1_0,k1_1,k1_2⟩
 obtain ⟨es,ho,hT⟩:=k1_2
 have hz:=w1_ i
 by_cases hi:i<(qg m).length
 · have hgi : (qg m)[i]?=some (qg m)[i]:=ge_ hi
   have hmem:=List.getElem_mem hi
   have hsucc:Vu g E m (i+1)=g.prods.foldl (xH E m i (qg m)[i]) (Vu g E m i):=by
    unfold Vu
    rw[List.range_succ,List.foldl_append]
    show qbT g E m _ i=_
    unfold qbT
    rw[List.getD,hgi,Option.getD_some]
   generalize (qg m)[i]=t at *
   obtain ⟨q0',b⟩:=t
   obtain ⟨q0,rfl,hq0⟩:=VW hgi
   generalize Vu g E m i=O at *
   repeat' with_reducible first
    |refine s_ ?_
    |simp -implicitDefEqProofs only[wZZ,seval,g0,g3,g23,g24,g25,hz]
    |apply qa<;>intro h h_<;>(try simp only[wD,reduceCtorEq]at h_)<;>(try exact wb_)<;>(try simp only[h])
    |refine t_ ?_
   obtain ⟨ta,hta⟩: ∃ta,ta=s.next+1+3:=⟨_,rfl⟩
   refine qc ?nx2 (fun(pi:Nat) s=>s.f 0=?v2_0∧s.f 3=?v2_3∧s.f 4=?v2_4∧s.f 5=?v2_5∧s.f 23=?v2_23∧s.f 24=?v2_24∧s.f 25=?v2_25∧s.f 34=?v2_34∧s.f 35=?v2_35∧s.f 36=vi pi∧(pi≤g.prods.length)∧(RowsI (qg m).length i (i *4096+pi *64) ((g.prods.take pi).foldl (xH E m i ((q0:Int),b)) O))∧((∃es,s.H 6=some (.own 1 es false)∧TabN s.H 7 s.next ((g.prods.take pi).foldl (xH E m i ((q0:Int),b)) O) es))∧(s.H ta=some (.own 2 [.agg [vi q0,vi b]] false))) (fun pi=>g.prods.length - pi) (0) wj_ (by refine⟨?_,?_,?_,?_,?_,?_,?_,?_,?_,?_,wo_,(by(exact k1_1)),(by exact⟨es,(by((try simp only[wM]);(repeat first|rw[if_pos trivial]|rw[if_pos rfl]|rw[if_neg o_]));exact ho),hT.keep wg_ (fun j h1 h2=>hh_)⟩),(by(try simp -implicitDefEqProofs only[wL,wM,wN,seval,g0,g3,g23,g24,g25]);(exact if_pos hta))⟩<;>first|(simp -implicitDefEqProofs only[wL,wM,wN,wX,seval,Option.some.injEq,g0,g3,g23,g24,g25]<;>exact wt_)|rfl|exact⟨_,rfl⟩) ?_
   intro pi s hnx ⟨g0,g3,g4,g5,g23,g24,g25,g34,g35,g36,k2_0,k2_1,k2_2,o100⟩
   obtain ⟨es2,ho2,hT2⟩:=k2_2
   rw[← hta]at g5
   have hzp:=w1_ pi
   by_cases hpi:pi<g.prods.length
   · have hgp :g.prods[pi]?=some g.prods[pi]:=ge_ hpi
     have hst:(g.prods.take (pi+1)).foldl (xH E m i ((q0:Int),b)) O=xH E m i ((q0:Int),b) ((g.prods.take pi).foldl (xH E m i ((q0:Int),b)) O) g.prods[pi]:=by
      rw[List.take_add_one,hgp,List.foldl_append];rfl
     have hrl:=hg.rlen _ (List.getElem_mem hpi)
     obtain ⟨lf,hl1,hl2⟩:=hg.left _ (List.getElem_mem hpi)
     have halong:=fun h=>along hg hM hG hS hgp (q0:=q0) h
     have hrs:=hg.right _ (List.getElem_mem hpi)
     generalize (g.prods.take pi).foldl (xH E m i ((q0:Int),b)) O=O2 at *
     generalize g.prods[pi]=p at *
     obtain ⟨pl,pr,pc,pco,pa,pat⟩:=p
     dsimp only at hl1 hrl halong hrs
     subst hl1
     have hzl:IntKind.i64.wrap (1000+(lf:Int))=1000+(lf:Int):=wrap64 o_ o_
     by_cases hc:1000+(lf:Int)=b
     · repeat' with_reducible first
        |refine s_ ?_
        |simp -implicitDefEqProofs only[wZZ,seval,g0,g3,g4,g5,g23,g24,g25,g34,g35,g36,o100,hz,hzp,hzl,hc]
        |apply qa<;>intro h h_<;>(try simp only[wD,reduceCtorEq]at h_)<;>(try exact wb_)<;>(try simp only[h])
        |refine t_ ?_
        |simp -implicitDefEqProofs (disch:=omega) only[w64,if_neg]
       have hst2:xH E m i ((q0:Int),b) O2 {left:=(lf:Int),right:=pr,prec:=pc,code:=pco,args:=pa,at_:=pat}=(List.range pr.length).foldl (zV E m i (q0:Int) pr) O2:=by
        unfold xH;rw[if_pos hc]
       rw[hst2]at hst
       have halong:=halong (by rw[hc];exact hmem)
       obtain ⟨tp,htp⟩: ∃tp,tp=s.next+1+2:=⟨_,rfl⟩
       refine qc ?nx3 (fun(k:Nat) s=>s.f 0=?v3_0∧s.f 3=?v3_3∧s.f 4=?v3_4∧s.f 5=?v3_5∧s.f 7=?v3_7∧s.f 23=?v3_23∧s.f 24=?v3_24∧s.f 25=?v3_25∧s.f 34=?v3_34∧s.f 35=?v3_35∧s.f 36=?v3_36∧s.f 49=?v3_49∧s.f 50=?v3_50∧s.f 51=vi k∧(k≤pr.length)∧(RowsI (qg m).length i (i *4096+pi *64+k) ((List.range k).foldl (zV E m i (q0:Int) pr) O2))∧((∃es,s.H 6=some (.own 1 es false)∧TabN s.H 7 s.next ((List.range k).foldl (zV E m i (q0:Int) pr) O2) es))∧((∃r:Nat,s.f 8=vi r∧zU m q0 (pr.take k)=r∧r<m.length))∧(s.H ta=some (.own 2 [.agg [vi q0,vi b]] false))∧(s.H tp=some (.own 6 [GPr.V ⟨(lf:Int),pr,pc,pco,pa,pat⟩] false))) (fun k=>pr.length - k) (0) wj_ (by refine⟨?_,?_,?_,?_,?_,?_,?_,?_,?_,?_,?_,?_,?_,?_,wo_,(by(exact k2_1)),(by exact⟨es2,(by((try simp only[wM]);(repeat first|rw[if_pos trivial]|rw[if_pos rfl]|rw[if_neg o_]));exact ho2),hT2.keep wg_ (fun j h1 h2=>hh_)⟩),(by exact⟨q0,(by(simp -implicitDefEqProofs only[wL,seval])),rfl,hq0⟩),(by(try simp -implicitDefEqProofs only[wL,wM,wN,seval,g0,g3,g4,g5,g23,g24,g25,g34,g35,g36,o100]);(first|exact o100|(rw[if_neg o_,if_neg o_])|(rw[if_neg o_]))),(by(try simp -implicitDefEqProofs only[wL,wM,wN,seval,g0,g3,g4,g5,g23,g24,g25,g34,g35,g36,o100]);(exact if_pos htp))⟩<;>first|(simp -implicitDefEqProofs only[wL,wM,wN,wX,seval,Option.some.injEq,g0,g3,g4,g5,g23,g24,g25,g34,g35,g36,o100]<;>exact wt_)|rfl|exact⟨_,rfl⟩) ?_
       intro k s hnx ⟨g0,g3,g4,g5,g7,g23,g24,g25,g34,g35,g36,g49,g50,g51,k3_0,k3_1,k3_2,k3_3,o100,o101⟩
       obtain ⟨es4,ho4,hT4⟩:=k3_2
       obtain ⟨r,g8,hwk,hrm⟩:=k3_3
       rw[← htp]at g7
       have hzk:=w1_ k
       by_cases hk:k<pr.length
       · have hgk:pr[k]?=some pr[k]:=ge_ hk
         have hsk:(List.range (k+1)).foldl (zV E m i (q0:Int) pr) O2=zV E m i (q0:Int) pr ((List.range k).foldl (zV E m i (q0:Int) pr) O2) k:=by
          rw[List.range_succ,List.foldl_append];rfl
         have hgd:pr.getD k 0=pr[k]:=by rw[List.getD,hgk];rfl
         have hRs:=k3_1.stepK (E:=E) (m:=m) (q:=(q0:Int)) (r:=pr) k
         rw[← hsk]at hRs
         obtain ⟨r2,hr2,hr2m,_⟩:=halong (k+1) o_
         have hvn:=Qw (g:=g) (m:=m) (E:=E) (l:=pr.drop (k+1)) (by rw[List.length_drop];omega) (fun y hy=>by
          rcases hrs y (List.mem_of_mem_drop hy)with ⟨t,e,_⟩|h
          · exact Or.inl (by have:=hg.tk2;omega)
          · exact Or.inr h) o_
         have hstp:=KJ (m:=m) (q:=r) (sy:=pr[k]) hrm o_ (fun q h=>by have:=hM.mvl q h;omega)
         have hgo:goS m r pr[k]=r2:=by
          rw[← hr2,List.take_add_one,hgk]
          show _=zU m q0 (pr.take k++[pr[k]])
          rw[Zf _ _ _ (by rw[hwk];omega),hwk]
         rw[hgo]at hstp
         have hmg:= @qgC (qg m) hlx (r:Int) pr[k]
         have hmn:= @qoZ (qg m) (r:Int) pr[k]
         generalize hy:pr[k]=y at *
         by_cases hin:((r:Int),y)∈qg m
         · have hmg:=hmg hin true
           rw[if_pos rfl]at hmg
           have hzk1:((k:Int)+1)=((k+1:Nat):Int):=o_
           cases hb:zT false E (pr.drop (k+1))with
           | false=>
             rw[hb]at hvn
             have hno:(List.range (k+1)).foldl (zV E m i (q0:Int) pr) O2=(List.range k).foldl (zV E m i (q0:Int) pr) O2:=by
              rw[hsk]
              unfold zV
              rw[hb,if_neg]
              rintro ⟨_,h,_,_⟩
              cases h
             rw[hno]at hRs
             repeat' with_reducible first
              |refine s_ ?_
              |simp -implicitDefEqProofs only[wZZ,seval,g0,g3,g4,g5,g7,g23,g24,g25,g34,g35,g36,g49,g50,g51,o100,o101,hzk,g8,hwk,Vs]
              |apply qa<;>intro h h_<;>(try simp only[wD,reduceCtorEq]at h_)<;>(try exact wb_)<;>(try simp only[h])
              |refine t_ ?_
              |apply qhA;exact hmg
              |apply qI (hp:=hvn);exact Qq;exact jv;exact wu_;exact Flat.bool _
              |refine cq3 hstp qf qf qf ?_
              |apply yS;omega;exact wf_
             refine⟨o_,k+1,o_,?_⟩;(repeat refine⟨True.intro,?_⟩)
             refine⟨by rw[htp],?_⟩;repeat refine⟨True.intro,?_⟩
             exact⟨rfl,o_,by rw[hno];exact hRs,⟨es4,ho4,by rw[hno];exact hT4.keep wg_ (fun j h1 h2=>hh_)⟩,⟨r2,rfl,hr2,hr2m⟩,trivial,trivial⟩
           | true=>
             rw[hb]at hvn
             obtain ⟨j,hj⟩:=List.getElem?_of_mem hin
             have hnu:=qd2 hlx hj
             rw[hnu]at hmg
             have hjt:j<(qg m).length:=(List.getElem?_eq_some_iff.1 hj).1
             have hRl:=k3_1.ln
             have hyes:(List.range (k+1)).foldl (zV E m i (q0:Int) pr) O2=((List.range k).foldl (zV E m i (q0:Int) pr) O2).modify j fun l=>l++[(i:Int)]:=by
              rw[hsk]
              unfold zV
              rw[hgd,hwk,hb,hnu,if_pos ⟨by have:=(xW hin);obtain ⟨_,_,_,_,h,_⟩:=this;exact h,rfl,o_,o_⟩]
              rfl
             rw[hyes]at hRs
             generalize (List.range k).foldl (zV E m i (q0:Int) pr) O2=O3 at *
             have hgO:O3[j]?=some O3[j]:=ge_ o_
             rw[Zo _ hgO]at hRs hyes
             obtain ⟨v,hv,hGv⟩:=hT4.row j _ hgO
             have hle:=(k3_1.le _ (List.getElem_mem (show j<O3.length by omega))).2
             have hva:v.isAgg=false:=by rcases hGv with ⟨_,rfl⟩|⟨_,id,rfl,_⟩<;>rfl
             generalize O3[j]=l at *
             repeat' with_reducible first
              |refine s_ ?_
              |simp -implicitDefEqProofs only[wZZ,seval,g0,g3,g4,g5,g7,g23,g24,g25,g34,g35,g36,g49,g50,g51,o100,o101,hzk,g8,hwk,Vs]
              |apply qa<;>intro h h_<;>(try simp only[wD,reduceCtorEq]at h_)<;>(try exact wb_)<;>(try simp only[h])
              |refine t_ ?_
              |apply qhA;exact hmg
              |apply qI (hp:=hvn);exact Qq;exact jv;exact wu_;exact Flat.bool _
              |apply kg;omega;(focus(rw[Int.toNat_natCast];exact hjt))
              |(apply qnJ ho4 rfl rfl hv hva)
              |apply yS;omega;exact wf_
             have hle2:l.length≤9600 *4096+60 *64+8:=o_
             refine qQK (base:=7) (next:=s.next) (xs:=l.map (V.int .i64)) (ys:=[vi i]) rfl (hGv.keep rfl (Nat.le_refl _) (fun _ _ _=>rfl)) qP.sl (by rw[List.length_map,List.length_singleton];omega) (by rw[List.length_map,List.length_singleton];unfold maxLen;omega) ?_
             intro H' h6 hH
             have ho5:H' 6=some (.own 1 es4 false):=by rw[hH 6 o_ (fun e=>by have:=hGv.mid e;omega)];exact ho4
             have ha5:H' ta=some (.own 2 [.agg [vi q0,vi b]] false):=by rw[hH ta o_ (hGv.ne o100 (by decide))];exact o100
             have hp5:H' tp=some (.own 6 [GPr.V ⟨(lf:Int),pr,pc,pco,pa,pat⟩] false):=by rw[hH tp o_ (hGv.ne o101 (by decide))];exact o101
             repeat' with_reducible first
              |simp -implicitDefEqProofs only[wZZ,seval,g0,g3,g4,g5,g7,g23,g24,g25,g34,g35,g36,g49,g50,g51,o100,o101,hzk,g8,hwk]
              |apply kg;omega;(focus(rw[Int.toNat_natCast];exact hjt))
             refine qmB (es:=es4) (k':=j) (e:=v) ho5 rfl hv hva rfl rfl rfl ?_
             repeat' with_reducible first
              |refine s_ ?_
              |simp -implicitDefEqProofs only[wZZ,seval,g0,g3,g4,g5,g7,g23,g24,g25,g34,g35,g36,g49,g50,g51,o100,o101,hzk,g8,hwk]
              |refine cq3 hstp qf qf qf ?_
              |refine t_ ?_
              |simp -implicitDefEqProofs (disch:=omega) only[w64,if_neg]
             refine⟨o_,k+1,o_,?_⟩;(repeat refine⟨True.intro,?_⟩)
             refine⟨by rw[htp],?_⟩;repeat refine⟨True.intro,?_⟩
             refine⟨rfl,o_,by rw[hyes];exact hRs,⟨_,rfl,by rw[hyes];exact TabN.put (v:=v) (id:=s.next+1+5+13+10+8) hT4 hv o_ o_ rfl (Or.inr ⟨by simp,_,by rw[List.length_map],by((try simp only[wM]);(repeat first|rw[if_pos trivial]|rw[if_pos rfl]|rw[if_neg o_]));rw[List.map_append];exact h6,o_,o_⟩) (fun a h1 h2 h3=>by(try simp only[wM]);rw[if_neg o_];exact hH a o_ h3)⟩,⟨r2,rfl,hr2,hr2m⟩,?_,?_⟩
             · skip
               first|trivial|exact ha5|(((try simp only[wM]);(repeat first|rw[if_pos trivial]|rw[if_pos rfl]|rw[if_neg o_]));exact ha5)|(rw[if_neg o_];exact ha5)
             · first|trivial|exact hp5|(((try simp only[wM]);(repeat first|rw[if_pos trivial]|rw[if_pos rfl]|rw[if_neg o_]));exact hp5)|(rw[if_neg o_];exact hp5)
         · have hmn:=hmn hin
           have hno:(List.range (k+1)).foldl (zV E m i (q0:Int) pr) O2=(List.range k).foldl (zV E m i (q0:Int) pr) O2:=by
            rw[hsk]
            unfold zV
            rw[hgd,hwk,if_neg]
            rintro ⟨_,_,_,h⟩
            obtain ⟨c,hc'⟩:=Int.eq_ofNat_of_zero_le h
            exact hin (List.mem_of_getElem? (JJ hc'))
           rw[hno]at hRs
           repeat' with_reducible first
            |refine s_ ?_
            |simp -implicitDefEqProofs only[wZZ,seval,g0,g3,g4,g5,g7,g23,g24,g25,g34,g35,g36,g49,g50,g51,o100,o101,hzk,g8,hwk,Vs]
            |apply qa<;>intro h h_<;>(try simp only[wD,reduceCtorEq]at h_)<;>(try exact wb_)<;>(try simp only[h])
            |refine t_ ?_
            |apply qhA;exact hmn
            |refine cq3 hstp qf qf qf ?_
           refine⟨o_,k+1,o_,?_⟩;(repeat refine⟨True.intro,?_⟩)
           refine⟨by rw[htp],?_⟩;repeat refine⟨True.intro,?_⟩
           exact⟨rfl,o_,by rw[hno];exact hRs,⟨es4,ho4,by rw[hno];exact hT4.keep wg_ (fun j h1 h2=>hh_)⟩,⟨r2,rfl,hr2,hr2m⟩,trivial,trivial⟩
       · have e:k=pr.length:=o_
         subst e
         repeat' with_reducible first
          |refine s_ ?_
          |simp -implicitDefEqProofs only[wZZ,seval,g0,g3,g4,g5,g7,g23,g24,g25,g34,g35,g36,g49,g50,g51,o100,o101,hzk,hzp]
         exact⟨o_,pi+1,o_,trivial,trivial,trivial,by rw[hta],trivial,trivial,trivial,trivial,trivial,rfl,o_,by rw[hst];exact k3_1.mono (Int.le_refl _) o_,⟨es4,ho4,by rw[hst];exact hT4.keep o_ (fun _ _ _=>rfl)⟩,trivial⟩
     · have hst2:xH E m i ((q0:Int),b) O2 {left:=(lf:Int),right:=pr,prec:=pc,code:=pco,args:=pa,at_:=pat}=O2:=by
        unfold xH;rw[if_neg hc]
       rw[hst2]at hst
       skip
       repeat' with_reducible first
        |refine s_ ?_
        |simp -implicitDefEqProofs only[wZZ,seval,g0,g3,g4,g5,g23,g24,g25,g34,g35,g36,o100,hz,hzp,hzl,hc]
        |apply qa<;>intro h h_<;>(try simp only[wD,reduceCtorEq]at h_)<;>(try exact wb_)<;>(try simp only[h])
        |refine t_ ?_
        |simp -implicitDefEqProofs (disch:=omega) only[w64,if_neg]
       all_goals exact⟨wg_,pi+1,o_,trivial,trivial,trivial,by rw[hta],trivial,trivial,trivial,trivial,trivial,rfl,o_,by rw[hst];exact k2_1.mono (Int.le_refl _) o_,⟨es2,ho2,by rw[hst];exact hT2.keep wg_ (fun j h1 h2=>hh_)⟩,by first|trivial|(((try simp only[wM]);(repeat first|rw[if_pos trivial]|rw[if_pos rfl]|rw[if_neg o_]));exact o100)|exact o100⟩
   · have e:pi=g.prods.length:=o_
     subst e
     rw[List.take_length]at hT2 k2_1
     rw[← hsucc]at hT2 k2_1
     repeat' with_reducible first
      |refine s_ ?_
      |simp -implicitDefEqProofs only[wZZ,seval,g0,g3,g4,g5,g23,g24,g25,g34,g35,g36,o100,hz]
     exact⟨o_,i+1,o_,trivial,trivial,trivial,trivial,rfl,o_,k2_1.mono o_ o_,es2,ho2,hT2.keep o_ (fun _ _ _=>rfl)⟩
 · have e:i=(qg m).length:=o_
   subst e
   skip
   repeat' with_reducible first
    |refine s_ ?_
    |simp -implicitDefEqProofs only[wZZ,seval,g0,g3,g23,g24,g25]
   have hput:=K5 g E m
   generalize Vu g E m (qg m).length=O at *
   have hOl:=k1_1.ln
   skip
   refine qc ?nx4 (fun(j:Nat) s=>s.f 3=?v4_3∧s.f 98=?v4_98∧s.f 99=vi j∧(j≤(qg m).length)∧((∃es,s.H 6=some (.own 1 es false)∧TabM s.H 7 s.next O j es))) (fun j=>(qg m).length - j) (0) wj_ (by refine⟨?_,?_,?_,wo_,(by exact⟨es,(by((try simp only[wM]);(repeat first|rw[if_pos trivial]|rw[if_pos rfl]|rw[if_neg o_]));exact ho),hT.toM.keep wg_ (fun j h1 h2=>hh_)⟩)⟩<;>first|(simp -implicitDefEqProofs only[wL,wM,wN,wX,seval,Option.some.injEq,g0,g3,g23,g24,g25]<;>exact wt_)|rfl|exact⟨_,rfl⟩) ?_
   intro j s hnx ⟨g3,g98,g99,k4_0,k4_1⟩
   obtain ⟨es3,ho3,hT3⟩:=k4_1
   have hzj:=w1_ j
   by_cases hj:j<(qg m).length
   · have hgO:O[j]?=some O[j]:=ge_ o_
     obtain ⟨v,hv,hGv⟩:=hT3.old j _ hgO (Nat.le_refl _)
     have hnd:=k1_1.nd _ (List.getElem_mem (show j<O.length by omega))
     have hle:=(k1_1.le _ (List.getElem_mem (show j<O.length by omega))).2
     have hva:v.isAgg=false:=by rcases hGv with ⟨_,rfl⟩|⟨_,id,rfl,_⟩<;>rfl
     generalize O[j]=l at *
     repeat' with_reducible first
      |refine s_ ?_
      |simp -implicitDefEqProofs only[wZZ,seval,g3,g98,g99,hzj]
      |apply qa<;>intro h h_<;>(try simp only[wD,reduceCtorEq]at h_)<;>(try exact wb_)<;>(try simp only[h])
      |(apply qnJ ho3 rfl rfl hv hva)
      |refine t_ ?_
     refine qYr (next:=s.next) (zs:=l) (hGv.keep rfl (Nat.le_refl _) (fun _ _ _=>rfl)) hnd o_ ?_
     repeat' with_reducible first
      |refine Xl ?_
      |simp -implicitDefEqProofs only[wZZ,seval,g3,g98,g99]
      |(apply qnJ ho3 rfl rfl hv hva)
      |refine t_ ?_
     refine qTH (next:=s.next) (zs:=l) (hGv.keep rfl (Nat.le_refl _) (fun _ _ _=>rfl)) o_ ?_
     intro w H2 hw hm hH
     obtain ⟨w1,w2,w3⟩:=hw.fl
     have ho4:H2 6=some (.own 1 es3 false):=by
      rw[hH 6 (fun e=>by have:=hGv.mid e;omega)];exact ho3
     repeat' with_reducible first
      |simp -implicitDefEqProofs only[wZZ,seval,g3,g98,g99]
      |refine t_ ?_
     refine qmB (es:=es3) (k':=j) (e:=v) ho4 rfl hv hva w1 w2 w3 ?_
     repeat' with_reducible first
      |refine s_ ?_
      |simp -implicitDefEqProofs only[wZZ,seval,g3,g98,g99,hzj]
     exact⟨o_,j+1,o_,trivial,trivial,rfl,o_,es3.set j w,rfl,(TabM.step (H':=H2) hT3 hgO hv hw hm (fun a h=>hH a h)).keep wg_ (fun a h1 h2=>hh_)⟩
   · have e:j=(qg m).length:=o_
     subst e
     repeat' with_reducible first
      |refine s_ ?_
      |simp -implicitDefEqProofs only[wZZ,seval,g3,g98,g99]
     refine qx rfl (Or.inr rfl) ?_
     (simp -implicitDefEqProofs only[wL,seval])
     rw[show (qg m).length=O.length by omega]at hT3
     have hR3:=hT3.row
     have hE3:O.map Lib.compact=zK g E m:=by
      rw[← hput]
      exact List.map_congr_left fun l hl=>Vx (k1_1.nd l hl)
     rw[hE3]at hR3
     have hl3:(zK g E m).length=(qg m).length:=by rw[← hE3,List.length_map];exact hOl
     refine .msl 6 1 0 _ es3 false _ rfl (by((try simp only[wM]);(repeat first|rw[if_pos trivial]|rw[if_pos rfl]|rw[if_neg o_]));exact ho3) (by rw[hR3.ln];omega) (by simp;omega) ?_
     intro i c c' h1 h2
     rw[Nat.zero_add]at h1
     exact hR3.er.get.2 i c c' h1 h2
end Go.Proofs
