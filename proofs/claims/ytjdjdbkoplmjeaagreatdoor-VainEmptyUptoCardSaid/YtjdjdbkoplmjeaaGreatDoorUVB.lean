/- Part of a proof that a law of the given program answers true. -/
import Derived.Test.YtjdjdbkoplmjeaaGreatDoorUVA
import Derived.Test.YtjdjdbkoplmjeaaGreatDoorUWB
import Derived.Test.YtjdjdbkoplmjeaaGreatDoorXEC
import Derived.Test.YtjdjdbkoplmjeaaGreatDoorUCA
set_option linter.unusedSimpArgs false
set_option linter.unusedVariables false
set_option maxHeartbeats 8000000
namespace Go.Proofs
open Go.E
def tbl (n:Nat) (f:Nat→List Int):List (List Int):=(List.range n).map f
theorem xq (n:Nat) (f:Nat→List Int):(tbl n f).length=n:=by simp[tbl]
theorem yt {n k:Nat} {f:Nat→List Int} (h:k<n):(tbl n f)[k]?=some (f k):=by simp[tbl,h]
theorem Vm {n k:Nat} {f:Nat→List Int} {x:Int} (h:k<n):(tbl n f).set k (f k++[x])=tbl n (KA f k x):=by
 refine List.ext_getElem? fun i=>?_
 rw[List.getElem?_set,xq]
 by_cases hi:i<n
 · rw[yt hi,yt hi]
   by_cases e:k=i
   · subst e;simp[hi,KA]
   · rw[if_neg e]
     have e2: ¬ i=k:=fun e2=>e e2.symm
     simp[KA,e2]
 · rw[List.getElem?_eq_none (by rw[xq];omega),List.getElem?_eq_none (by rw[xq];omega)]
   split
   · rename_i e;exact absurd (e ▸ h) hi
   · rfl
theorem qbd (n:Nat):List.replicate n []=tbl n (fun _=>[]):=by
 refine List.ext_getElem? fun i=>?_
 by_cases h:i<n
 · rw[yt h];simp[h]
 · rw[List.getElem?_eq_none (by simp;omega),List.getElem?_eq_none (by rw[xq];omega)]
theorem JA {n:Nat} {f:Nat→List Int} {i:Nat} (h:i<n):qR (tbl n f) i=f i:=by
 unfold qR;rw[List.getD_eq_getElem?_getD,yt h];rfl
theorem jZ {rel rel':Nat→List Int} {n:Nat} (h: ∀i,i<n→rel i=rel' i) {i j:Nat} (hr:Rch rel n i j):Rch rel' n i j:=by
 induction hr with
 |refl=>exact .refl _
 |step _ e ih=>exact .step ih ⟨e.1,e.2.1,by rw[← h _ e.1];exact e.2.2⟩
theorem qeJ {rel rel' sl sl':Nat→List Int} {n i:Nat} (hi:i<n) (h: ∀i,i<n→rel i=rel' i) (h2: ∀i,i<n→sl i=sl' i):YH rel n sl i=YH rel' n sl' i:=by
 funext y
 unfold YH
 rw[Bool.eq_iff_iff,@decide_eq_true_eq _ (Classical.propDecidable _),@decide_eq_true_eq _ (Classical.propDecidable _)]
 constructor
 · rintro ⟨j,a,b⟩
   have hj:j<n:=a.stay (S:=fun z=>z<n) (fun a b _ e=>e.2.1) hi
   exact⟨j,jZ h a,by rw[← h2 j hj];exact b⟩
 · rintro ⟨j,a,b⟩
   have hj:j<n:=a.stay (S:=fun z=>z<n) (fun a b _ e=>e.2.1) hi
   exact⟨j,jZ (fun i hi=>(h i hi).symm) a,by rw[h2 j hj];exact b⟩
theorem Ve {S:Nat→Bool} {H H0:Nat→Option MObj} {id next:Nat} {L:List (List Int)} {es:List V} {ro:Bool} (hS:S id=true) (hH:H id=some (.own 1 es ro)) (h:GT H0 next L es):Er true (rsH S H) (.msl id 1 0 L.length) (.sl 1 false (L.map jl)):=by
 have he:ErL true (rsH S H) es (L.map jl):=h.erL
 obtain ⟨h1,h2⟩:=he.get
 refine .msl id 1 0 L.length es ro (L.map jl) rfl (by unfold rsH;rw[if_pos hS];exact hH) (by rw[h.len];omega) (by simp) fun i c c' h3 h4=>?_
 rw[Nat.zero_add]at h3
 exact h2 i c c' h3 h4
def stC (n t i:Nat):List V:=(List.range n).map fun k=>if k<i then .sl 1 true [V.int .i64 ((t+k:Nat):Int)]else .sl 1 true []
theorem qJz (n t:Nat):List.replicate n (V.sl 1 true [])=stC n t 0:=by
 refine List.ext_getElem? fun i=>?_
 by_cases h:i<n
 · simp[stC,h]
 · rw[List.getElem?_eq_none (by simp;omega),List.getElem?_eq_none (by simp[stC];omega)]
theorem qkl {n t i:Nat} (h:i<n):(stC n t i)[i]?=some (.sl 1 true []):=by simp[stC,h]
theorem qiU {n t i:Nat} (h:i<n):(stC n t i).set i (.sl 1 true [V.int .i64 ((t+i:Nat):Int)])=stC n t (i+1):=by
 refine List.ext_getElem? fun j=>?_
 have hl: ∀i,(stC n t i).length=n:=fun i=>by simp[stC]
 rw[List.getElem?_set,hl]
 by_cases hj:j<n
 · by_cases e:i=j
   · subst e;simp[stC,hj]
   · rw[if_neg e]
     simp only[stC,List.getElem?_map,List.getElem?_range hj,Option.map_some]
     by_cases e2:j<i
     · rw[if_pos e2,if_pos o_]
     · rw[if_neg e2,if_neg o_]
 · rw[List.getElem?_eq_none (by rw[hl];omega),List.getElem?_eq_none (by rw[hl];omega)]
   split
   · rename_i e;exact absurd (e ▸ h) hj
   · rfl
theorem qIG (n t:Nat):stC n t n=(tbl n (kg t).2).map fun l=>.sl 1 true (l.map (V.int .i64)):=by
 unfold stC tbl
 rw[List.map_map]
 refine List.map_congr_left fun k hk=>?_
 rw[if_pos (List.mem_range.1 hk)];rfl
theorem GT2.start {H:Nat→Option MObj} {next n t:Nat}:GT2 H next (tbl n (kg t).1) (tbl n (kg t).2) (List.replicate n (.sl 1 true [])) (stC n t n):=by
 refine⟨?_,?_,fun i j v w h1 h2=>?_⟩
 · rw[show tbl n (kg t).1=List.replicate n [] from (qbd n).symm]
   exact GT.new H next n
 · rw[qIG];exact GT.lit H next _
 · have e1:=List.mem_replicate.1 (List.mem_of_getElem? h1)
   rw[e1.2];exact Sep.slL
theorem qaw {g:Grammar} (hg:GOk g):Pure Tryz.prog 15 [g.V] (.sl 1 false ((qhx g.toks.length g.nons.length g.prods).map (V.int .i64))):=by
 refine pure_intro Tryz.func15 qrq qCF (by show 1≤107;decide) ?_
 show ewp _ qhR _ _
 have hnl:=hg.nn2;have hpl:=hg.pl2;have htl:=hg.tk2
 have hn0:=hg.nn
 obtain ⟨n,hn⟩: ∃n,n=g.nons.length:=⟨_,rfl⟩
 obtain ⟨t,ht⟩: ∃t,t=g.toks.length:=⟨_,rfl⟩
 have hn':=hn.symm
 have ht':=ht.symm
 rw[← hn]at hnl hn0
 rw[← ht]at htl
 rw[← hn,← ht]
 have hs0:=qJz n t
 repeat' with_reducible first
  |refine s_ ?_
  |simp -implicitDefEqProofs only[wZZ,seval,hn',ht']
  |(refine And.intro ?_ ?_;(focus(first|with_unfolding_all rfl|exact congrArg some (qdv (by first|omega|(simp only[List.length_set];omega))))))
  |refine t_ ?_
  |apply Jh;exact wf_;exact wf_;(focus(unfold maxLen;first|omega|(simp only[wZ]<;>omega)))
 refine qf ?nx1 (fun(i:Nat) s=>s.f 1=?v1_1∧s.f 3=?v1_3∧s.f 4=?v1_4∧s.f 23=?v1_23∧s.H 0=some (MObj.own 5 [g.V] false)∧s.f 24=vi i∧(i≤n)∧(12≤s.next)∧(s.H 5=some (.own 1 (List.replicate n (V.sl 1 true [])) false))∧(s.H 9=some (.own 1 (stC n t i) false))) (fun i=>n - i) (0) wj_ (by refine⟨?_,?_,?_,?_,?_,?_,wo_,wg_,hh_,(by(rw[← hs0];((try simp only[wM]);(repeat first|rw[if_pos trivial]|rw[if_pos rfl]|rw[if_neg o_]))))⟩<;>first|(simp -implicitDefEqProofs only[wL,wM,wN,wX,seval,Option.some.injEq]<;>exact wt_)|rfl|exact⟨_,rfl⟩) ?_
 intro i s hnx ⟨g1,g3,g4,g23,o0,g24,k1_0,k1_1,k1_2,k1_3⟩
 have hz:=w1_ i
 have hzt:IntKind.i64.wrap ((t:Int)+(i:Int))=((t+i:Nat):Int):=by rw[wrap64 o_ o_];omega
 by_cases hi:i<n
 · repeat' with_reducible first
    |refine s_ ?_
    |simp -implicitDefEqProofs only[wZZ,seval,g1,g3,g4,g23,g24,o0,hz,hzt,hn',ht']
    |apply qc<;>intro h h_<;>(try simp only[wD,reduceCtorEq]at h_)<;>(try exact wb_)<;>(try simp only[h])
    |apply qF;omega;omega
    |(refine qeI k1_3 o_ (qkl hi) rfl rfl rfl rfl ?_)
    |refine t_ ?_
   refine⟨wg_,i+1,o_,?_⟩;(repeat refine⟨True.intro,?_⟩)
   exact⟨rfl,o_,wg_,by((try simp only[wM]);(repeat first|rw[if_pos trivial]|rw[if_pos rfl]|rw[if_neg o_]));exact k1_2,by((try simp only[wM]);(repeat first|rw[if_pos trivial]|rw[if_pos rfl]|rw[if_neg o_]));rw[qiU hi]⟩
 · have ei:i=n:=o_
   rw[ei]at k1_3
   have hpr:PrOk t n g.prods:=by rw[hn,ht];exact⟨hg.left,hg.right⟩
   repeat' with_reducible first
    |refine s_ ?_
    |simp -implicitDefEqProofs only[wZZ,seval,g1,g3,g4,g23,g24,o0]
    |apply qc<;>intro h h_<;>(try simp only[wD,reduceCtorEq]at h_)<;>(try exact wb_)<;>(try simp only[h])
    |refine t_ ?_
   refine qf ?nx2 (fun(i:Nat) s=>s.f 1=?v2_1∧s.f 3=?v2_3∧s.f 4=?v2_4∧s.f 38=?v2_38∧s.f 39=?v2_39∧s.H 0=some (MObj.own 5 [g.V] false)∧s.f 40=vi i∧(i≤g.prods.length)∧(12≤s.next)∧((∃es ss,s.H 5=some (.own 1 es false)∧s.H 9=some (.own 1 ss false)∧GT2 s.H s.next (tbl n (Qw (g.prods.take i) (kg t)).1) (tbl n (Qw (g.prods.take i) (kg t)).2) es ss))) (fun i=>g.prods.length - i) (0) wj_ (by refine⟨?_,?_,?_,?_,?_,?_,?_,wo_,wg_,(by(exact⟨_,_,by((try simp only[wM]);(repeat first|rw[if_pos trivial]|rw[if_pos rfl]|rw[if_neg o_]));exact k1_2,by((try simp only[wM]);(repeat first|rw[if_pos trivial]|rw[if_pos rfl]|rw[if_neg o_]));exact k1_3,GT2.start⟩))⟩<;>first|(simp -implicitDefEqProofs only[wL,wM,wN,wX,seval,Option.some.injEq,g1,g3,g4,g23,g24,o0]<;>exact wt_)|rfl|exact⟨_,rfl⟩) ?_
   intro i s hnx ⟨g1,g3,g4,g38,g39,o0,g40,k2_0,k2_1,k2_2⟩
   obtain ⟨es,ss,o5,o9,hT⟩:=k2_2
   have hz:=w1_ i
   by_cases hi:i<g.prods.length
   · have hmem:=List.getElem_mem hi
     obtain ⟨lf,hl1,hl2⟩:=hg.left _ hmem
     rw[← hn]at hl2
     have hrr:=hg.right _ hmem
     rw[← hn,← ht]at hrr
     have hrl:=hg.rlen _ hmem
     have htk:g.prods.take (i+1)=g.prods.take i++[g.prods[i]]:=by rw[List.take_add_one,ge_ hi];rfl
     generalize hp:g.prods[i]=p at *
     have hgp:g.prods[i]?=some p:=by rw[ge_ hi,hp]
     clear hp
     obtain ⟨pl,pr,pc,pco,pa,pat⟩:=p
     dsimp only at hl1 hrr hrl
     subst hl1
     have hrun:Qw (g.prods.take (i+1)) (kg t)=pr.foldl (ZC lf) (Qw (g.prods.take i) (kg t)):=by
      rw[htk];unfold Qw;rw[List.foldl_append];rfl
     have hQl: ∀k,((Qw (g.prods.take i) (kg t)).1 k).length≤480∧((Qw (g.prods.take i) (kg t)).2 k).length≤481:=fun k=>by
      have h1:=Vd (g.prods.take i) (fun p hp=>hg.rlen p (List.mem_of_mem_take hp)) (kg t) k
      have h2:(g.prods.take i).length≤60:=by rw[List.length_take];omega
      have h3:((kg t).1 k).length=0:=rfl
      have h4:((kg t).2 k).length=1:=rfl
      omega
     generalize Qw (g.prods.take i) (kg t)=Q at *
     repeat' with_reducible first
      |refine s_ ?_
      |simp -implicitDefEqProofs only[wZZ,seval,g1,g3,g4,g38,g39,g40,o0]
      |apply qc<;>intro h h_<;>(try simp only[wD,reduceCtorEq]at h_)<;>(try exact wb_)<;>(try simp only[h])
      |refine t_ ?_
     obtain ⟨D,hD⟩: ∃D,D=s.next+1+2:=⟨_,rfl⟩
     rw[← hD]
     refine qf ?nx3 (fun(j:Nat) s=>s.f 1=?v3_1∧s.f 3=?v3_3∧s.f 4=?v3_4∧s.f 7=?v3_7∧s.f 38=?v3_38∧s.f 39=?v3_39∧s.f 40=?v3_40∧s.f 45=?v3_45∧s.f 46=?v3_46∧s.f 47=vi j∧(j≤pr.length)∧(D<s.next)∧(s.H 0=some (MObj.own 5 [g.V] false))∧(s.H D=some (.own 6 [.agg [vi lf,.sl 1 false (pr.map (V.int .i64)),vi pc,.str pco,.sl 1 false (pa.map (V.int .i64)),vi pat]] false))∧((∃es ss,s.H 5=some (.own 1 es false)∧s.H 9=some (.own 1 ss false)∧GT2 s.H s.next (tbl n ((pr.take j).foldl (ZC lf) Q).1) (tbl n ((pr.take j).foldl (ZC lf) Q).2) es ss))) (fun j=>pr.length - j) (0) wj_ (by refine⟨?_,?_,?_,?_,?_,?_,?_,?_,?_,?_,wo_,wg_,(by(((try simp only[wM]);(repeat first|rw[if_pos trivial]|rw[if_pos rfl]|rw[if_neg o_]));exact o0)),hh_,(by(exact⟨es,ss,by((try simp only[wM]);(repeat first|rw[if_pos trivial]|rw[if_pos rfl]|rw[if_neg o_]));exact o5,by((try simp only[wM]);(repeat first|rw[if_pos trivial]|rw[if_pos rfl]|rw[if_neg o_]));exact o9,hT.mono wg_ (fun x h1 _=>hh_)⟩))⟩<;>first|(simp -implicitDefEqProofs only[wL,wM,wN,wX,seval,Option.some.injEq,g1,g3,g4,g38,g39,g40,o0]<;>exact wt_)|rfl|exact⟨_,rfl⟩) ?_
     intro j s hnx ⟨g1,g3,g4,g7,g38,g39,g40,g45,g46,g47,k3_0,k3_1,k3_2,k3_3,k3_4⟩
     obtain ⟨es2,ss2,p5,p9,hT2⟩:=k3_4
     have oD:=k3_3
     have p0:=k3_2
     have hzj:=w1_ j
     by_cases hj:j<pr.length
     · have hg1:pr[j]?=some pr[j]:=ge_ hj
       have hst:(pr.take (j+1)).foldl (ZC lf) Q=ZC lf ((pr.take j).foldl (ZC lf) Q) pr[j]:=by rw[List.take_add_one,hg1,Option.toList_some,List.foldl_append];rfl
       have hxr:=hrr _ (List.getElem_mem hj)
       generalize pr[j]=x at *
       have hql: ∀k,(((pr.take j).foldl (ZC lf) Q).1 k).length≤488∧(((pr.take j).foldl (ZC lf) Q).2 k).length≤489:=fun k=>by
        have h1:=Y3 (k:=lf) (pr.take j) Q k
        have h2:=hQl k
        have h3:(pr.take j).length≤8:=by rw[List.length_take];omega
        omega
       generalize (pr.take j).foldl (ZC lf) Q=q at *
       obtain ⟨qa,qb⟩:=q
       dsimp only at hT2 hql
       have hla:=hT2.a.lab false
       have hlb:=hT2.b.lab false
       obtain ⟨va,hva,hGa⟩:=hT2.a.get (yt (f:=qa) hl2)
       obtain ⟨vb,hvb,hGb⟩:=hT2.b.get (yt (f:=qb) hl2)
       have hna5:=hT2.a.ne p5 hva
       have hnb9:=hT2.b.ne p9 hvb
       have hd5: ¬ 5=D:=o_
       have hd9: ¬ 9=D:=o_
       have hsetA:=Vm (f:=qa) (x:=x - 1000) hl2
       have hsetB:=Vm (f:=qb) (x:=x) hl2
       by_cases hx:1000≤x
       · have e:ZC lf (qa,qb) x=(KA qa lf (x - 1000),qb):=if_pos hx
         rw[e]at hst
         have hzx:IntKind.i64.wrap (x - 1000)=x - 1000:=by
          rcases hxr with ⟨k,e,_⟩|⟨k,e,_⟩<;>exact wrap64 o_ o_
         have hll:=(hql lf).1
         have hn0':=hT2.a.ne p0 hva
         have hnD:=hT2.a.ne oD hva
         have hn9:=hT2.a.ne p9 hva
         repeat' with_reducible first
          |refine s_ ?_
          |simp -implicitDefEqProofs only[wZZ,seval,g1,g3,g4,g7,g38,g39,g40,g45,g46,g47,hzj,hzx,p0,oD,p5,p9,qd hna5]
          |apply qc<;>intro h h_<;>(try simp only[wD,reduceCtorEq]at h_)<;>(try exact wb_)<;>(try simp only[h])
          |(refine And.intro ?_ ?_;(focus(first|with_unfolding_all rfl|exact congrArg some (qdv (by first|omega|(simp only[List.length_set];omega))))))
          |(refine And.intro (congrArg some hla) ?_)
          |refine t_ ?_
          |apply qF;omega;omega
          |(refine qak rfl rfl o_ hva (Go.Proofs.Gr.fl3 hGa) ?_)
          |apply za rfl (hGa.mono (Nat.le_refl _) (fun id h1 h2=>by(try simp only[wM]);(repeat rw[if_neg o_])));(focus(first|exact qZ.sl|exact qZ.asl));(focus(simp only[wZ]<;>omega));(focus(unfold maxLen;simp only[wZ]<;>omega))
          |(refine qeI rfl o_ hva (Go.Proofs.Gr.fl3 hGa) rfl rfl rfl ?_)
          |simp -implicitDefEqProofs (disch:=omega) only[w64,if_neg]
         refine⟨wg_,j+1,o_,?_⟩;(repeat refine⟨True.intro,?_⟩)
         refine⟨rfl,o_,wg_,(qd hn0').trans p0,(qd hnD).trans oD,_,ss2,rfl,(qd hn9).trans p9,?_⟩
         rw[hst];dsimp only;rw[← hsetA]
         exact hT2.putA hva wg_ (fun y h1 h2 ⟨fin,hf⟩=>by
          have:y≠5:=fun e=>by rw[e,p5]at hf;cases hf
          ((try simp only[wM]);(repeat first|rw[if_pos trivial]|rw[if_pos rfl]|rw[if_neg o_]));rw[qd h2]) (Gr.tok hh_ wg_) (fun y hy=>by cases hy;omega)
       · have e:ZC lf (qa,qb) x=(qa,KA qb lf x):=if_neg hx
         rw[e]at hst
         have hll:=(hql lf).2
         have hn0':=hT2.b.ne p0 hvb
         have hnD:=hT2.b.ne oD hvb
         have hn5:=hT2.b.ne p5 hvb
         repeat' with_reducible first
          |refine s_ ?_
          |simp -implicitDefEqProofs only[wZZ,seval,g1,g3,g4,g7,g38,g39,g40,g45,g46,g47,hzj,p0,oD,p5,p9,qd hnb9]
          |apply qc<;>intro h h_<;>(try simp only[wD,reduceCtorEq]at h_)<;>(try exact wb_)<;>(try simp only[h])
          |(refine And.intro ?_ ?_;(focus(first|with_unfolding_all rfl|exact congrArg some (qdv (by first|omega|(simp only[List.length_set];omega))))))
          |(refine And.intro (congrArg some hlb) ?_)
          |refine t_ ?_
          |apply qF;omega;omega
          |(refine qak rfl rfl o_ hvb (Go.Proofs.Gr.fl3 hGb) ?_)
          |apply za rfl (hGb.mono (Nat.le_refl _) (fun id h1 h2=>by(try simp only[wM]);(repeat rw[if_neg o_])));(focus(first|exact qZ.sl|exact qZ.asl));(focus(simp only[wZ]<;>omega));(focus(unfold maxLen;simp only[wZ]<;>omega))
          |(refine qeI rfl o_ hvb (Go.Proofs.Gr.fl3 hGb) rfl rfl rfl ?_)
          |simp -implicitDefEqProofs (disch:=omega) only[w64,if_neg]
         refine⟨wg_,j+1,o_,?_⟩;(repeat refine⟨True.intro,?_⟩)
         refine⟨rfl,o_,wg_,(qd hn0').trans p0,(qd hnD).trans oD,es2,_,(qd hn5).trans p5,rfl,?_⟩
         rw[hst];dsimp only;rw[← hsetB]
         exact hT2.putB hvb wg_ (fun y h1 h2 ⟨fin,hf⟩=>by
          have:y≠9:=fun e=>by rw[e,p9]at hf;cases hf
          ((try simp only[wM]);(repeat first|rw[if_pos trivial]|rw[if_pos rfl]|rw[if_neg o_]));rw[qd h2]) (Gr.tok hh_ wg_) (fun y hy=>by cases hy;omega)
     · have ej:pr.take j=pr:=List.take_of_length_le o_
       rw[ej,← hrun]at hT2
       repeat' with_reducible first
        |refine s_ ?_
        |simp -implicitDefEqProofs only[wZZ,seval,g1,g3,g4,g7,g38,g39,g40,g45,g46,g47]
        |apply qc<;>intro h h_<;>(try simp only[wD,reduceCtorEq]at h_)<;>(try exact wb_)<;>(try simp only[h])
        |simp -implicitDefEqProofs (disch:=omega) only[w64,if_neg]
       refine⟨wg_,i+1,o_,?_⟩;(repeat refine⟨True.intro,?_⟩)
       exact⟨k3_2,rfl,o_,wg_,es2,ss2,p5,p9,hT2.mono wg_ (fun x h1 _=>hh_)⟩
   · skip
     have ei:g.prods.take i=g.prods:=List.take_of_length_le o_
     rw[ei]at hT
     have hlen:=Vd g.prods hg.rlen (kg t)
     have hQl: ∀k,((Qw g.prods (kg t)).1 k).length≤1000000∧((Qw g.prods (kg t)).2 k).length≤1000000:=fun k=>by
      have h1:=hlen k
      have h3:((kg t).1 k).length=0:=rfl
      have h4:((kg t).2 k).length=1:=rfl
      omega
     have hans:qhx t n g.prods=(lst (YH (Qw g.prods (kg t)).1 n (Qw g.prods (kg t)).2 0) 1024).map (JB t):=rfl
     rw[hans]
     generalize Qw g.prods (kg t)=Q at *
     have hcl:=qaN (rl:=tbl n Q.1) (sets:=tbl n Q.2) (by rw[xq];omega) (fun l hl=>by obtain ⟨k,_,rfl⟩:=List.mem_map.1 hl;exact(hQl k).1) (by rw[xq];omega) (fun l hl=>by obtain ⟨k,_,rfl⟩:=List.mem_map.1 hl;exact(hQl k).2)
     rw[xq,if_neg o_]at hcl
     have hg0:(ofL n (YH (qR (tbl n Q.1)) n (qR (tbl n Q.2))))[(0:Int).toNat]?=some (lst (YH Q.1 n Q.2 0) 1024):=by
      show (ofL n _)[0]?=_
      unfold ofL
      rw[List.getElem?_map,List.getElem?_range o_,Option.map_some,qeJ o_ (fun k hk=>JA hk) (fun k hk=>JA hk)]
     have hWl:=qaT (YH Q.1 n Q.2 0) 1024
     have hWm: ∀x∈lst (YH Q.1 n Q.2 0) 1024,0≤x∧x<1024:=fun x hx=>by obtain ⟨y,h1,_,rfl⟩:=Vg.1 hx;omega
     generalize lst (YH Q.1 n Q.2 0) 1024=W at *
     generalize ofL n (YH (qR (tbl n Q.1)) n (qR (tbl n Q.2)))=O at *
     have hTa:=hT.a
     have hTb:=hT.b
     have hE: ∀HH:Nat→Option MObj,HH 5=s.H 5→HH 9=s.H 9→Ers true (rsH (fun j=>j == 5 || j == 9) HH) [.msl 5 1 0 n,.msl 9 1 0 n] [.sl 1 false ((tbl n Q.1).map jl),.sl 1 false ((tbl n Q.2).map jl)]:=fun HH h1 h2=>by
      have e1:=Ve (S:=fun j=>j == 5 || j == 9) (ro:=false) rfl (h1.trans o5) hTa
      have e2:=Ve (S:=fun j=>j == 5 || j == 9) (ro:=false) rfl (h2.trans o9) hTb
      rw[xq]at e1 e2
      exact zk e1 (zk e2 xO)
     repeat' with_reducible first
      |refine s_ ?_
      |simp -implicitDefEqProofs only[wZZ,seval,g1,g3,g4,g38,g39,g40,o0,o0]
      |apply qc<;>intro h h_<;>(try simp only[wD,reduceCtorEq]at h_)<;>(try exact wb_)<;>(try simp only[h])
      |(refine qV rfl rfl rfl ((Qg (fun j=>j == 5 || j == 9) (hE _ hh_ hh_) hcl).mono ?_);rintro v1 H1 n1 ⟨rfl,rfl,rfl⟩)
      |refine t_ ?_
     have hfr0:frH (fun j=>j == 5 || j == 9) s.H 0=some (MObj.own 5 [g.V] false):=by unfold frH;rw[if_neg (by decide)];exact o0
     skip
     refine qf ?nx4 (fun(m:Nat) s=>s.f 1=?v4_1∧s.f 84=?v4_84∧s.f 85=?v4_85∧(∃v,s.f 10=v∧Gr s.H s.next 1 (((W.take m).map (JB t)).map (V.int .i64)) v)∧s.f 86=vi m∧(m≤W.length)∧(s.H 0=some (MObj.own 5 [g.V] false))) (fun m=>W.length - m) (0) wj_ (by refine⟨?_,?_,?_,?_,?_,wo_,(by(((try simp only[wM]);(repeat first|rw[if_pos trivial]|rw[if_pos rfl]|rw[if_neg o_]));exact hfr0))⟩<;>first|(simp -implicitDefEqProofs only[wL,wM,wN,wX,seval,Option.some.injEq,g1,g3,g4,g38,g39,g40,o0]<;>exact wt_)|rfl|exact⟨_,rfl⟩) ?_
     intro m s hnx ⟨g1,g84,g85,⟨v10,g10,G10⟩,g86,k4_0,k4_1⟩
     have hzm:=w1_ m
     have hwl:((W.take m).map (JB t)).length≤1024:=by rw[List.length_map,List.length_take];omega
     by_cases hm:m<W.length
     · have hgm:W[m]?=some W[m]:=ge_ hm
       have hst:(W.take (m+1)).map (JB t)=(W.take m).map (JB t)++[JB t W[m]]:=by rw[List.take_add_one,hgm,Option.toList_some,List.map_append];rfl
       have hb:=hWm _ (List.getElem_mem hm)
       generalize W[m]=x at *
       have hz1:IntKind.i64.wrap (1000 - (t:Int))=1000 - (t:Int):=wrap64 o_ o_
       have hz2:IntKind.i64.wrap (x+(1000 - (t:Int)))=x+(1000 - (t:Int)):=wrap64 o_ o_
       by_cases hx:(t:Int)≤x
       · have e:JB t x=x+(1000 - (t:Int)):=if_pos hx
         rw[e]at hst
         repeat' with_reducible first
          |refine s_ ?_
          |simp -implicitDefEqProofs only[wZZ,seval,g1,g84,g85,g10,g86,hzm,hz1,hz2,k4_1,ht',G10.len]
          |apply qc<;>intro h h_<;>(try simp only[wD,reduceCtorEq]at h_)<;>(try exact wb_)<;>(try simp only[h])
          |refine t_ ?_
          |apply za rfl (G10.mono (Nat.le_refl _) (fun id h1 h2=>by(try simp only[wM]);(repeat rw[if_neg o_])));(focus(first|exact qZ.sl|exact qZ.asl));(focus(simp only[wZ]<;>omega));(focus(unfold maxLen;simp only[wZ]<;>omega))
         refine⟨wk_,m+1,o_,?_⟩
         refine⟨?_,?_,?_,?_,?_,?_,?_⟩
         iterate 5 (focus(first|(simp -implicitDefEqProofs only[wL,wM,wN,wX,seval,Option.some.injEq,g1,g84,g85,g10,g86,hst]<;>first|rfl|exact⟨_,rfl⟩|exact⟨_,rfl,by first|assumption|exact Gr.nil|exact Gr.tok rfl o_|exact Gr.tok (by simp -implicitDefEqProofs only[wM,seval]<;>rfl) o_|exact Gr.clip|exact G10.to (by first|rfl|(simp[*];done)) o_ rfl⟩)|rfl|exact⟨_,rfl⟩|exact⟨_,rfl,by first|assumption|exact G10.to (by first|rfl|(simp[*];done)) o_ rfl⟩))
         all_goals try omega
         all_goals(try(((try simp only[wM]);(repeat first|rw[if_pos trivial]|rw[if_pos rfl]|rw[if_neg o_]));exact(qd (fun e=>by obtain ⟨fin,hf⟩:=Go.Proofs.Gr.tokAt G10 e;rw[k4_1]at hf;cases hf)).trans k4_1))
       · have e:JB t x=x:=if_neg hx
         rw[e]at hst
         repeat' with_reducible first
          |refine s_ ?_
          |simp -implicitDefEqProofs only[wZZ,seval,g1,g84,g85,g10,g86,hzm,hz1,hz2,k4_1,ht',G10.len]
          |apply qc<;>intro h h_<;>(try simp only[wD,reduceCtorEq]at h_)<;>(try exact wb_)<;>(try simp only[h])
          |refine t_ ?_
          |apply za rfl (G10.mono (Nat.le_refl _) (fun id h1 h2=>by(try simp only[wM]);(repeat rw[if_neg o_])));(focus(first|exact qZ.sl|exact qZ.asl));(focus(simp only[wZ]<;>omega));(focus(unfold maxLen;simp only[wZ]<;>omega))
         refine⟨wk_,m+1,o_,?_⟩
         refine⟨?_,?_,?_,?_,?_,?_,?_⟩
         iterate 5 (focus(first|(simp -implicitDefEqProofs only[wL,wM,wN,wX,seval,Option.some.injEq,g1,g84,g85,g10,g86,hst]<;>first|rfl|exact⟨_,rfl⟩|exact⟨_,rfl,by first|assumption|exact Gr.nil|exact Gr.tok rfl o_|exact Gr.tok (by simp -implicitDefEqProofs only[wM,seval]<;>rfl) o_|exact Gr.clip|exact G10.to (by first|rfl|(simp[*];done)) o_ rfl⟩)|rfl|exact⟨_,rfl⟩|exact⟨_,rfl,by first|assumption|exact G10.to (by first|rfl|(simp[*];done)) o_ rfl⟩))
         all_goals try omega
         all_goals(try(((try simp only[wM]);(repeat first|rw[if_pos trivial]|rw[if_pos rfl]|rw[if_neg o_]));exact(qd (fun e=>by obtain ⟨fin,hf⟩:=Go.Proofs.Gr.tokAt G10 e;rw[k4_1]at hf;cases hf)).trans k4_1))
     · have em:W.take m=W:=List.take_of_length_le o_
       rw[em]at G10
       repeat' with_reducible first
        |refine s_ ?_
        |simp -implicitDefEqProofs only[wZZ,seval,g1,g84,g85,g10,g86,G10.len]
        |apply qc<;>intro h h_<;>(try simp only[wD,reduceCtorEq]at h_)<;>(try exact wb_)<;>(try simp only[h])
       refine qA rfl (Or.inr rfl) ?_
       (simp -implicitDefEqProofs only[wL,seval,g10])
       exact G10.er rfl
end Go.Proofs
