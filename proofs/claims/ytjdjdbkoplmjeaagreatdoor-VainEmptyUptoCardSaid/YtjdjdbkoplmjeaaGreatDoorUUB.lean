/- Part of a proof that a law of the given program answers true. -/
import Derived.Test.YtjdjdbkoplmjeaaGreatDoorUUA
import Derived.Test.YtjdjdbkoplmjeaaGreatDoorUVD
import Derived.Test.YtjdjdbkoplmjeaaGreatDoorURA
import Derived.Test.YtjdjdbkoplmjeaaGreatDoorUCA
import Derived.Test.YtjdjdbkoplmjeaaGreatDoorUVE
set_option maxRecDepth 20000
set_option linter.unusedSimpArgs false
set_option linter.unusedVariables false
set_option maxHeartbeats 8000000
namespace Go.Proofs
open Go.E
theorem frS {H:Nat→Option MObj} {es:List V} (h:H 8=some (.own 1 es true)):frH (fun j=>j == 8) H=H:=by
 funext j
 unfold frH
 split
 · rename_i e
   have:j=8:=by simpa using e
   subst this
   rw[h];rfl
 · rfl
theorem qt7 {P:Program} [Glob P] {z id:Nat} {s:St} {K:V→St→Prop} {f:FuncId} {vs as':List V} {res:V} {S:Nat→Bool} (hS:frH S s.H=s.H) (hE:Ers true (rsH S s.H) vs as') (hp:Pure P f as' res) (hk:K res s):Zf P (.k z) id s K f vs:=by
 refine Or.inr ⟨rfl,?_⟩
 rw[List.append_nil]
 refine(Qg S hE hp).mono ?_
 rintro v H' n' ⟨rfl,e,rfl⟩
 rw[hS]at e
 subst e
 exact⟨⟨Nat.le_refl _,fun _ _ h=>h,fun _ _ _ _=>Iff.rfl⟩,hk⟩
theorem qdN (a b:Int):yo true [.int .i64 a,.int .i64 b]=some (.int .i64 (if b>a then b else a)):=by simp[yo]
theorem qg4 {O:Nat→Int} (hO: ∀j,0≤O j): ∀(r:List Int) (a:Int),0≤a→0≤rdR O r a
 |[],a,h=>h
 | s::r,a,h=>by
   unfold rdR
   split
   · omega
   · exact qg4 hO r _ (by have:=hO (s - 1000).toNat;unfold qcu;omega)
theorem qaJ {has:Nat→Bool} {O:Nat→Int} (hO: ∀j,0≤O j) (k:Nat): ∀(P:List GPr) (m:Int),0≤m→m≤1073741824→0≤P.foldl (rdS has O k) m∧P.foldl (rdS has O k) m≤1073741824
 |[],m,h1,h2=>⟨h1,h2⟩
 | p::P,m,h1,h2=>by
   rw[List.foldl_cons]
   have a1:=qg4 hO p.right 1 o_
   have a2:=qif (O:=O) p.right 1 o_
   have:0≤rdS has O k m p∧rdS has O k m p≤1073741824:=by unfold rdS;split<;>omega
   exact qaJ hO k P _ this.1 this.2
theorem qaF (P:List GPr) (has:Nat→Bool): ∀m k,0≤rdN P has m k∧rdN P has m k≤1073741824
 |0,k=>⟨by show (0:Int)≤0;omega,by show (0:Int)≤_;omega⟩
 |m+1,k=>qaJ (fun j=>(qaF P has m j).1) k P 0 o_ o_
theorem qHS {has:Nat→Bool} {O:Nat→Int} {l:List GPr} {p:GPr} (h: ¬ qW false has p.right=true):(fun k=>(l++[p]).foldl (rdS has O k) 0)=fun k=>l.foldl (rdS has O k) 0:=by
 funext k
 rw[List.foldl_append,List.foldl_cons,List.foldl_nil]
 unfold rdS;rw[if_neg (fun e=>h e.2)]
theorem qHB {has:Nat→Bool} {O:Nat→Int} {l:List GPr} {p:GPr} {lf:Nat} (hl:p.left=(lf:Int)) (h:qW false has p.right=true):(fun k=>(l++[p]).foldl (rdS has O k) 0)=ZB (fun k=>l.foldl (rdS has O k) 0) lf (max (l.foldl (rdS has O lf) 0) (rdR O p.right 1)):=by
 funext k
 rw[List.foldl_append,List.foldl_cons,List.foldl_nil]
 unfold ZB
 split
 · rename_i e;subst e
   rw[rdS,if_pos ⟨hl,h⟩]
 · rename_i e
   rw[rdS,if_neg (fun e2=>e (by have:=e2.1;omega))]
theorem JM {g :Grammar} {E cy:Nat→Bool} (hg:GOk g) (hE:IsGrow g false E) (hcy:vw g.prods g.nons.length E cy) (hnull:Pure Tryz.prog 38 [g.V] (.sl 1 false (xX g.nons.length E))):Pure Tryz.prog 18 [g.V] (.sl 1 false ((ji g.nons.length (szE g.prods g.nons.length E cy)).map (V.int .i64))):=by
 refine pure_intro Tryz.func18 qAu qrr (by show 1≤199;decide) ?_
 show ewp _ qdG _ _
 obtain ⟨n,hn⟩: ∃n,n=g.nons.length:=⟨_,rfl⟩
 have hn':g.nons.length=n:=hn.symm
 have hnl:=hg.nn2
 have hpl:=hg.pl2
 have hrt0:=fun p (hp:p∈g.prods)=>hg.rt hp
 have hfin:=fun {k:Nat}=>qgk hg hE hcy (k:=k)
 rw[hn']at hnull hcy hrt0 hfin ⊢
 have hbC:=JR n E
 repeat' with_reducible first
  |refine s_ ?_
  |simp -implicitDefEqProofs only[wZZ,seval,hn']
  |refine cq1 hnull qm ?_
  |refine t_ ?_
  |apply Jh;exact wf_;exact wf_;(focus(unfold maxLen;first|omega|(simp only[wZ]<;>omega)))
 refine qf ?nx1 (fun(i:Nat) s=>s.f 1=?v1_1∧s.f 3=?v1_3∧s.f 4=?v1_4∧s.H 0=some (MObj.own 5 [g.V] false)∧s.f 5=vi i∧(i≤g.prods.length)∧(9≤s.next)∧((∃es,s.H 8=some (.own 1 es false)∧GT s.H s.next (tbl n (relE (g.prods.take i) E)) es))) (fun i=>g.prods.length - i) (0) wj_ (by refine⟨?_,?_,?_,?_,?_,wo_,wg_,(by(exact⟨_,hh_,by rw[show relE (g.prods.take 0) E=fun _=>[] from rfl,← qbd];exact GT.new _ _ n⟩))⟩<;>first|(simp -implicitDefEqProofs only[wL,wM,wN,wX,seval,Option.some.injEq]<;>exact wt_)|rfl|exact⟨_,rfl⟩) ?_
 intro i s hnx ⟨g1,g3,g4,o0,g5,k1_0,k1_1,k1_2⟩
 obtain ⟨es,o8,hT⟩:=k1_2
 have hz:=w1_ i
 by_cases hi:i<g.prods.length
 · have hmem:=List.getElem_mem hi
   obtain ⟨lf,hl1,hl2⟩:=hg.left _ hmem
   rw[← hn]at hl2
   have hrtp:=hrt0 _ hmem
   have hrl:=hg.rlen _ hmem
   have htk:g.prods.take (i+1)=g.prods.take i++[g.prods[i]]:=by rw[List.take_add_one,ge_ hi];rfl
   have hfl: ∀k,(relE (g.prods.take i) E k).length≤480:=fun k=>by
    have h1:=Zk (g.prods.take i) (fun p hp=>hg.rlen p (List.mem_of_mem_take hp)) E k
    have h2:(g.prods.take i).length≤60:=by rw[List.length_take];omega
    omega
   generalize hp':g.prods[i]=p at *
   have hgp:g.prods[i]?=some p:=by rw[ge_ hi,hp']
   clear hp'
   obtain ⟨pl,pr,pc,pco,pa,pat⟩:=p
   dsimp only at hl1 hrtp hrl
   subst hl1
   have hemp:=jT (n:=n) (F:=E) (l:=pr) o_ o_ hrtp
   by_cases hft:qW false E pr=true
   · rw [hft]at hemp
     have hrun:relE (g.prods.take (i+1)) E=XV (relE (g.prods.take i) E) lf pr:=by rw[htk];exact qhe _ E _ rfl hft
     generalize relE (g.prods.take i) E=f0 at *
     repeat' with_reducible first
      |refine s_ ?_
      |simp -implicitDefEqProofs only[wZZ,seval,g1,g3,g4,g5,o0]
      |apply qc<;>intro h h_<;>(try simp only[wD,reduceCtorEq]at h_)<;>(try exact wb_)<;>(try simp only[h])
      |refine t_ ?_
     obtain ⟨D,hD⟩: ∃D,D=s.next+5+5:=⟨_,rfl⟩
     rw[← hD]
     refine qf ?nx2 (fun(j:Nat) s=>s.f 1=?v2_1∧s.f 3=?v2_3∧s.f 4=?v2_4∧s.f 5=?v2_5∧s.f 6=?v2_6∧s.f 7=vi j∧(j≤pr.length)∧(D<s.next)∧(s.H 0=some (MObj.own 5 [g.V] false))∧(s.H D=some (.own 6 [.agg [vi lf,.sl 1 false (pr.map (V.int .i64)),vi pc,.str pco,.sl 1 false (pa.map (V.int .i64)),vi pat]] false))∧((∃es,s.H 8=some (.own 1 es false)∧GT s.H s.next (tbl n (XV f0 lf (pr.take j))) es))) (fun j=>pr.length - j) (0) wj_ (by refine⟨?_,?_,?_,?_,?_,?_,wo_,wg_,(by(((try simp only[wM]);(repeat first|rw[if_pos trivial]|rw[if_pos rfl]|rw[if_neg o_]));exact o0)),hh_,(by(exact⟨es,by((try simp only[wM]);(repeat first|rw[if_pos trivial]|rw[if_pos rfl]|rw[if_neg o_]));exact o8,by rw[show pr.take 0=[] from rfl,qbY];exact hT.mono wg_ (fun x h1 _=>hh_)⟩))⟩<;>first|(simp -implicitDefEqProofs only[wL,wM,wN,wX,seval,Option.some.injEq,g1,g3,g4,g5,o0]<;>exact wt_)|rfl|exact⟨_,rfl⟩) ?_
     intro j s hnx ⟨g1,g3,g4,g5,g6,g7,k2_0,k2_1,k2_2,k2_3,k2_4⟩
     obtain ⟨es2,p8,hT2⟩:=k2_4
     have oD:=k2_3
     have p0:=k2_2
     have hzj:=w1_ j
     by_cases hj:j<pr.length
     · have hg1:pr[j]?=some pr[j]:=ge_ hj
       have hst:XV f0 lf (pr.take (j+1))=KA (XV f0 lf (pr.take j)) lf (pr[j] - 1000):=by rw[List.take_add_one,hg1,Option.toList_some,Ku]
       have hxr:=hrtp _ (List.getElem_mem hj)
       have hxf:=(kS hft (List.getElem_mem hj)).1
       have hql:(XV f0 lf (pr.take j) lf).length≤488:=by
        unfold XV;rw[if_pos rfl,List.length_append,List.length_map,List.length_take]
        have:=hfl lf
        omega
       generalize pr[j]=x at *
       generalize XV f0 lf (pr.take j)=q at *
       have hla:=hT2.lab false
       obtain ⟨va,hva,hGa⟩:=hT2.get (yt (f:=q) hl2)
       have hn8:=hT2.ne p8 hva
       have hd8: ¬ 8=D:=o_
       have hsetA:=Vm (f:=q) (x:=x - 1000) hl2
       have hzx:IntKind.i64.wrap (x - 1000)=x - 1000:=by
        rcases hxr with e|⟨k,e,_⟩
        · omega
        · exact wrap64 o_ o_
       have hn0':=hT2.ne p0 hva
       have hnD:=hT2.ne oD hva
       repeat' with_reducible first
        |refine s_ ?_
        |simp -implicitDefEqProofs only[wZZ,seval,g1,g3,g4,g5,g6,g7,hzj,hzx,p0,oD,p8,qd hn8]
        |(first|apply qi|apply qj)<;>intro h h_<;>(try simp only[wD,reduceCtorEq]at h_)<;>(try exact wb_)<;>(try simp only[h])
        |refine cq2 hemp qm qm ?_
        |refine t_ ?_
        |apply qF;omega;omega
        |(refine qak rfl rfl o_ hva (Go.Proofs.Gr.fl3 hGa) ?_)
        |apply za rfl (hGa.mono (Nat.le_refl _) (fun id h1 h2=>by(try simp only[wM]);(repeat rw[if_neg o_])));(focus(first|exact qZ.sl|exact qZ.asl));(focus(simp only[wZ]<;>omega));(focus(unfold maxLen;simp only[wZ]<;>omega))
        |(refine qeI rfl o_ hva (Go.Proofs.Gr.fl3 hGa) rfl rfl rfl ?_)
        |simp -implicitDefEqProofs (disch:=omega) only[w64,if_neg]
       refine⟨wg_,j+1,o_,?_⟩;(repeat refine⟨True.intro,?_⟩)
       refine⟨rfl,o_,wg_,(qd hn0').trans p0,(qd hnD).trans oD,_,rfl,?_⟩
       rw[hst,← hsetA]
       exact hT2.put hva wg_ (fun y h1 h2 ⟨fin,hf⟩=>by
        have:y≠8:=fun e=>by rw[e,p8]at hf;cases hf
        ((try simp only[wM]);(repeat first|rw[if_pos trivial]|rw[if_pos rfl]|rw[if_neg o_]));rw[qd h2]) (Gr.tok hh_ wg_) (fun y hy=>by cases hy;omega)
     · have ej:pr.take j=pr:=List.take_of_length_le o_
       rw[ej,← hrun]at hT2
       repeat' with_reducible first
        |refine s_ ?_
        |simp -implicitDefEqProofs only[wZZ,seval,g1,g3,g4,g5,g6,g7,oD,p0]
        |(first|apply qi|apply qj)<;>intro h h_<;>(try simp only[wD,reduceCtorEq]at h_)<;>(try exact wb_)<;>(try simp only[h])
        |refine t_ ?_
        |simp -implicitDefEqProofs (disch:=omega) only[w64,if_neg]
       refine⟨wg_,i+1,o_,?_⟩;(repeat refine⟨True.intro,?_⟩)
       exact⟨rfl,o_,wg_,es2,p8,hT2.mono wg_ (fun x h1 _=>hh_)⟩
   · skip
     have hft':qW false E pr=false:=by simpa using hft
     rw[hft']at hemp
     have hrun:relE (g.prods.take (i+1)) E=relE (g.prods.take i) E:=by rw[htk];exact qh6 _ E _ hft
     rw[← hrun]at hT
     have hpl0:0<pr.length:=by
      cases pr with
      |nil=>exact absurd rfl hft
      |cons a b=>simp
     repeat' with_reducible first
      |refine s_ ?_
      |simp -implicitDefEqProofs only[wZZ,seval,g1,g3,g4,g5,o0]
      |apply qc<;>intro h h_<;>(try simp only[wD,reduceCtorEq]at h_)<;>(try exact wb_)<;>(try simp only[h])
      |refine t_ ?_
     obtain ⟨D,hD⟩: ∃D,D=s.next+5+5:=⟨_,rfl⟩
     rw[← hD]
     skip
     refine qf ?nx2b (fun(j:Nat) s=>s.f 1=?v2b_1∧s.f 3=?v2b_3∧s.f 4=?v2b_4∧s.f 5=?v2b_5∧s.f 6=?v2b_6∧s.f 7=vi j∧(j=0)∧(D<s.next)∧(s.H 0=some (MObj.own 5 [g.V] false))∧(s.H D=some (.own 6 [.agg [vi lf,.sl 1 false (pr.map (V.int .i64)),vi pc,.str pco,.sl 1 false (pa.map (V.int .i64)),vi pat]] false))∧(s.H 8=some (.own 1 es false))∧(GT s.H s.next (tbl n (relE (g.prods.take (i+1)) E)) es)) (fun j=>1 - j) (0) wj_ (by refine⟨?_,?_,?_,?_,?_,?_,wo_,wg_,(by(((try simp only[wM]);(repeat first|rw[if_pos trivial]|rw[if_pos rfl]|rw[if_neg o_]));exact o0)),hh_,(by(((try simp only[wM]);(repeat first|rw[if_pos trivial]|rw[if_pos rfl]|rw[if_neg o_]));exact o8)),(by(exact hT.mono wg_ (fun x h1 _=>hh_)))⟩<;>first|(simp -implicitDefEqProofs only[wL,wM,wN,wX,seval,Option.some.injEq,g1,g3,g4,g5,o0]<;>exact wt_)|rfl|exact⟨_,rfl⟩) ?_
     intro j s hnx ⟨g1,g3,g4,g5,g6,g7,k2_0,k2_1,k2_2,k2_3,k2_4,k2_5⟩
     have ej:=k2_0
     subst ej
     have oD:=k2_3
     have p0:=k2_2
     have hT2:=k2_5
     repeat' with_reducible first
      |refine s_ ?_
      |simp -implicitDefEqProofs only[wZZ,seval,g1,g3,g4,g5,g6,g7,oD,p0]
      |(first|apply qi|apply qj)<;>intro h h_<;>(try simp only[wD,reduceCtorEq]at h_)<;>(try exact wb_)<;>(try simp only[h])
      |refine cq2 hemp qm qm ?_
      |refine t_ ?_
      |simp -implicitDefEqProofs (disch:=omega) only[w64,if_neg]
     refine⟨wg_,i+1,o_,?_⟩;(repeat refine⟨True.intro,?_⟩)
     exact⟨rfl,o_,wg_,es,k2_4,hT2.mono wg_ (fun x h1 _=>hh_)⟩
 · have ei : g.prods.take i=g.prods:=List.take_of_length_le o_
   rw[ei]at hT
   skip
   have hr0:=qii n
   repeat' with_reducible first
    |refine s_ ?_
    |simp -implicitDefEqProofs only[wZZ,seval,g1,g3,g4,g5,o0,hn']
    |apply qc<;>intro h h_<;>(try simp only[wD,reduceCtorEq]at h_)<;>(try exact wb_)<;>(try simp only[h])
    |refine t_ ?_
    |apply Jh;exact wf_;exact wf_;(focus(unfold maxLen;first|omega|(simp only[wZ]<;>omega)))
   rw[hr0]
   obtain ⟨X,hX⟩: ∃X,X=s.next+5+3:=⟨_,rfl⟩
   rw[← hX]
   have hPl: ∀p∈g.prods,p.right.length≤8:=hg.rlen
   skip
   refine qf ?nx3 (fun(q:Nat×Nat) s=>s.f 1=?v3_1∧s.f 3=?v3_3∧s.f 4=?v3_4∧s.f 8=.msl q.2 1 0 n∧s.f 9=vi q.1∧(q.1≤n+1)∧(s.H 0=some (MObj.own 5 [g.V] false))∧(q.2<s.next)∧(9≤q.2)∧(s.H q.2=some (.own 1 (ivs (ji n (rdN g.prods E q.1))) false))∧((∃es,s.H 8=some (.own 1 es false)∧GT s.H s.next (tbl n (relE g.prods E)) es))) (fun q=>n+1 - q.1) ((0,X)) wj_ (by refine⟨?_,?_,?_,?_,?_,wo_,(by(((try simp only[wM]);(repeat first|rw[if_pos trivial]|rw[if_pos rfl]|rw[if_neg o_]));exact o0)),wg_,(by(dsimp only;omega)),(by(((try simp only[wM]);(repeat first|rw[if_pos trivial]|rw[if_pos rfl]|rw[if_neg o_]));rfl)),(by(exact⟨es,by((try simp only[wM]);(repeat first|rw[if_pos trivial]|rw[if_pos rfl]|rw[if_neg o_]));exact o8,hT.mono wg_ (fun x h1 _=>hh_)⟩))⟩<;>first|(simp -implicitDefEqProofs only[wL,wM,wN,wX,seval,Option.some.injEq,g1,g3,g4,g5,o0]<;>exact wt_)|rfl|exact⟨_,rfl⟩) ?_
   intro q s hnx ⟨g1,g3,g4,g8,g9,k3_0,k3_1,k3_2,k3_3,k3_4,k3_5⟩
   clear hT o8 hX
   obtain ⟨r,O⟩:=q
   dsimp only at *
   obtain ⟨es2,o8,hT⟩:=k3_5
   have oO:=k3_4
   have p0:=k3_1
   have hzr:=w1_ r
   by_cases hr:r<n+1
   · have hd :decide ((r:Int)≤(n:Int))=true:=decide_eq_true o_
     repeat' with_reducible first
      |refine s_ ?_
      |simp -implicitDefEqProofs only[wZZ,seval,g1,g3,g4,g8,g9,hn',hd,hr0,p0]
      |refine t_ ?_
      |apply Jh;exact wf_;exact wf_;(focus(unfold maxLen;first|omega|(simp only[wZ]<;>omega)))
     obtain ⟨Y,hY⟩: ∃Y,Y=s.next+5+2+3:=⟨_,rfl⟩
     rw[← hY]
     refine qf ?nx4 (fun(i:Nat) s=>s.f 1=?v4_1∧s.f 3=?v4_3∧s.f 4=?v4_4∧s.f 8=?v4_8∧s.f 9=?v4_9∧s.f 10=?v4_10∧s.f 11=vi i∧(i≤g.prods.length)∧(Y<s.next)∧(s.H 0=some (MObj.own 5 [g.V] false))∧(s.H O=some (.own 1 (ivs (ji n (rdN g.prods E r))) false))∧(s.H Y=some (.own 1 (ivs (ji n (fun k=>(g.prods.take i).foldl (rdS E (rdN g.prods E r) k) 0))) false))∧((∃es,s.H 8=some (.own 1 es false)∧GT s.H s.next (tbl n (relE g.prods E)) es))) (fun i=>g.prods.length - i) (0) wj_ (by refine⟨?_,?_,?_,?_,?_,?_,?_,wo_,wg_,(by(((try simp only[wM]);(repeat first|rw[if_pos trivial]|rw[if_pos rfl]|rw[if_neg o_]));exact p0)),(by(((try simp only[wM]);(repeat first|rw[if_pos trivial]|rw[if_pos rfl]|rw[if_neg o_]));exact oO)),(by(((try simp only[wM]);(repeat first|rw[if_pos trivial]|rw[if_pos rfl]|rw[if_neg o_]));rfl)),(by(exact⟨es2,by((try simp only[wM]);(repeat first|rw[if_pos trivial]|rw[if_pos rfl]|rw[if_neg o_]));exact o8,hT.mono wg_ (fun x h1 _=>hh_)⟩))⟩<;>first|(simp -implicitDefEqProofs only[wL,wM,wN,wX,seval,Option.some.injEq,g1,g3,g4,g8,g9]<;>exact wt_)|rfl|exact⟨_,rfl⟩) ?_
     intro i s hnx ⟨g1,g3,g4,g8,g9,g10,g11,k4_0,k4_1,k4_2,k4_3,k4_4,k4_5⟩
     have hYO:O<Y:=o_
     clear hT o8 p0 oO hY
     obtain ⟨es3,o8,hT⟩:=k4_5
     have p0:=k4_2
     have oO:=k4_3
     have oY:=k4_4
     obtain ⟨L,hLe⟩: ∃L,L=rdN g.prods E r:=⟨_,rfl⟩
     have hL: ∀j,0≤L j∧L j≤1073741824:=fun j=>by rw[hLe];exact qaF _ _ _ _
     rw[← hLe]at oO oY
     have hz:=w1_ i
     by_cases hi:i<g.prods.length
     · have hmem:=List.getElem_mem hi
       obtain ⟨lf,hl1,hl2⟩:=hg.left _ hmem
       rw[← hn]at hl2
       have hrtp:=hrt0 _ hmem
       have hrl:=hg.rlen _ hmem
       have htk:g.prods.take (i+1)=g.prods.take i++[g.prods[i]]:=by rw[List.take_add_one,ge_ hi];rfl
       generalize hp':g.prods[i]=p at *
       have hgp:g.prods[i]?=some p:=by rw[ge_ hi,hp']
       clear hp'
       obtain ⟨pl,pr,pc,pco,pa,pat⟩:=p
       dsimp only at hl1 hrtp hrl
       subst hl1
       have hemp:=jT (n:=n) (F:=E) (l:=pr) o_ o_ hrtp
       by_cases hft:qW false E pr=true
       · rw [hft]at hemp
         repeat' with_reducible first
          |refine s_ ?_
          |simp -implicitDefEqProofs only[wZZ,seval,g1,g3,g4,g8,g9,g10,g11,p0]
          |apply qc<;>intro h h_<;>(try simp only[wD,reduceCtorEq]at h_)<;>(try exact wb_)<;>(try simp only[h])
          |refine t_ ?_
         obtain ⟨D,hD⟩: ∃D,D=s.next+5+5:=⟨_,rfl⟩
         rw[← hD]
         have hF1:=qHB (has:=E) (O:=L) (l:=g.prods.take i) (p:=⟨lf,pr,pc,pco,pa,pat⟩) (lf:=lf) rfl hft
         rw[← htk]at hF1
         have hF0:=qaJ (has:=E) (fun j=>(hL j).1) lf (g.prods.take i) 0 o_ o_
         refine qf ?nx5 (fun(q:Nat×Int) s=>s.f 1=?v5_1∧s.f 3=?v5_3∧s.f 4=?v5_4∧s.f 8=?v5_8∧s.f 9=?v5_9∧s.f 10=?v5_10∧s.f 11=?v5_11∧s.f 12=?v5_12∧s.f 13=vi q.2∧s.f 14=vi q.1∧(q.1≤pr.length)∧(0<q.2)∧(q.2≤1073741824)∧(rdR L (pr.drop q.1) q.2=rdR L pr 1)∧(D<s.next)∧(s.H 0=some (MObj.own 5 [g.V] false))∧(s.H D=some (.own 6 [.agg [vi lf,.sl 1 false (pr.map (V.int .i64)),vi pc,.str pco,.sl 1 false (pa.map (V.int .i64)),vi pat]] false))∧(s.H O=some (.own 1 (ivs (ji n L)) false))∧(s.H Y=some (.own 1 (ivs (ji n (fun k=>(g.prods.take i).foldl (rdS E L k) 0))) false))∧((∃es,s.H 8=some (.own 1 es false)∧GT s.H s.next (tbl n (relE g.prods E)) es))) (fun q=>pr.length - q.1) ((0,1)) wj_ (by refine⟨?_,?_,?_,?_,?_,?_,?_,?_,?_,?_,wo_,wo_,wo_,(by rfl),wg_,(by(((try simp only[wM]);(repeat first|rw[if_pos trivial]|rw[if_pos rfl]|rw[if_neg o_]));exact p0)),hh_,(by(((try simp only[wM]);(repeat first|rw[if_pos trivial]|rw[if_pos rfl]|rw[if_neg o_]));exact oO)),(by(((try simp only[wM]);(repeat first|rw[if_pos trivial]|rw[if_pos rfl]|rw[if_neg o_]));exact oY)),(by(exact⟨es3,by((try simp only[wM]);(repeat first|rw[if_pos trivial]|rw[if_pos rfl]|rw[if_neg o_]));exact o8,hT.mono wg_ (fun x h1 _=>hh_)⟩))⟩<;>first|(simp -implicitDefEqProofs only[wL,wM,wN,wX,seval,Option.some.injEq,g1,g3,g4,g8,g9,g10,g11]<;>exact wt_)|rfl|exact⟨_,rfl⟩) ?_
         intro q s hnx ⟨g1,g3,g4,g8,g9,g10,g11,g12,g13,g14,k5_0,k5_1,k5_2,k5_3,k5_4,k5_5,k5_6,k5_7,k5_8,k5_9⟩
         obtain ⟨k,a⟩:=q
         dsimp only at *
         obtain ⟨es4,q8,hT4⟩:=k5_9
         have q0:=k5_5
         have qD:=k5_6
         have qO:=k5_7
         have qY:=k5_8
         have hYD: ¬ Y=D:=o_
         have hzk:=w1_ k
         by_cases hk:k<pr.length
         · have hgs:pr[k]?=some pr[k]:=ge_ hk
           have hdr:pr.drop k=pr[k]::pr.drop (k+1):=List.drop_eq_getElem_cons hk
           have hxf:=(kS hft (List.getElem_mem hk)).1
           have hxr:=hrtp _ (List.getElem_mem hk)
           generalize pr[k]=sy at *
           obtain ⟨j,rfl,hjn⟩: ∃j:Nat,sy=1000+(j:Int)∧j<n:=by
            rcases hxr with h|h
            · omega
            · exact h
           rw[hdr,rdR,show (1000+(j:Int) - 1000).toNat=j by omega]at k5_3
           have hzx:IntKind.i64.wrap (1000+(j:Int) - 1000)=(j:Int):=by rw[wrap64 o_ o_];omega
           have hgj:=zh (l:=L) hjn
           obtain ⟨hv1,hv2⟩:=hL j
           by_cases hv:L j=0
           · rw[if_pos hv]at k5_3
             rw[hv]at hgj
             rw[← k5_3]at hF1
             have hmx:(if (0:Int)>(g.prods.take i).foldl (rdS E L lf) 0 then 0 else(g.prods.take i).foldl (rdS E L lf) 0)=max ((g.prods.take i).foldl (rdS E L lf) 0) 0:=by split<;>omega
             have hgl:=zh (l:=fun k=>(g.prods.take i).foldl (rdS E L k) 0) hl2
             repeat' with_reducible first
              |refine s_ ?_
              |simp -implicitDefEqProofs only[wZZ,seval,g1,g3,g4,g8,g9,g10,g11,g12,g13,g14,hzk,hzx,q0,qD,qO,qY,ZE,qdN,hmx]
              |(first|apply qi|apply qj)<;>intro h h_<;>(try simp only[wD,reduceCtorEq]at h_)<;>(try exact wb_)<;>(try simp only[h])
              |refine cq2 hemp qm qm ?_
              |refine t_ ?_
              |apply qF;omega;omega
              |(refine ldI j rfl o_ hgj ?_)
              |(refine ldI lf rfl o_ hgl ?_)
              |(refine stI lf rfl o_ hl2 ?_)
              |simp -implicitDefEqProofs (disch:=omega) only[w64,if_neg]
             refine⟨wg_,i+1,o_,?_⟩;(repeat refine⟨True.intro,?_⟩)
             exact⟨rfl,o_,o_,trivial,by rw[hLe],by rw[← hLe,hF1],es4,q8,hT4.mono wg_ (fun x h1 ⟨fin,hf⟩=>by
             have hxY:x≠Y:=fun e=>by rw[e,qY]at hf;cases hf
             ((try simp only[wM]);(repeat first|rw[if_pos trivial]|rw[if_pos rfl]|rw[if_neg o_])))⟩
           · rw[if_neg hv]at k5_3
             have hzs:IntKind.i64.wrap (a+L j)=a+L j:=wrap64 o_ o_
             have hmn:(if (1073741824:Int)<a+L j then 1073741824 else a+L j)=qcu (a+L j):=by unfold qcu;split<;>omega
             have hcp:0<qcu (a+L j)∧qcu (a+L j)≤1073741824:=by unfold qcu;omega
             have hvd:decide (L j=0)=false:=decide_eq_false hv
             generalize qcu (a+L j)=b at *
             repeat' with_reducible first
              |refine s_ ?_
              |simp -implicitDefEqProofs only[wZZ,seval,g1,g3,g4,g8,g9,g10,g11,g12,g13,g14,hzk,hzx,q0,qD,qO,qY,hzs,ZE,qa4,hmn,hvd]
              |(first|apply qi|apply qj)<;>intro h h_<;>(try simp only[wD,reduceCtorEq]at h_)<;>(try exact wb_)<;>(try simp only[h])
              |refine cq2 hemp qm qm ?_
              |refine t_ ?_
              |apply qF;omega;omega
              |(refine ldI j rfl o_ hgj ?_)
             refine⟨wg_,(k+1,b),by dsimp only;omega,?_⟩;(repeat refine⟨True.intro,?_⟩)
             exact⟨rfl,rfl,by dsimp only;omega,hcp.1,hcp.2,k5_3,o_,trivial,trivial,trivial,trivial,es4,q8,hT4.mono wg_ (fun x h1 _=>hh_)⟩
         · have ek:pr.drop k=[]:=List.drop_of_length_le o_
           rw[ek,rdR]at k5_3
           rw[← k5_3]at hF1
           have hmx:(if a>(g.prods.take i).foldl (rdS E L lf) 0 then a else(g.prods.take i).foldl (rdS E L lf) 0)=max ((g.prods.take i).foldl (rdS E L lf) 0) a:=by split<;>omega
           have hgl:=zh (l:=fun k=>(g.prods.take i).foldl (rdS E L k) 0) hl2
           repeat' with_reducible first
            |refine s_ ?_
            |simp -implicitDefEqProofs only[wZZ,seval,g1,g3,g4,g8,g9,g10,g11,g12,g13,g14,hzk,q0,qD,qO,qY,ZE,qdN,hmx]
            |(first|apply qi|apply qj)<;>intro h h_<;>(try simp only[wD,reduceCtorEq]at h_)<;>(try exact wb_)<;>(try simp only[h])
            |refine cq2 hemp qm qm ?_
            |apply qF;omega;omega
            |(refine ldI lf rfl o_ hgl ?_)
            |(refine stI lf rfl o_ hl2 ?_)
            |refine t_ ?_
            |simp -implicitDefEqProofs (disch:=omega) only[w64,if_neg]
           refine⟨wg_,i+1,o_,?_⟩;(repeat refine⟨True.intro,?_⟩)
           exact⟨rfl,o_,o_,trivial,by rw[hLe],by rw[← hLe,hF1],es4,q8,hT4.mono wg_ (fun x h1 ⟨fin,hf⟩=>by
            have hxY:x≠Y:=fun e=>by rw[e,qY]at hf;cases hf
            ((try simp only[wM]);(repeat first|rw[if_pos trivial]|rw[if_pos rfl]|rw[if_neg o_])))⟩
       · skip
         have hft':qW false E pr=false:=by simpa using hft
         rw[hft']at hemp
         have hF1:=qHS (has:=E) (O:=L) (l:=g.prods.take i) (p:=⟨lf,pr,pc,pco,pa,pat⟩) hft
         rw[← htk]at hF1
         have hpl0:0<pr.length:=by
          cases pr with
          |nil=>exact absurd rfl hft
          |cons a b=>simp
         repeat' with_reducible first
          |refine s_ ?_
          |simp -implicitDefEqProofs only[wZZ,seval,g1,g3,g4,g8,g9,g10,g11,p0]
          |apply qc<;>intro h h_<;>(try simp only[wD,reduceCtorEq]at h_)<;>(try exact wb_)<;>(try simp only[h])
          |refine t_ ?_
         obtain ⟨D,hD⟩: ∃D,D=s.next+5+5:=⟨_,rfl⟩
         rw[← hD]
         skip
         refine qf ?nx5b (fun(k:Nat) s=>s.f 1=?v5b_1∧s.f 3=?v5b_3∧s.f 4=?v5b_4∧s.f 8=?v5b_8∧s.f 9=?v5b_9∧s.f 10=?v5b_10∧s.f 11=?v5b_11∧s.f 12=?v5b_12∧s.f 13=vi 1∧s.f 14=vi k∧(k=0)∧(D<s.next)∧(s.H 0=some (MObj.own 5 [g.V] false))∧(s.H D=some (.own 6 [.agg [vi lf,.sl 1 false (pr.map (V.int .i64)),vi pc,.str pco,.sl 1 false (pa.map (V.int .i64)),vi pat]] false))∧(s.H O=some (.own 1 (ivs (ji n L)) false))∧(s.H Y=some (.own 1 (ivs (ji n (fun k=>(g.prods.take i).foldl (rdS E L k) 0))) false))∧((∃es,s.H 8=some (.own 1 es false)∧GT s.H s.next (tbl n (relE g.prods E)) es))) (fun k=>1 - k) (0) wj_ (by refine⟨?_,?_,?_,?_,?_,?_,?_,?_,?_,?_,wo_,wg_,(by(((try simp only[wM]);(repeat first|rw[if_pos trivial]|rw[if_pos rfl]|rw[if_neg o_]));exact p0)),hh_,(by(((try simp only[wM]);(repeat first|rw[if_pos trivial]|rw[if_pos rfl]|rw[if_neg o_]));exact oO)),(by(((try simp only[wM]);(repeat first|rw[if_pos trivial]|rw[if_pos rfl]|rw[if_neg o_]));exact oY)),(by(exact⟨es3,by((try simp only[wM]);(repeat first|rw[if_pos trivial]|rw[if_pos rfl]|rw[if_neg o_]));exact o8,hT.mono wg_ (fun x h1 _=>hh_)⟩))⟩<;>first|(simp -implicitDefEqProofs only[wL,wM,wN,wX,seval,Option.some.injEq,g1,g3,g4,g8,g9,g10,g11]<;>exact wt_)|rfl|exact⟨_,rfl⟩) ?_
         intro k s hnx ⟨g1,g3,g4,g8,g9,g10,g11,g12,g13,g14,k5_0,k5_1,k5_2,k5_3,k5_4,k5_5,k5_6⟩
         have ek:=k5_0
         subst ek
         obtain ⟨es4,q8,hT4⟩:=k5_6
         have q0:=k5_2
         have qD:=k5_3
         have qO:=k5_4
         have qY:=k5_5
         repeat' with_reducible first
          |refine s_ ?_
          |simp -implicitDefEqProofs only[wZZ,seval,g1,g3,g4,g8,g9,g10,g11,g12,g13,g14,q0,qD,qO,qY]
          |(first|apply qi|apply qj)<;>intro h h_<;>(try simp only[wD,reduceCtorEq]at h_)<;>(try exact wb_)<;>(try simp only[h])
          |refine cq2 hemp qm qm ?_
          |refine t_ ?_
          |simp -implicitDefEqProofs (disch:=omega) only[w64,if_neg]
         refine⟨wg_,i+1,o_,?_⟩;(repeat refine⟨True.intro,?_⟩)
         exact⟨rfl,o_,o_,trivial,by rw[hLe],by rw[← hLe,hF1],es4,q8,hT4.mono wg_ (fun x h1 _=>hh_)⟩
     · have ei:g.prods.take i=g.prods:=List.take_of_length_le o_
       rw[ei]at oY
       skip
       rw[hLe]at oY
       repeat' with_reducible first
        |refine s_ ?_
        |simp -implicitDefEqProofs only[wZZ,seval,g1,g3,g4,g8,g9,g10,g11,p0,hzr]
        |apply qc<;>intro h h_<;>(try simp only[wD,reduceCtorEq]at h_)<;>(try exact wb_)<;>(try simp only[h])
        |refine t_ ?_
       refine⟨wg_,(r+1,Y),by dsimp only;omega,?_⟩;(repeat refine⟨True.intro,?_⟩)
       exact⟨rfl,rfl,by dsimp only;omega,trivial,by dsimp only;omega,by dsimp only;omega,oY,es3,o8,hT.mono wg_ (fun x h1 _=>hh_)⟩
   · skip
     have er:r=n+1:=o_
     subst er
     have hd:decide (((n+1:Nat):Int)≤(n:Int))=false:=decide_eq_false o_
     repeat' with_reducible first
      |refine s_ ?_
      |simp -implicitDefEqProofs only[wZZ,seval,g1,g3,g4,g8,g9,hn',hd,p0]
      |refine t_ ?_
     obtain ⟨rel,hrel⟩: ∃rel,rel=relE g.prods E:=⟨_,rfl⟩
     have hrl: ∀k,(rel k).length≤480:=fun k=>by
      have:=Zk g.prods hg.rlen E k
      rw[hrel];omega
     have hrn: ∀k,k<n→ ∀j∈rel k,∃m:Nat,j=m∧m<n:=fun k hk j hj=>by
      rw[hrel]at hj
      obtain ⟨p,hp,_,hf,s,hs,e⟩:=Vw hj
      obtain ⟨i,hi⟩:=List.mem_iff_getElem.1 hs
      obtain ⟨hi,rfl⟩:=hi
      have h1:=(kS hf hs).1
      rcases hrt0 p hp _ hs with h|⟨m,h,hm⟩
      · omega
      · exact⟨m,o_,hm⟩
     have hbd:=fun {i:Nat} (hi:i<n)=>qgA hcy (by rw[← hrel];exact hrn) hi
     rw[← hrel]at hT hbd
     have htl:(tbl n rel).length=n:=xq _ _
     have hRc:=fun {i:Nat} (hi:i<n)=>JF (rl:=tbl n rel) (i:=i) o_ (fun l hl=>by obtain ⟨k,_,rfl⟩:=List.mem_map.1 hl;have:=hrl k;omega) o_
     rw[htl]at hRc
     obtain ⟨RS,hRS⟩: ∃RS,RS=Qy (qR (tbl n rel)) n:=⟨_,rfl⟩
     rw[← hRS]at hRc
     have hRm: ∀i,i<n→ ∀x,x∈RS i↔x∈Qy rel n i:=fun i hi x=>by
      rw[hRS,(xE hi).2,(xE hi).2]
      have e1: ∀i,i<n→qR (tbl n rel) i=rel i:=fun i hi=>JA hi
      constructor
      · rintro ⟨k,h1,h2,h3⟩;exact⟨k,h1,h2,jZ e1 h3⟩
      · rintro ⟨k,h1,h2,h3⟩;exact⟨k,h1,h2,jZ (fun i hi=>(e1 i hi).symm) h3⟩
     have hRn: ∀i,i<n→(RS i).length≤n∧ ∀x∈RS i,∃k:Nat,x=k∧k<n:=fun i hi=>by
      have h:=xE (rel:=qR (tbl n rel)) hi
      rw[← hRS]at h
      have h2: ∀x∈RS i,∃k:Nat,x=k∧k<n:=fun x hx=>by
       obtain ⟨k,e,hk,_⟩:=(h.2 x).1 hx
       exact⟨k,e,hk⟩
      exact⟨yN h.1 (fun x hx=>by obtain ⟨k,rfl,hk⟩:=h2 x hx;omega),h2⟩
     have hrb: ∀i,i<n→qEK rel n i=(RS i).any fun r=>(rel r.toNat).any fun j=>decide (r∈RS j.toNat):=fun i hi=>by
      rw[Bool.eq_iff_iff]
      unfold qEK
      simp only[List.any_eq_true,decide_eq_true_eq]
      constructor
      · rintro ⟨r,h1,j,h2,h3⟩
        have h1':=(hRm i hi r).2 h1
        obtain ⟨k,rfl,hk⟩:=(hRn i hi).2 r h1'
        obtain ⟨m,rfl,hm⟩:=hrn k hk j h2
        exact⟨k,h1',m,h2,(hRm m hm k).2 h3⟩
      · rintro ⟨r,h1,j,h2,h3⟩
        obtain ⟨k,rfl,hk⟩:=(hRn i hi).2 r h1
        obtain ⟨m,rfl,hm⟩:=hrn k hk j h2
        exact⟨k,(hRm i hi k).1 h1,m,h2,(hRm m hm k).1 h3⟩
     clear hRS
     have hNr:=fun k=>qaF g.prods E (n+1) k
     have hE1: ∀(HH H0:Nat→Option MObj) (nx:Nat) (es:List V) (ro:Bool),HH 8=some (.own 1 es ro)→GT H0 nx (tbl n rel) es→Er true (rsH (fun j=>j == 8) HH) (.msl 8 1 0 n) (.sl 1 false ((tbl n rel).map jl)):=fun HH H0 nx es ro h1 h2=>by
      have e1:=Ve (S:=fun j=>j == 8) (ro:=ro) rfl h1 h2
      rw[htl]at e1
      exact e1
     have hO8:O≠8:=o_
     generalize rdN g.prods E (n+1)=N at *
     obtain ⟨Z,hZ⟩: ∃Z,Z=szE g.prods n E cy:=⟨_,rfl⟩
     rw[← hZ]at hfin ⊢
     have oO':s.H O=some (.own 1 (ivs (ji n (fun k=>if k<0 then Z k else N k))) false):=by
      rw[oO];congr 3
     skip
     refine qf ?nx6 (fun(i:Nat) s=>s.f 4=?v6_4∧s.f 8=?v6_8∧s.f 16=vi i∧(i≤n)∧(O<s.next)∧(s.H O=some (.own 1 (ivs (ji n (fun k=>if k<i then Z k else N k))) false))∧((∃es ro,s.H 8=some (.own 1 es ro)∧GT s.H s.next (tbl n rel) es))) (fun i=>n - i) (0) wj_ (by refine⟨?_,?_,?_,wo_,wg_,(by(((try simp only[wM]);(repeat first|rw[if_pos trivial]|rw[if_pos rfl]|rw[if_neg o_]));exact oO')),(by(exact⟨es2,false,by((try simp only[wM]);(repeat first|rw[if_pos trivial]|rw[if_pos rfl]|rw[if_neg o_]));exact o8,hT.mono wg_ (fun x h1 _=>hh_)⟩))⟩<;>first|(simp -implicitDefEqProofs only[wL,wM,wN,wX,seval,Option.some.injEq,g1,g3,g4,g8,g9]<;>exact wt_)|rfl|exact⟨_,rfl⟩) ?_
     intro i s hnx ⟨g4,g8,g16,k6_0,k6_1,k6_2,k6_3⟩
     clear hT o8 p0 oO oO'
     obtain ⟨es3,ro,q8,hT3⟩:=k6_3
     have qO:=k6_2
     have hzi:=w1_ i
     by_cases hi:i<n
     · have hre:=hRc hi
       obtain ⟨hRl,hRx⟩:=hRn i hi
       have hbi:=hrb i hi
       have hfi:=hfin hi (hbd hi)
       rw[hbi]at hfi
       have hE2: ∀HH:Nat→Option MObj,HH 8=s.H 8→Ers true (rsH (fun j=>j == 8) HH) [.msl 8 1 0 n,vi i] [.sl 1 false ((tbl n rel).map jl),vi i]:=fun HH h1=>zk (hE1 HH s.H s.next es3 ro (h1.trans q8) hT3) (zk qm xO)
       have hfr: ∀j,j≠8→frH (fun j=>j == 8) s.H j=s.H j:=fun j hj=>by unfold frH;rw[if_neg (by simpa using hj)]
       have hfr8:frH (fun j=>j == 8) s.H 8=some (.own 1 es3 true):=by unfold frH;rw[if_pos (by rfl),q8];rfl
       have hfrt: ∀j,(∃fin,s.H j=some (.tok fin))→frH (fun j=>j == 8) s.H j=s.H j:=fun j ⟨fin,hf⟩=>hfr j (fun e=>by rw[e,q8]at hf;cases hf)
       obtain ⟨T,hT⟩: ∃T:Int→Bool,T=fun r=>(rel r.toNat).any fun j=>decide (r∈RS j.toNat):=⟨_,rfl⟩
       rw[← hT]at hfi
       generalize RS i=r at hre hRl hRx hfi
       clear hbi
       repeat' with_reducible first
        |refine s_ ?_
        |simp -implicitDefEqProofs only[wZZ,seval,g4,g8,g16]
        |apply qc<;>intro h h_<;>(try simp only[wD,reduceCtorEq]at h_)<;>(try exact wb_)<;>(try simp only[h])
        |(refine qV rfl rfl rfl ((Qg (fun j=>j == 8) (hE2 _ hh_) hre).mono ?_);rintro v1 H1 n1 ⟨rfl,rfl,rfl⟩)
       refine qf ?nx7 (fun(k:Nat) s=>s.f 4=?v7_4∧s.f 8=?v7_8∧s.f 16=?v7_16∧s.f 18=?v7_18∧s.f 17=.bool ((r.take k).any T)∧s.f 19=vi k∧(k≤r.length)∧(O<s.next)∧(s.H O=some (.own 1 (ivs (ji n (fun k=>if k<i then Z k else N k))) false))∧(s.H 8=some (.own 1 es3 true))∧(GT s.H s.next (tbl n rel) es3)) (fun k=>r.length - k) (0) wj_ (by refine⟨?_,?_,?_,?_,?_,?_,wo_,wg_,(by(((try simp only[wM]);(repeat first|rw[if_pos trivial]|rw[if_pos rfl]|rw[if_neg o_]));exact(hfr _ hO8).trans qO)),(by(((try simp only[wM]);(repeat first|rw[if_pos trivial]|rw[if_pos rfl]|rw[if_neg o_]));exact hfr8)),(by(exact hT3.mono wg_ (fun x h1 h2=>by((try simp only[wM]);(repeat first|rw[if_pos trivial]|rw[if_pos rfl]|rw[if_neg o_]));exact hfrt x h2)))⟩<;>first|(simp -implicitDefEqProofs only[wL,wM,wN,wX,seval,Option.some.injEq,g4,g8,g16]<;>exact wt_)|rfl|exact⟨_,rfl⟩) ?_
       intro k s hnx ⟨g4,g8,g16,g18,g17,g19,k7_0,k7_1,k7_2,k7_3,k7_4⟩
       clear hfr hfr8 hfrt hE2 hT3 q8 qO
       have qO:=k7_2
       have hzk:=w1_ k
       by_cases hk:k<r.length
       · have hgk:r[k]?=some r[k]:=ge_ hk
         have hkt:r.take (k+1)=r.take k++[r[k]]:=by rw[List.take_add_one,hgk];rfl
         obtain ⟨x,hx,hxn⟩:=hRx _ (List.getElem_mem hk)
         have hkT:(r.take (k+1)).any T=((r.take k).any T || T x):=by rw[hkt,List.any_append,hx];simp
         rw[hx]at hgk
         clear hkt
         obtain ⟨vk,hvk,hGk⟩:=k7_4.get (yt (f:=rel) hxn)
         have hvl:ZL vk=some (vi ((rel x).length:Int)):=by rw[hGk.len,List.length_map]
         have hrk:=hrl x
         obtain ⟨U,hU⟩: ∃U:Int→Bool,U=fun j=>decide ((x:Int)∈RS j.toNat):=⟨_,rfl⟩
         have hTx:T x=(rel x).any U:=by rw[hT,hU];rfl
         generalize (r.take k).any T=b0 at *
         rw[show b0=(b0 || ((rel x).take 0).any U) by simp]at g17
         repeat' with_reducible first
          |refine s_ ?_
          |simp -implicitDefEqProofs only[wZZ,seval,g4,g8,g16,g18,g17,g19]
          |apply qc<;>intro h h_<;>(try simp only[wD,reduceCtorEq]at h_)<;>(try exact wb_)<;>(try simp only[h])
         refine qf ?nx8 (fun(j:Nat) s=>s.f 4=?v8_4∧s.f 8=?v8_8∧s.f 16=?v8_16∧s.f 18=?v8_18∧s.f 19=?v8_19∧s.f 17=.bool (b0 || ((rel x).take j).any U)∧s.f 20=vi j∧(j≤(rel x).length)∧(O<s.next)∧(s.H O=some (.own 1 (ivs (ji n (fun k=>if k<i then Z k else N k))) false))∧(s.H 8=some (.own 1 es3 true))∧(GT s.H s.next (tbl n rel) es3)) (fun j=>(rel x).length - j) (0) wj_ (by refine⟨?_,?_,?_,?_,?_,?_,?_,wo_,wg_,(by(((try simp only[wM]);(repeat first|rw[if_pos trivial]|rw[if_pos rfl]|rw[if_neg o_]));exact qO)),(by(((try simp only[wM]);(repeat first|rw[if_pos trivial]|rw[if_pos rfl]|rw[if_neg o_]));exact k7_3)),(by(exact k7_4.mono wg_ (fun x h1 h2=>hh_)))⟩<;>first|(simp -implicitDefEqProofs only[wL,wM,wN,wX,seval,Option.some.injEq,g4,g8,g16,g18,g17,g19]<;>exact wt_)|rfl|exact⟨_,rfl⟩) ?_
         intro j s hnx ⟨g4,g8,g16,g18,g19,g17,g20,k8_0,k8_1,k8_2,k8_3,k8_4⟩
         have rO:=k8_2
         have r8:=k8_3
         have hzj:=w1_ j
         by_cases hj:j<(rel x).length
         · have hgj:(rel x)[j]?=some (rel x)[j]:=ge_ hj
           have hjt:(rel x).take (j+1)=(rel x).take j++[(rel x)[j]]:=by rw[List.take_add_one,hgj];rfl
           obtain ⟨m,hm,hmn⟩:=hrn x hxn _ (List.getElem_mem hj)
           have hjU:((rel x).take (j+1)).any U=(((rel x).take j).any U || decide ((x:Int)∈RS m)):=by rw[hjt,List.any_append,hm,hU];simp
           rw[hm]at hgj
           clear hjt
           generalize ((rel x).take j).any U=b1 at *
           have hre2:=hRc hmn
           have hhas:=Q7 (a:=RS m) (x:=(x:Int)) (by have:=(hRn m hmn).1;omega)
           have hS8:=frS k8_3
           have hE3: ∀HH:Nat→Option MObj,HH 8=s.H 8→Ers true (rsH (fun j=>j == 8) HH) [.msl 8 1 0 n,vi m] [.sl 1 false ((tbl n rel).map jl),vi m]:=fun HH h1=>zk (hE1 HH s.H s.next es3 true (h1.trans k8_3) k8_4) (zk qm xO)
           by_cases hb:(b0 || b1)=true
           · rw[hb]at g17
             repeat' with_reducible first
              |refine s_ ?_
              |simp -implicitDefEqProofs only[wZZ,seval,g4,g8,g16,g18,g19,g17,g20,hzj,r8,hvl]
              |apply qc<;>intro h h_<;>(try simp only[wD,reduceCtorEq]at h_)<;>(try exact wb_)<;>(try simp only[h])
              |refine t_ ?_
              |apply qF;omega;omega
              |(refine qak rfl rfl o_ hvk (Go.Proofs.Gr.fl3 hGk) ?_)
             refine⟨wg_,j+1,o_,?_⟩;(repeat refine⟨True.intro,?_⟩)
             exact⟨by rw[hjU,← Bool.or_assoc,hb];rfl,rfl,o_,wg_,rO,trivial,k8_4.mono wg_ (fun y h1 h2=>hh_)⟩
           · have hb':(b0 || b1)=false:=by simpa using hb
             rw[hb']at g17
             repeat' with_reducible first
              |refine s_ ?_
              |simp -implicitDefEqProofs only[wZZ,seval,g4,g8,g16,g18,g19,g17,g20,hzj,r8,hvl]
              |apply qc<;>intro h h_<;>(try simp only[wD,reduceCtorEq]at h_)<;>(try exact wb_)<;>(try simp only[h])
              |refine t_ ?_
              |apply qF;omega;omega
              |(refine qak rfl rfl o_ hvk (Go.Proofs.Gr.fl3 hGk) ?_)
              |apply Gr.iaQ hGk;omega;with_unfolding_all exact hgj
              |apply qt7 (hp:=hre2);with_unfolding_all exact hS8;with_unfolding_all exact hE3 _ rfl
              |apply zN (hp:=hhas);(focus first|exact Ji|exact qm);exact qm
             refine⟨wg_,j+1,o_,?_⟩;(repeat refine⟨True.intro,?_⟩)
             exact⟨by rw[hjU,← Bool.or_assoc,hb'];rfl,rfl,o_,wg_,rO,trivial,k8_4.mono wg_ (fun y h1 h2=>hh_)⟩
         · have er:(rel x).take j=rel x:=List.take_of_length_le o_
           rw[er,← hTx,← hkT]at g17
           repeat' with_reducible first
            |refine s_ ?_
            |simp -implicitDefEqProofs only[wZZ,seval,g4,g8,g16,g18,g19,g17,g20,hzk,r8,hvl]
            |apply qc<;>intro h h_<;>(try simp only[wD,reduceCtorEq]at h_)<;>(try exact wb_)<;>(try simp only[h])
            |refine t_ ?_
            |apply qF;omega;omega
            |(refine qak rfl rfl o_ hvk (Go.Proofs.Gr.fl3 hGk) ?_)
           refine⟨wg_,k+1,o_,?_⟩;(repeat refine⟨True.intro,?_⟩)
           exact⟨rfl,rfl,o_,wg_,rO,trivial,k8_4.mono wg_ (fun y h1 h2=>hh_)⟩
       · skip
         have ek:r.take k=r:=List.take_of_length_le o_
         rw[ek]at g17
         have hzN:=hNr i
         have hgN:=zh (l:=fun k=>if k<i then Z k else N k) hi
         rw[if_neg o_]at hgN
         have hin:Z i= -1→ji n (ZB (fun k=>if k<i then Z k else N k) i (-1))=ji n (fun k=>if k<i+1 then Z k else N k):=fun h=>yR fun k hk=>by
          by_cases e:k=i
          · subst e;rw[zJ,if_pos o_,h]
          · rw[jR e]
            by_cases e2:k<i
            · rw[if_pos e2,if_pos o_]
            · rw[if_neg e2,if_neg o_]
         have hno:Z i=N i→ji n (fun k=>if k<i then Z k else N k)=ji n (fun k=>if k<i+1 then Z k else N k):=fun h=>yR fun k hk=>by
          by_cases e:k=i
          · subst e;rw[if_neg o_,if_pos o_,h]
          · by_cases e2:k<i
            · rw[if_pos e2,if_pos o_]
            · rw[if_neg e2,if_neg o_]
         by_cases hb:r.any T=true
         · rw[if_pos (Or.inl hb)]at hfi
           have hi2:=hin hfi.symm
           rw[hb]at g17
           repeat' with_reducible first
            |refine s_ ?_
            |simp -implicitDefEqProofs only[wZZ,seval,g4,g8,g16,g18,g17,g19,hzi,qO]
            |apply qc<;>intro h h_<;>(try simp only[wD,reduceCtorEq]at h_)<;>(try exact wb_)<;>(try simp only[h])
            |apply qF;omega;omega
            |(refine stI i rfl o_ hi ?_)
            |simp -implicitDefEqProofs (disch:=omega) only[w64,if_neg]
           refine⟨wg_,i+1,o_,?_⟩;(repeat refine⟨True.intro,?_⟩)
           exact⟨rfl,o_,wg_,by rw[← hi2],es3,true,k7_3,k7_4.mono wg_ (fun y h1 ⟨fin,hf⟩=>by
            have:y≠O:=fun e=>by rw[e,qO]at hf;cases hf
            ((try simp only[wM]);(repeat first|rw[if_pos trivial]|rw[if_pos rfl]|rw[if_neg o_])))⟩
         · have hb':r.any T=false:=by simpa using hb
           rw[hb']at g17
           by_cases h3:3000<N i
           · rw[if_pos (Or.inr h3)]at hfi
             have hi2:=hin hfi.symm
             have hd3:decide (N i>3000)=true:=decide_eq_true h3
             repeat' with_reducible first
              |refine s_ ?_
              |simp -implicitDefEqProofs only[wZZ,seval,g4,g8,g16,g18,g17,g19,hzi,qO,hd3]
              |apply qc<;>intro h h_<;>(try simp only[wD,reduceCtorEq]at h_)<;>(try exact wb_)<;>(try simp only[h])
              |apply qF;omega;omega
              |(refine ldI i rfl o_ hgN ?_)
              |(refine stI i rfl o_ hi ?_)
              |simp -implicitDefEqProofs (disch:=omega) only[w64,if_neg]
             refine⟨wg_,i+1,o_,?_⟩;(repeat refine⟨True.intro,?_⟩)
             exact⟨rfl,o_,wg_,by rw[← hi2],es3,true,k7_3,k7_4.mono wg_ (fun y h1 ⟨fin,hf⟩=>by
              have:y≠O:=fun e=>by rw[e,qO]at hf;cases hf
              ((try simp only[wM]);(repeat first|rw[if_pos trivial]|rw[if_pos rfl]|rw[if_neg o_])))⟩
           · rw[if_neg (fun h=>h.elim hb h3)]at hfi
             have hi2:=hno hfi.symm
             have hd3:decide (N i>3000)=false:=decide_eq_false h3
             rw[hi2]at qO
             have hgN2:(ji n (fun k=>if k<i+1 then Z k else N k))[i]?=some (N i):=by rw[← hi2];exact hgN
             repeat' with_reducible first
              |refine s_ ?_
              |simp -implicitDefEqProofs only[wZZ,seval,g4,g8,g16,g18,g17,g19,hzi,qO,hd3]
              |apply qc<;>intro h h_<;>(try simp only[wD,reduceCtorEq]at h_)<;>(try exact wb_)<;>(try simp only[h])
              |apply qF;omega;omega
              |(refine ldI i rfl o_ hgN2 ?_)
             refine⟨wg_,i+1,o_,?_⟩;(repeat refine⟨True.intro,?_⟩)
             exact⟨rfl,o_,wg_,rfl,es3,true,k7_3,k7_4.mono wg_ (fun y h1 h2=>hh_)⟩
     · skip
       have ei:ji n (fun k=>if k<i then Z k else N k)=ji n Z:=yR fun k hk=>if_pos o_
       rw[ei]at qO
       repeat' with_reducible first
        |refine s_ ?_
        |simp -implicitDefEqProofs only[wZZ,seval,g4,g8,g16,qO]
        |apply qc<;>intro h h_<;>(try simp only[wD,reduceCtorEq]at h_)<;>(try exact wb_)<;>(try simp only[h])
       refine qA (t:=2) rfl (Or.inr rfl) ?_
       (simp -implicitDefEqProofs only[wL,seval])
       exact zV (ro:=false) (by((try simp only[wM]);(repeat first|rw[if_pos trivial]|rw[if_pos rfl]|rw[if_neg o_]));exact qO) (by simp[ivs,ji]) (by rw[List.drop_zero];exact List.take_of_length_le (by simp[ivs,ji]))

theorem qo0 (x:GrI) (y:Source) (i:Nat) (src:Source) (h:[qbB y,zK x][i]?=some src):src.Fits∧(Yx src=true→Small src):=by
 match i,h with
 |0,h=>cases h;exact⟨qe8 y,qcM y⟩
 |1,h=>cases h;exact⟨ZV x,fun _=>Vl x⟩
 |i+2,h=>cases h
theorem qqS (P:List GPr) (n:Nat) (has:Nat→Bool): ∃cy,vw P n has cy:=
 ⟨fun k=> @decide (∃j,Edge (relE P has) n k j∧Rch (relE P has) n j k) (Classical.propDecidable _),fun k _=>by rw[@decide_eq_true_eq _ (Classical.propDecidable _)]⟩
theorem Qu {y:Source} {x:GrI} (hy:y.Fits) (hb1:x.rules.length≤1099511627776) (hb2: ∀l∈x.rules,l.length≤1099511627776) (hib:x.inner.length≤1099511627776) (hlb:x.levels.length≤1099511627776):Pure Tryz.prog 4 [y.V,x.V] (.bool true):=by
 refine pure_intro Tryz.func4 qJv qGs (by show 2≤39;decide) ?_
 show ewp _ qoM _ _
 have hw:=Jr
 have hcut:=YW hy
 have hsrc:=Jg (x:=x) hb1 hb2 hib hlb
 have hsl:V.sl 4 true [(qbB y).V,(zK x).V]=.sl 4 true ([qbB y,zK x].map Source.V):=rfl
 repeat' with_reducible first
  |refine s_ ?_
  |simp -implicitDefEqProofs only[wZZ,seval]
  |refine cq0 hw ?_
  |refine cq1 hcut (J8 y) ?_
  |refine cq1 hsrc qm ?_
  |refine t_ ?_
 rw[hsl]
 have h2:=qo0 x y
 generalize hL:[qbB y,zK x]=L at *
 have hLl:L.length=2:=by rw[← hL];rfl
 clear hL hsl
 refine qf ?nx1 (fun(i:Nat) s=>s.f 5=?v1_5∧s.f 6=vi i∧(i≤L.length)) (fun i=>L.length - i) (0) wj_ (by refine⟨?_,?_,wo_⟩<;>first|(simp -implicitDefEqProofs only[wL,wM,wN,wX,seval,Option.some.injEq]<;>exact wt_)|rfl|exact⟨_,rfl⟩) ?_
 intro i s hnx ⟨g5,g6,k1_0⟩
 have hz:=w1_ i
 by_cases hi:i<L.length
 · have hgi:L[i]?=some L[i]:=ge_ hi
   obtain ⟨hf,hS⟩:=h2 i _ hgi
   have hgr:=yh hf hS
   generalize L[i]=src at *
   have hge:Er false (fun _=>none) src.V src.V:=J8 src
   cases hb:K4 src with
   | false=>
     rw[hb]at hgr
     repeat' with_reducible first
      |refine s_ ?_
      |simp -implicitDefEqProofs only[wZZ,seval,g5,g6,hz]
      |apply qc<;>intro h h_<;>(try simp only[wD,reduceCtorEq]at h_)<;>(try exact wb_)<;>(try simp only[h])
      |refine t_ ?_
      |refine cq1 hgr (J8 src) ?_
     exact⟨wg_,i+1,o_,trivial,rfl,o_⟩
   | true=>
     rw[hb]at hgr
     have hg:=gok hb
     obtain ⟨E,hE,hvg⟩:=Zi (token:=false) hg
     obtain ⟨E',hE',hng⟩:=XY hg
     obtain rfl:=hE'.uniq hE
     obtain ⟨cy,hcy⟩:=qqS (kE src).prods (kE src).nons.length E'
     have a1:=Yy hg hvg hcy
     have a2:=JM hg hE hcy hng
     have hnl:=hg.nn2
     have l1:=yg (kE src).nons.length (szE (kE src).prods (kE src).nons.length E' cy)
     generalize ji (kE src).nons.length (szE (kE src).prods (kE src).nons.length E' cy)=A at *
     have e1:=jo (a:=A) (b:=A) o_ o_
     rw[decide_eq_true rfl]at e1
     generalize kE src=g at *
     repeat' with_reducible first
      |refine s_ ?_
      |simp -implicitDefEqProofs only[wZZ,seval,g5,g6,hz]
      |apply qc<;>intro h h_<;>(try simp only[wD,reduceCtorEq]at h_)<;>(try exact wb_)<;>(try simp only[h])
      |refine t_ ?_
      |refine cq1 hgr (J8 src) ?_
      |refine cq1 a1 qm ?_
      |refine cq1 a2 qm ?_
      |refine cq2 e1 qm qm ?_
     exact⟨wg_,i+1,o_,trivial,rfl,o_⟩
 · have e:i=L.length:=o_
   repeat' with_reducible first
    |refine s_ ?_
    |simp -implicitDefEqProofs only[wZZ,seval,g5,g6,hz]
    |apply qc<;>intro h h_<;>(try simp only[wD,reduceCtorEq]at h_)<;>(try exact wb_)<;>(try simp only[h])
   all_goals refine qA rfl (Or.inr rfl) ?_
   all_goals(try simp -implicitDefEqProofs only[wL,seval,g5,g6])
   all_goals refine er_ ?_
   all_goals(try(with_reducible rfl))
end Go.Proofs
