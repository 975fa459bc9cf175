/- Part of a proof that a law of the given program answers true. -/
import Derived.Test.YtjdjdbkoplmjeaaDoorVVDC
import Derived.Test.YtjdjdbkoplmjeaaDoorVCAC
set_option maxRecDepth 20000
set_option linter.unusedSimpArgs false
set_option linter.unusedVariables false
set_option maxHeartbeats 8000000
namespace Go.Proofs
open Go.E
theorem YW {g:Grammar} {E:Nat→Bool} (hg:GOk g) (hp:Pure Tryd.prog 23 [g.V,.bool true] (.sl 1 false (kz g.nons.length E))):Pure Tryd.prog 10 [g.V] (.sl 1 false ((kT g.nons.length E false).map (V.int .i64))):=by
 refine pure_intro Tryd.func10 nm_ qn1 (by show 1≤6;decide) ?_
 show ewp _ quI _ _
 have hnl:=hg.nn2
 have hwh:=XD (n:=g.nons.length) (h:=E) (so:=false) o_
 have h1:=Xy g.nons.length E
 repeat' with_reducible first
  |refine s_ ?_
  |simp -implicitDefEqProofs only[wS,wT,wU,wV,wW,wX,wY,wC,wF,wG,wL,wM,wN,seval,Int.cast_ofNat_Int,Int.reduceLT,Int.reduceLE,Int.reduceEq,Int.reduceToNat,decide_true,decide_false,Bool.false_eq_true]
  |refine cq2 hp qI qI ?_
  |refine cq2 hwh qI qI ?_
  |refine t_ ?_
  |apply qf;exact wu_;exact wu_;(focus((try simp -implicitDefEqProofs only[wE,Nat.reduceAdd]);rfl))
  |apply qg;exact wd_;exact wu_
  |apply qh;exact wu_
  |simp -implicitDefEqProofs (disch:=omega) only[w64,if_neg]
 all_goals refine qP rfl (Or.inr rfl) ?_
 all_goals(try simp -implicitDefEqProofs only[wL,seval])
 all_goals refine er_ ?_
 all_goals(try(with_reducible rfl))
def nmC (n:Nat):List UInt8:=110::qdx n
def Y0 (x:Nat):Part:={sym:={name:=nmC x}}
def qfS (a:List Nat):Alt:={parts:=a.map Y0}
def qbZ (l:List (List (List Nat))) (i:Nat):Rule:={left:=nmC i,alts:=(l.getD i []).map qfS}
def qen (l:List (List (List Nat))) (m:Nat):List Rule:=(List.range m).map (qbZ l)
def QB (l:List (List (List Nat))):Source:={rules:=qen l l.length}
theorem qcl (l:List (List (List Nat))) (m:Nat):qen l (m+1)=qen l m++[qbZ l m]:=by simp[qen,List.range_succ]
theorem YB (l:List (List (List Nat))) (m:Nat):(qen l m).length=m:=by simp[qen]
abbrev nV (a:List Nat):V:= .sl 1 false (a.map fun x:Nat=>V.int .i64 (x:Int))
abbrev nnV (a:List (List Nat)):V:= .sl 1 false (a.map nV)
theorem qoc {n:Nat} {K:V→Prop} (hk:K (.str (nmC n))):onS (xw .add (.str [110]) (.str (qdx n))) K:=by
 refine qy ?_ hk
 have:=XU n
 simp;omega
theorem qF {l:List (List (List Nat))} (hl:l.length≤100) (hl2: ∀a∈l,a.length≤100) (hl3: ∀a∈l,∀b∈a,b.length≤100) (hx: ∀a∈l,∀b∈a,∀x∈b,x≤1000000) (hG:Pure Tryd.prog 7 [(QB l).V] (.tup [(Qv (QB l)).V,.bool (Z9 (QB l))])):Pure Tryd.prog 14 [.sl 1 false (l.map nnV)] (.tup [(Qv (QB l)).V,.bool (Z9 (QB l))]):=by
 refine pure_intro Tryd.func14 nm_ ql0 (by show 1≤76;decide) ?_
 show ewp _ qfE _ _
 repeat' with_reducible first
  |refine s_ ?_
  |refine s_ ?_
  |simp -implicitDefEqProofs only[wS,wT,wU,wV,wW,wX,wY,wC,wF,wG,wL,wM,wN,seval,Int.cast_ofNat_Int,Int.reduceLT,Int.reduceLE,Int.reduceEq,Int.reduceToNat,decide_true,decide_false,Bool.false_eq_true]
  |(refine qc (fun h h_=>?_) (fun h h_=>?_)<;>(try simp only[wD,reduceCtorEq]at h_)<;>(try(exfalso;first|omega|exact absurd (Eq.trans (Eq.symm h_) (by assumption):false=true) (by decide)|exact absurd (Eq.trans (Eq.symm h_) (by assumption):true=false) (by decide)|(refine absurd ?_ h_;focus assumption)|(refine absurd h_ ?_;focus assumption)))<;>(try simp only[h]))
  |refine t_ ?_
  |apply qj;omega;exact wd_
  |apply qJ;(focus(first|exact qd.sl|exact qd.asl|exact qd.str));exact wf_;(focus(unfold maxLen;first|omega|(simp only[wZ]<;>omega)))
  |(refine qD ?_;simp -implicitDefEqProofs only[wM,wN,seval];apply qM;(focus(first|exact qd.sl|exact qd.asl|exact qd.str));(exact wf_);(focus(unfold maxLen;first|omega|(simp only[wZ]<;>omega))))
  |apply qy;(focus(first|omega|(simp only[wZ]<;>omega)))
  |apply qf;exact wu_;exact wu_;(focus((try simp -implicitDefEqProofs only[wE,Nat.reduceAdd]);rfl))
  |apply qg;exact wd_;exact wu_
  |apply qh;exact wu_
  |apply qm;exact wf_;exact wu_;exact wu_;(focus(intro _;with_unfolding_all rfl))
  |apply qp;exact wu_;exact wu_;exact wu_
  |simp -implicitDefEqProofs (disch:=omega) only[w64,if_neg]
 refine qw ?nx1 (fun(i:Nat) s=>s.f 0=?v1_0∧s.f 2=?v1_2∧s.f 4=?v1_4∧s.H 0=some (MObj.own 5 [qeb] false)∧s.f 5=vi i∧(i≤l.length)∧(4≤s.next)∧((∃v es,s.H 2=some (MObj.own 4 [.agg [.str [],.sl 4 true [],v,.str []]] false)∧Gr s.H s.next 3 es v∧QR es ((qen l i).map Rule.V)))) (fun i=>l.length - i) (0) wj_ (by refine⟨?_,?_,?_,?_,?_,wo_,wg_,(by exact⟨.sl 3 true [],[],hh_,Gr.nil,.nil⟩)⟩<;>first|(simp -implicitDefEqProofs only[wL,wM,wN,wX,seval,Option.some.injEq]<;>exact wt_)|rfl|exact⟨_,rfl⟩) ?_
 intro i s hnx ⟨g0,g2,g4,o0,g5,k1_0,k1_1,k1_2⟩
 obtain ⟨v,es,o2,G1,E1⟩:=k1_2
 have hz:=w1_ i
 have hel:es.length=i:=by have:=E1.len;rw[List.length_map,YB]at this;omega
 by_cases hi:i<l.length
 · obtain ⟨al,hal⟩: ∃al,l[i]?=some al:=⟨_,ge_ hi⟩
   have halm:=List.mem_of_getElem? hal
   have hsu:=qcl l i
   have hru:qbZ l i={left:=nmC i,alts:=al.map qfS}:=by unfold qbZ;rw[List.getD_eq_getElem?_getD,hal];rfl
   rw[hru]at hsu
   have hd1:=xG (n:=i) o_
   have hall:=hl2 al halm
   repeat' with_reducible first
    |refine s_ ?_
    |refine s_ ?_
    |simp -implicitDefEqProofs only[wS,wT,wU,wV,wW,wX,wY,wC,wF,wG,wL,wM,wN,seval,Int.cast_ofNat_Int,Int.reduceLT,Int.reduceLE,Int.reduceEq,Int.reduceToNat,decide_true,decide_false,Bool.false_eq_true,g0,g2,g4,g5,o0,o2]
    |(refine qc (fun h h_=>?_) (fun h h_=>?_)<;>(try simp only[wD,reduceCtorEq]at h_)<;>(try(exfalso;first|omega|exact absurd (Eq.trans (Eq.symm h_) (by assumption):false=true) (by decide)|exact absurd (Eq.trans (Eq.symm h_) (by assumption):true=false) (by decide)|(refine absurd ?_ h_;focus assumption)|(refine absurd h_ ?_;focus assumption)))<;>(try simp only[h]))
    |refine cq1 hd1 qI ?_
    |(refine qoc ?_)
    |refine t_ ?_
    |apply qj;omega;exact wd_
    |apply qJ;(focus(first|exact qd.sl|exact qd.asl|exact qd.str));exact wf_;(focus(unfold maxLen;first|omega|(simp only[wZ]<;>omega)))
    |(refine qD ?_;simp -implicitDefEqProofs only[wM,wN,seval,g0,g2,g4,g5,o0,o2];apply qM;(focus(first|exact qd.sl|exact qd.asl|exact qd.str));(exact wf_);(focus(unfold maxLen;first|omega|(simp only[wZ]<;>omega))))
    |apply qy;(focus(first|omega|(simp only[wZ]<;>omega)))
    |apply qf;exact wu_;exact wu_;(focus((try simp -implicitDefEqProofs only[wE,Nat.reduceAdd]);rfl))
    |apply qg;exact wd_;exact wu_
    |apply qh;exact wu_
    |apply qm;exact wf_;exact wu_;exact wu_;(focus(intro _;with_unfolding_all rfl))
    |apply qp;exact wu_;exact wu_;exact wu_
    |simp -implicitDefEqProofs (disch:=omega) only[w64,if_neg]
   obtain ⟨R,hR⟩: ∃R,R=s.next+4+4:=⟨_,rfl⟩
   rw[← hR]
   have hvR: ∀j,gid v=some j→j<R:=fun j e=>by have:=G1.lt e;omega
   generalize hnm:nmC i=nm at *
   refine qw ?nx2 (fun(k:Nat) s=>s.f 0=?v2_0∧s.f 2=?v2_2∧s.f 4=?v2_4∧s.f 5=?v2_5∧s.f 6=?v2_6∧s.f 7=vi k∧(k≤al.length)∧(R<s.next)∧(s.H 0=some (MObj.own 5 [qeb] false))∧(s.H 2=some (MObj.own 4 [.agg [.str [],.sl 4 true [],v,.str []]] false))∧(Gr s.H s.next 3 es v)∧((∃v2 es2,s.H R=some (.own 3 [.agg [.str nm,v2,vi 0]] false)∧Gr s.H s.next 6 es2 v2∧(∀j,gid v2=some j→R<j)∧QR es2 (((al.take k).map qfS).map Alt.V)))) (fun k=>al.length - k) (0) wj_ (by refine⟨?_,?_,?_,?_,?_,?_,wo_,wg_,(by(((try simp only[wM]);(repeat first|rw[if_pos trivial]|rw[if_pos rfl]|rw[if_neg o_]));exact o0)),(by(((try simp only[wM]);(repeat first|rw[if_pos trivial]|rw[if_pos rfl]|rw[if_neg o_]));exact o2)),(by(exact G1.mono wg_ (fun j h1 h2=>hh_))),(by(exact⟨.sl 6 true [],[],hh_,Gr.nil,fun j h=>(by cases h),.nil⟩))⟩<;>first|(simp -implicitDefEqProofs only[wL,wM,wN,wX,seval,Option.some.injEq,g0,g2,g4,g5,o0]<;>exact wt_)|rfl|exact⟨_,rfl⟩) ?_
   intro k s hnx ⟨g0,g2,g4,g5,g6,g7,k2_0,k2_1,k2_2,k2_3,k2_4,k2_5⟩
   obtain ⟨v2,es2,oR,G2,hv2,E2⟩:=k2_5
   have hzk:=w1_ k
   have hel2:es2.length=k:=by have:=E2.len;rw[List.length_map,List.length_map,List.length_take]at this;omega
   by_cases hk:k<al.length
   · obtain ⟨b,hb⟩: ∃b,al[k]?=some b:=⟨_,ge_ hk⟩
     have hbm:=List.mem_of_getElem? hb
     have hbl:=hl3 al halm b hbm
     have hbt:al.take (k+1)=al.take k++[b]:=by rw[List.take_add_one,hb];rfl
     repeat' with_reducible first
      |refine s_ ?_
      |refine s_ ?_
      |simp -implicitDefEqProofs only[wS,wT,wU,wV,wW,wX,wY,wC,wF,wG,wL,wM,wN,seval,Int.cast_ofNat_Int,Int.reduceLT,Int.reduceLE,Int.reduceEq,Int.reduceToNat,decide_true,decide_false,Bool.false_eq_true,g0,g2,g4,g5,g6,g7]
      |(refine qc (fun h h_=>?_) (fun h h_=>?_)<;>(try simp only[wD,reduceCtorEq]at h_)<;>(try(exfalso;first|omega|exact absurd (Eq.trans (Eq.symm h_) (by assumption):false=true) (by decide)|exact absurd (Eq.trans (Eq.symm h_) (by assumption):true=false) (by decide)|(refine absurd ?_ h_;focus assumption)|(refine absurd h_ ?_;focus assumption)))<;>(try simp only[h]))
      |refine t_ ?_
      |apply qj;omega;exact wd_
      |apply qJ;(focus(first|exact qd.sl|exact qd.asl|exact qd.str));exact wf_;(focus(unfold maxLen;first|omega|(simp only[wZ]<;>omega)))
      |(refine qD ?_;simp -implicitDefEqProofs only[wM,wN,seval,g0,g2,g4,g5,g6,g7];apply qM;(focus(first|exact qd.sl|exact qd.asl|exact qd.str));(exact wf_);(focus(unfold maxLen;first|omega|(simp only[wZ]<;>omega))))
      |apply qy;(focus(first|omega|(simp only[wZ]<;>omega)))
      |apply qf;exact wu_;exact wu_;(focus((try simp -implicitDefEqProofs only[wE,Nat.reduceAdd]);rfl))
      |apply qg;exact wd_;exact wu_
      |apply qh;exact wu_
      |apply qm;exact wf_;exact wu_;exact wu_;(focus(intro _;with_unfolding_all rfl))
      |apply qp;exact wu_;exact wu_;exact wu_
      |simp -implicitDefEqProofs (disch:=omega) only[w64,if_neg]
     obtain ⟨A,hA⟩: ∃A,A=s.next+7:=⟨_,rfl⟩
     rw[← hA]
     refine qw ?nx3 (fun(j:Nat) s=>s.f 0=?v3_0∧s.f 2=?v3_2∧s.f 4=?v3_4∧s.f 5=?v3_5∧s.f 6=?v3_6∧s.f 7=?v3_7∧s.f 8=?v3_8∧s.f 9=vi j∧(j≤b.length)∧(A<s.next)∧(s.H 0=some (MObj.own 5 [qeb] false))∧(s.H 2=some (MObj.own 4 [.agg [.str [],.sl 4 true [],v,.str []]] false))∧(Gr s.H s.next 3 es v)∧(s.H R=some (.own 3 [.agg [.str nm,v2,vi 0]] false))∧(Gr s.H s.next 6 es2 v2)∧((∃v3 es3,s.H A=some (.own 6 [.agg [v3,.str [],.bool false,vi 0,vi 0,vi 0]] false)∧Gr s.H s.next 6 es3 v3∧(∀j,gid v3=some j→A<j)∧QR es3 (((b.take j).map Y0).map Part.V)))) (fun j=>b.length - j) (0) wj_ (by refine⟨?_,?_,?_,?_,?_,?_,?_,?_,wo_,wg_,(by(((try simp only[wM]);(repeat first|rw[if_pos trivial]|rw[if_pos rfl]|rw[if_neg o_]));exact k2_2)),(by(((try simp only[wM]);(repeat first|rw[if_pos trivial]|rw[if_pos rfl]|rw[if_neg o_]));exact k2_3)),(by(exact k2_4.mono wg_ (fun j h1 h2=>hh_))),(by(((try simp only[wM]);(repeat first|rw[if_pos trivial]|rw[if_pos rfl]|rw[if_neg o_]));exact oR)),(by(exact G2.mono wg_ (fun j h1 h2=>hh_))),(by(exact⟨.sl 6 true [],[],hh_,Gr.nil,fun j h=>(by cases h),.nil⟩))⟩<;>first|(simp -implicitDefEqProofs only[wL,wM,wN,wX,seval,Option.some.injEq,g0,g2,g4,g5,g6,g7]<;>exact wt_)|rfl|exact⟨_,rfl⟩) ?_
     intro j s hnx ⟨g0,g2,g4,g5,g6,g7,g8,g9,k3_0,k3_1,k3_2,k3_3,k3_4,k3_5,k3_6,k3_7⟩
     obtain ⟨v3,es3,oA,G3,hv3,E3⟩:=k3_7
     have hzj:=w1_ j
     have hel3:es3.length=j:=by have:=E3.len;rw[List.length_map,List.length_map,List.length_take]at this;omega
     have hv2A: ∀j,gid v2=some j→j<A:=fun j e=>by have:=G2.lt e;omega
     by_cases hj:j<b.length
     · obtain ⟨x,hx'⟩: ∃x,b[j]?=some x:=⟨_,ge_ hj⟩
       have hxb:=hx al halm b hbm x (List.mem_of_getElem? hx')
       have hxt:b.take (j+1)=b.take j++[x]:=by rw[List.take_add_one,hx'];rfl
       have hgx:(b.map fun x:Nat=>V.int .i64 (x:Int))[j]?=some (V.int .i64 (x:Int)):=by rw[List.getElem?_map,hx'];rfl
       have hd2:=xG (n:=x) o_
       have n3A:gid v3≠some A:=fun e=>by have:=hv3 _ e;omega
       have n3R:gid v3≠some R:=fun e=>by have:=hv3 _ e;omega
       have n3: ∀c,c<A→gid v3≠some c:=fun c hc e=>by have:=hv3 _ e;omega
       have e3: ∀c,gid v3=some c→A<c:=hv3
       repeat' with_reducible first
        |refine s_ ?_
        |refine s_ ?_
        |simp -implicitDefEqProofs only[wS,wT,wU,wV,wW,wX,wY,wC,wF,wG,wL,wM,wN,seval,Int.cast_ofNat_Int,Int.reduceLT,Int.reduceLE,Int.reduceEq,Int.reduceToNat,decide_true,decide_false,Bool.false_eq_true,g0,g2,g4,g5,g6,g7,g8,g9,hzj,oA,qx n3A]
        |(refine qc (fun h h_=>?_) (fun h h_=>?_)<;>(try simp only[wD,reduceCtorEq]at h_)<;>(try(exfalso;first|omega|exact absurd (Eq.trans (Eq.symm h_) (by assumption):false=true) (by decide)|exact absurd (Eq.trans (Eq.symm h_) (by assumption):true=false) (by decide)|(refine absurd ?_ h_;focus assumption)|(refine absurd h_ ?_;focus assumption)))<;>(try simp only[h]))
        |refine t_ ?_
        |refine cq1 hd2 qI ?_
        |(refine qoc ?_)
        |apply zy rfl (G3.mono (Nat.le_refl _) (fun id h1 h2=>by(try simp only[wM]);(repeat rw[if_neg o_])));(focus(first|exact qd.sl|exact qd.asl));(focus(simp only[wZ,hel3];omega));(focus(unfold maxLen;simp only[wZ,hel3];omega))
        |apply qj;omega;exact wd_
        |apply qJ;(focus(first|exact qd.sl|exact qd.asl|exact qd.str));exact wf_;(focus(unfold maxLen;first|omega|(simp only[wZ]<;>omega)))
        |(refine qD ?_;simp -implicitDefEqProofs only[wM,wN,seval,g0,g2,g4,g5,g6,g7,g8,g9,hzj,oA,qx n3A];apply qM;(focus(first|exact qd.sl|exact qd.asl|exact qd.str));(exact wf_);(focus(unfold maxLen;first|omega|(simp only[wZ]<;>omega))))
        |apply qy;(focus(first|omega|(simp only[wZ]<;>omega)))
        |apply qf;exact wu_;exact wu_;(focus((try simp -implicitDefEqProofs only[wE,Nat.reduceAdd]);rfl))
        |apply qg;exact wd_;exact wu_
        |apply qh;exact wu_
        |apply qm;exact wf_;exact wu_;exact wu_;(focus(intro _;with_unfolding_all rfl))
        |apply qp;exact wu_;exact wu_;exact wu_
        |simp -implicitDefEqProofs (disch:=omega) only[w64,if_neg]
       refine⟨wg_,j+1,o_,?_⟩;(repeat refine⟨True.intro,?_⟩)
       refine⟨rfl,o_,wg_,by((try simp only[wM]);(repeat first|rw[if_pos trivial]|rw[if_pos rfl]|rw[if_neg o_]));exact(qx (n3 0 o_)).trans k3_2,by((try simp only[wM]);(repeat first|rw[if_pos trivial]|rw[if_pos rfl]|rw[if_neg o_]));exact(qx (n3 2 o_)).trans k3_3,k3_4.mono wg_ (fun c h1 h2=>by have:=hvR c h1;((try simp only[wM]);(repeat first|rw[if_pos trivial]|rw[if_pos rfl]|rw[if_neg o_]));exact qx (n3 c o_)),by((try simp only[wM]);(repeat first|rw[if_pos trivial]|rw[if_pos rfl]|rw[if_neg o_]));exact(qx n3R).trans k3_5,k3_6.mono wg_ (fun c h1 h2=>by have:=hv2A c h1;((try simp only[wM]);(repeat first|rw[if_pos trivial]|rw[if_pos rfl]|rw[if_neg o_]));exact qx (n3 c o_)),_,_,by((try simp only[wM]);(repeat first|rw[if_pos trivial]|rw[if_pos rfl]|rw[if_neg o_]));rfl,Gr.tok hh_ wg_,fun c h=>by cases h;omega,?_⟩
       rw[hxt,List.map_append,List.map_append];exact E3.snoc qI
     · have ej:b.take j=b:=List.take_of_length_le o_
       rw[ej]at E3
       have n2R:gid v2≠some R:=fun e=>by have:=hv2 _ e;omega
       have n2: ∀c,c<R→gid v2≠some c:=fun c hc e=>by have:=hv2 _ e;omega
       have oR3:=k3_5
       have G23:=k3_6
       repeat' with_reducible first
        |refine s_ ?_
        |refine s_ ?_
        |simp -implicitDefEqProofs only[wS,wT,wU,wV,wW,wX,wY,wC,wF,wG,wL,wM,wN,seval,Int.cast_ofNat_Int,Int.reduceLT,Int.reduceLE,Int.reduceEq,Int.reduceToNat,decide_true,decide_false,Bool.false_eq_true,g0,g2,g4,g5,g6,g7,g8,g9,hzk,oA,oR3,qx n2R]
        |(refine qc (fun h h_=>?_) (fun h h_=>?_)<;>(try simp only[wD,reduceCtorEq]at h_)<;>(try(exfalso;first|omega|exact absurd (Eq.trans (Eq.symm h_) (by assumption):false=true) (by decide)|exact absurd (Eq.trans (Eq.symm h_) (by assumption):true=false) (by decide)|(refine absurd ?_ h_;focus assumption)|(refine absurd h_ ?_;focus assumption)))<;>(try simp only[h]))
        |refine t_ ?_
        |apply zy rfl (G23.mono (Nat.le_refl _) (fun id h1 h2=>by(try simp only[wM]);(repeat rw[if_neg o_])));(focus(first|exact qd.sl|exact qd.asl));(focus(simp only[wZ,hel2];omega));(focus(unfold maxLen;simp only[wZ,hel2];omega))
        |apply qj;omega;exact wd_
        |apply qJ;(focus(first|exact qd.sl|exact qd.asl|exact qd.str));exact wf_;(focus(unfold maxLen;first|omega|(simp only[wZ]<;>omega)))
        |(refine qD ?_;simp -implicitDefEqProofs only[wM,wN,seval,g0,g2,g4,g5,g6,g7,g8,g9,hzk,oA,oR3,qx n2R];apply qM;(focus(first|exact qd.sl|exact qd.asl|exact qd.str));(exact wf_);(focus(unfold maxLen;first|omega|(simp only[wZ]<;>omega))))
        |apply qy;(focus(first|omega|(simp only[wZ]<;>omega)))
        |apply qf;exact wu_;exact wu_;(focus((try simp -implicitDefEqProofs only[wE,Nat.reduceAdd]);rfl))
        |apply qg;exact wd_;exact wu_
        |apply qh;exact wu_
        |apply qm;exact wf_;exact wu_;exact wu_;(focus(intro _;with_unfolding_all rfl))
        |apply qp;exact wu_;exact wu_;exact wu_
        |simp -implicitDefEqProofs (disch:=omega) only[w64,if_neg]
       refine⟨wg_,k+1,o_,?_⟩;(repeat refine⟨True.intro,?_⟩)
       refine⟨rfl,o_,wg_,by((try simp only[wM]);(repeat first|rw[if_pos trivial]|rw[if_pos rfl]|rw[if_neg o_]));exact(qx (n2 0 o_)).trans k3_2,by((try simp only[wM]);(repeat first|rw[if_pos trivial]|rw[if_pos rfl]|rw[if_neg o_]));exact(qx (n2 2 o_)).trans k3_3,k3_4.mono wg_ (fun c h1 h2=>by have:=hvR c h1;((try simp only[wM]);(repeat first|rw[if_pos trivial]|rw[if_pos rfl]|rw[if_neg o_]));exact qx (n2 c o_)),_,_,by((try simp only[wM]);(repeat first|rw[if_pos trivial]|rw[if_pos rfl]|rw[if_neg o_]));rfl,Gr.tok hh_ wg_,fun c h=>by cases h;omega,?_⟩
       rw[hbt,List.map_append,List.map_append]
       exact E2.snoc (ErL.agg (.cons (Go.E.Gr.erL G3 E3) (.cons (.str _) (.cons (.bool _) (.cons (.int _ _) (.cons (.int _ _) (.cons (.int _ _) .nil)))))))
   · skip
     have ek:al.take k=al:=List.take_of_length_le o_
     rw[ek]at E2
     have nv2:gid v≠some 2:=fun e=>by obtain ⟨fin,hf⟩:=Go.Proofs.Gr.tokAt k2_4 e;rw[k2_3]at hf;cases hf
     have nv0:gid v≠some 0:=fun e=>by obtain ⟨fin,hf⟩:=Go.Proofs.Gr.tokAt k2_4 e;rw[k2_2]at hf;cases hf
     have o23:=k2_3
     have G13:=k2_4
     repeat' with_reducible first
      |refine s_ ?_
      |refine s_ ?_
      |simp -implicitDefEqProofs only[wS,wT,wU,wV,wW,wX,wY,wC,wF,wG,wL,wM,wN,seval,Int.cast_ofNat_Int,Int.reduceLT,Int.reduceLE,Int.reduceEq,Int.reduceToNat,decide_true,decide_false,Bool.false_eq_true,g0,g2,g4,g5,g6,g7,hz,oR,o23,qx nv2]
      |(refine qc (fun h h_=>?_) (fun h h_=>?_)<;>(try simp only[wD,reduceCtorEq]at h_)<;>(try(exfalso;first|omega|exact absurd (Eq.trans (Eq.symm h_) (by assumption):false=true) (by decide)|exact absurd (Eq.trans (Eq.symm h_) (by assumption):true=false) (by decide)|(refine absurd ?_ h_;focus assumption)|(refine absurd h_ ?_;focus assumption)))<;>(try simp only[h]))
      |refine t_ ?_
      |apply zy rfl (G13.mono (Nat.le_refl _) (fun id h1 h2=>by(try simp only[wM]);(repeat rw[if_neg o_])));(focus(first|exact qd.sl|exact qd.asl));(focus(simp only[wZ,hel];omega));(focus(unfold maxLen;simp only[wZ,hel];omega))
      |apply qj;omega;exact wd_
      |apply qJ;(focus(first|exact qd.sl|exact qd.asl|exact qd.str));exact wf_;(focus(unfold maxLen;first|omega|(simp only[wZ]<;>omega)))
      |(refine qD ?_;simp -implicitDefEqProofs only[wM,wN,seval,g0,g2,g4,g5,g6,g7,hz,oR,o23,qx nv2];apply qM;(focus(first|exact qd.sl|exact qd.asl|exact qd.str));(exact wf_);(focus(unfold maxLen;first|omega|(simp only[wZ]<;>omega))))
      |apply qy;(focus(first|omega|(simp only[wZ]<;>omega)))
      |apply qf;exact wu_;exact wu_;(focus((try simp -implicitDefEqProofs only[wE,Nat.reduceAdd]);rfl))
      |apply qg;exact wd_;exact wu_
      |apply qh;exact wu_
      |apply qm;exact wf_;exact wu_;exact wu_;(focus(intro _;with_unfolding_all rfl))
      |apply qp;exact wu_;exact wu_;exact wu_
      |simp -implicitDefEqProofs (disch:=omega) only[w64,if_neg]
     refine⟨wg_,i+1,o_,?_⟩;(repeat refine⟨True.intro,?_⟩)
     exact⟨(qx nv0).trans k2_2,rfl,o_,wg_,_,_,rfl,Gr.tok hh_ wg_,by rw[hsu,List.map_append];exact E1.snoc (ErL.agg (.cons (.str _) (.cons (Go.E.Gr.erL G2 E2) (.cons (.int _ _) .nil))))⟩
 · skip
   have ei:i=l.length:=o_
   rw[ei]at E1
   repeat' with_reducible first
    |refine s_ ?_
    |refine s_ ?_
    |simp -implicitDefEqProofs only[wS,wT,wU,wV,wW,wX,wY,wC,wF,wG,wL,wM,wN,seval,Int.cast_ofNat_Int,Int.reduceLT,Int.reduceLE,Int.reduceEq,Int.reduceToNat,decide_true,decide_false,Bool.false_eq_true,g0,g2,g4,g5,o0,o2]
    |(refine qc (fun h h_=>?_) (fun h h_=>?_)<;>(try simp only[wD,reduceCtorEq]at h_)<;>(try(exfalso;first|omega|exact absurd (Eq.trans (Eq.symm h_) (by assumption):false=true) (by decide)|exact absurd (Eq.trans (Eq.symm h_) (by assumption):true=false) (by decide)|(refine absurd ?_ h_;focus assumption)|(refine absurd h_ ?_;focus assumption)))<;>(try simp only[h]))
    |refine cq1 hG (ErL.agg (.cons (.str _) (.cons (ErL.sl .nil) (.cons (Go.E.Gr.erL G1 E1.up) (.cons (.str _) .nil))))) ?_
    |refine t_ ?_
    |apply qj;omega;exact wd_
    |apply qJ;(focus(first|exact qd.sl|exact qd.asl|exact qd.str));exact wf_;(focus(unfold maxLen;first|omega|(simp only[wZ]<;>omega)))
    |(refine qD ?_;simp -implicitDefEqProofs only[wM,wN,seval,g0,g2,g4,g5,o0,o2];apply qM;(focus(first|exact qd.sl|exact qd.asl|exact qd.str));(exact wf_);(focus(unfold maxLen;first|omega|(simp only[wZ]<;>omega))))
    |apply qy;(focus(first|omega|(simp only[wZ]<;>omega)))
    |apply qf;exact wu_;exact wu_;(focus((try simp -implicitDefEqProofs only[wE,Nat.reduceAdd]);rfl))
    |apply qg;exact wd_;exact wu_
    |apply qh;exact wu_
    |apply qm;exact wf_;exact wu_;exact wu_;(focus(intro _;with_unfolding_all rfl))
    |apply qp;exact wu_;exact wu_;exact wu_
    |simp -implicitDefEqProofs (disch:=omega) only[w64,if_neg]
   refine qfx (id:=0) rfl (Or.inr rfl) (by(simp -implicitDefEqProofs only[wL,seval,g2])) hh_ rfl ?_
   (simp -implicitDefEqProofs only[wL,seval])
   exact ErL.tup (.cons qI (.cons (.bool _) .nil))

set_option maxHeartbeats 4000000
def qwQ (P:List GPr) (tok:Bool):Nat→Nat
 |0=>0
 |m+1=>P.foldr (fun p s=>if jl tok (fun j=>s.testBit j) p.right then s ||| 2 ^ p.left.toNat else s) (qwQ P tok m)
def qaF (P:List GPr) (tok:Bool):Nat→Bool:=fun k=>(qwQ P tok 2).testBit k
def qb4 (P:List GPr) (tok:Bool) (E:Nat→Bool):Bool:=P.all fun p=> !jl tok E p.right || E p.left.toNat
theorem XI {g:Grammar} {tok:Bool} {F:Nat→Bool} (hF:Qz g tok F): ∀m k,(qwQ g.prods tok m).testBit k=true→F k=true
 |0,k,h=>by simp[qwQ]at h
 | m + 1, k,h=>by
   have key: ∀(Q:List GPr),(∀p∈Q,p∈g.prods)→ ∀k,(Q.foldr (fun p s=>if jl tok (fun j=>s.testBit j) p.right then s ||| 2 ^ p.left.toNat else s) (qwQ g.prods tok m)).testBit k=true→F k=true:=by
    intro Q
    induction Q with
    |nil=>exact fun _ k h=>XI hF m k h
    | cons p Q ih=>
      intro hQ k h
      have ih:=ih (fun q hq=>hQ q (List.mem_cons_of_mem _ hq))
      rw[List.foldr_cons]at h
      split at h
      · rename_i hf
        rw[Nat.testBit_or,Bool.or_eq_true]at h
        rcases h with h|h
        · exact ih k h
        · rw[Nat.testBit_two_pow,decide_eq_true_eq]at h
          rw[← h]
          exact hF p (hQ p (by simp)) (Zt ih hf)
      · exact ih k h
   exact key g.prods (fun p hp=>hp) k h
theorem Q6 {g:Grammar} {tok:Bool} (h:qb4 g.prods tok (qaF g.prods tok)=true):IsGrow g tok (qaF g.prods tok):=by
 refine⟨fun p hp hf=>?_,fun F hF k hk=>XI hF _ k hk⟩
 have:=List.all_eq_true.1 h p hp
 rw[hf]at this
 simpa using this
def qAC (P:List GPr) (n:Nat) (E:Nat→Bool) (k:Nat):Bool:=(relE P E k).any fun j=>decide (0≤j) && decide (j<(n:Int)) && decide ((k:Int)∈Vx (relE P E) n j.toNat)
def quQ (P:List GPr) (n:Nat) (E:Nat→Bool):List Bool:=(List.range n).map (qAC P n E)
theorem qhy (P:List GPr) (n:Nat) (E:Nat→Bool):Zg P n E (fun k=>(quQ P n E).getD k false):=by
 intro k hk
 have e:(quQ P n E).getD k false=qAC P n E k:=by
  unfold quQ;rw[List.getD_eq_getElem?_getD,List.getElem?_map,List.getElem?_range hk];rfl
 show (quQ P n E).getD k false=true↔_
 rw[e]
 unfold qAC
 rw[List.any_eq_true]
 constructor
 · rintro ⟨j,hj,h⟩
   simp only[Bool.and_eq_true,decide_eq_true_eq]at h
   obtain ⟨m,rfl⟩: ∃m:Nat,j=m:=⟨j.toNat,o_⟩
   rw[Int.toNat_natCast]at h
   have hm:m<n:=o_
   obtain ⟨q,e1,_,hr⟩:=((VN hm).2 _).1 h.2
   have:k=q:=o_
   subst this
   exact⟨m,⟨hk,hm,hj⟩,hr⟩
 · rintro ⟨m,⟨_,hm,hj⟩,hr⟩
   refine⟨m,hj,?_⟩
   simp only[Bool.and_eq_true,decide_eq_true_eq,Int.toNat_natCast]
   exact⟨⟨o_,o_⟩,((VN hm).2 _).2 ⟨k,rfl,hk,hr⟩⟩
def upB (P:List GPr) (n:Nat) (E:Nat→Bool):Bool:=(List.range n).all fun k:Nat=>(relE P E k).all fun j=>decide ((k:Int)<j)
theorem qfn {P:List GPr} {n:Nat} {E:Nat→Bool} (h:upB P n E=true):Zg P n E (fun _=>false):=by
 intro k hk
 refine⟨fun h=>(by cases h),fun⟨j,e,hr⟩=>?_⟩
 have up: ∀a b,Edge (relE P E) n a b→a<b:=fun a b e=>by
  have:=List.all_eq_true.1 (List.all_eq_true.1 h a (List.mem_range.2 e.1)) _ e.2.2
  rw[decide_eq_true_eq]at this
  omega
 have h1:=hr.stay (S:=fun z=>k<z) (fun a b ha e=>by have:=up a b e;omega) (up k j e)
 omega
def qra (P:List GPr) (n:Nat) (E cy:Nat→Bool) (Z:List Int):Bool:=decide (Z.length=n) && (List.range n).all fun k=>decide (Z.getD k 0=ezF P E cy (fun j=>Z.getD j 0) k)
theorem qa9 {P:List GPr} {n:Nat} {E cy:Nat→Bool} (hn: ∀p∈P,∀s∈p.right,s<1000∨ ∃k:Nat,s=1000+(k:Int)∧k<n) (hc:Zg P n E cy) {Z:Nat→Int} (hZ: ∀k,k<n→Z k=ezF P E cy Z k): ∀(m k:Nat),k<n→muE (relE P E) n k≤m→Z k=szE P n E cy k
 |0,k,hk,hm=>absurd (qb0 (rel:=relE P E) hk) o_
 | m + 1,k,hk,hm=>by
   rw[hZ k hk,qfN hn hc hk]
   unfold ezF
   by_cases e1:E k=false
   · rw[if_pos e1,if_pos e1]
   · rw[if_neg e1,if_neg e1]
     by_cases e2:cy k=true
     · rw[if_pos e2,if_pos e2]
     · rw[if_neg e2,if_neg e2]
       refine QH _ fun p hp hl hf s hs=>?_
       obtain ⟨j,rfl,hj,_,he⟩:=QG hn hk hp hl hf hs
       rw[show (1000+(j:Int) - 1000).toNat=j by omega]
       have hlt:=qfk he (fun h=>e2 ((hc k hk).2 ⟨j,he,h⟩))
       exact qa9 hn hc hZ m j hj o_
theorem KW {g:Grammar} (hg:GOk g) {E cy:Nat→Bool} {Z:List Int} (hE:IsGrow g false E) (hc:Zg g.prods g.nons.length E cy) (hz:qra g.prods g.nons.length E cy Z=true):Pure Tryd.prog 15 [g.V] (ints Z):=by
 obtain ⟨E',h1,h2⟩:=JS (token:=false) hg
 rw[h1.uniq hE]at h2
 have:=za hg h2 hc
 have e:yw g.nons.length (szE g.prods g.nons.length E cy)=Z:=by
  unfold qra at hz
  rw[Bool.and_eq_true,decide_eq_true_eq]at hz
  have hq: ∀k,k<g.nons.length→Z.getD k 0=ezF g.prods E cy (fun j=>Z.getD j 0) k:=fun k hk=>by
   have:=List.all_eq_true.1 hz.2 k (List.mem_range.2 hk)
   simpa using this
  refine List.ext_getElem? fun k=>?_
  by_cases hk:k<g.nons.length
  · rw[je hk,← qa9 (fun p hp=>hg.rt hp) hc (Z:=fun j=>Z.getD j 0) hq _ k hk (Nat.le_refl _)]
    rw[List.getD_eq_getElem?_getD,ge_ o_];rfl
  · rw[List.getElem?_eq_none (by rw[vg];omega),List.getElem?_eq_none o_]
 rw[e]at this
 exact this

set_option maxHeartbeats 8000000
def qbP (P:List GPr):Nat→List Int
 |0=>[1000]
 |m+1=>P.foldl (fun l p=>if 1000+p.left∈l then p.right.foldl qaM l else l) (qbP P m)
def qAj (P:List GPr) (l:List Int):Bool:=P.all fun p=>decide (1000+p.left ∉ l) || p.right.all fun s=>decide (s∈l)
theorem Ji: ∀(r l:List Int) (x:Int),x∈r.foldl qaM l↔x∈l∨x∈r
 |[],l,x=>by simp
 | s ::r,l,x=>by
   rw[List.foldl_cons,Ji r,qaB,List.mem_cons]
   constructor
   · rintro ((h|h)|h)
     · exact Or.inl h
     · exact Or.inr (Or.inl h)
     · exact Or.inr (Or.inr h)
   · rintro (h|h|h)
     · exact Or.inl (Or.inl h)
     · exact Or.inl (Or.inr h)
     · exact Or.inr h
theorem XH: ∀(r l:List Int),Jf l→Jf (r.foldl qaM l)
 |[],l,h=>h
 |s::r,l,h=>by rw[List.foldl_cons];exact XH r _ (Y6 h)
theorem YH (P:List GPr): ∀m,Jf (qbP P m)∧(1000:Int)∈qbP P m∧ ∀x∈qbP P m,Rchd P x
 |0=>⟨List.pairwise_singleton _ _,by simp[qbP],fun x hx=>by rw[qbP,List.mem_singleton]at hx;subst hx;exact .start⟩
 | m+1=>by
   have key: ∀(Q:List GPr),(∀p∈Q,p∈P)→ ∀l,(Jf l∧(1000:Int)∈l∧ ∀x∈l,Rchd P x)→let l':=Q.foldl (fun l p=>if 1000+p.left∈l then p.right.foldl qaM l else l) l
    Jf l'∧(1000:Int)∈l'∧ ∀x∈l',Rchd P x:=by
    intro Q
    induction Q with
    |nil=>exact fun _ l h=>h
    | cons p Q ih=>
      intro hQ l h
      rw[List.foldl_cons]
      refine ih (fun q hq=>hQ q (List.mem_cons_of_mem _ hq)) _ ?_
      by_cases hp:1000+p.left∈l
      · rw[if_pos hp]
        refine⟨XH _ _ h.1,(Ji _ _ _).2 (Or.inl h.2.1),fun x hx=>?_⟩
        rcases (Ji _ _ _).1 hx with hx|hx
        · exact h.2.2 x hx
        · exact .step (h.2.2 _ hp) (hQ p (by simp)) hx
      · rw[if_neg hp];exact h
   exact key P (fun p hp=>hp) _ (YH P m)
theorem qiT {P:List GPr} {m:Nat} (h:qAj P (qbP P m)=true) (x:Int):x∈qbP P m↔Rchd P x:=by
 refine⟨(YH P m).2.2 x,fun hr=>?_⟩
 induction hr with
 |start=>exact(YH P m).2.1
 | @step p s _ hp hs ih=>
   have:=List.all_eq_true.1 h p hp
   rw[Bool.or_eq_true,decide_eq_true_eq]at this
   rcases this with this|this
   · exact absurd ih this
   · have:=List.all_eq_true.1 this s hs
     simpa using this
theorem qdu {g:Grammar} (hg:GOk g) {m:Nat} (h:qAj g.prods (qbP g.prods m)=true):Pure Tryd.prog 11 [g.V] (ints (qbP g.prods m)):=by
 have h1:=ZR hg
 have hnl:=hg.nn2;have htl:=hg.tk2
 obtain ⟨r1,r2,_⟩:=qiv (t:=g.toks.length) (n:=g.nons.length) (P:=g.prods) ⟨hg.left,hg.right⟩ hg.nn o_
 rw[YN r1 (YH g.prods m).1 fun x=>(r2 x).trans (qiT h x).symm]at h1
 exact h1
theorem qxL {α:Type} {b:Bool} {H:Nat→Option MObj} {f g:α→V}: ∀{l:List α},(∀x∈l,Er b H (f x) (g x))→ErL b H (l.map f) (l.map g)
 |[],_=>.nil
 |x::l,h=>.cons (h x (by simp)) (qxL fun y hy=>h y (List.mem_cons_of_mem _ hy))
abbrev l1V (a:List Nat):V:= .sl 1 true (a.map fun x:Nat=>V.int .i64 (x:Int))
abbrev l2V (a:List (List Nat)):V:= .sl 1 true (a.map l1V)
theorem qym {b:Bool} {H:Nat→Option MObj} (l:List (List Nat)):Er b H (l2V l) (nnV l):=(qxL fun x _=>(qxL fun y _=>.int _ _).sl).sl
theorem qgE {b:Bool} {H:Nat→Option MObj} (l:List (List (List Nat))):Er b H (.sl 1 true (l.map l2V)) (.sl 1 false (l.map nnV)):=(qxL fun x _=>qym x).sl

structure Sml (l:List (List (List Nat))):Prop where
 a:l.length≤100
 b: ∀a∈l,a.length≤100
 c: ∀a∈l,∀b∈a,b.length≤100
 d: ∀a∈l,∀b∈a,∀x∈b,x≤1000000
theorem qct (n:Nat):(nmC n).length≤26:=by have:=XU n;simp[nmC];omega
theorem QL {l:List (List (List Nat))} {r:Rule} (h:r∈(QB l).rules): ∃i al,al∈l∧r={left:=nmC i,alts:=al.map qfS}:=by
 obtain ⟨i,hi,rfl⟩:=List.mem_map.1 h
 have hi:=List.mem_range.1 hi
 refine⟨i,l[i],List.getElem_mem hi,?_⟩
 unfold qbZ;rw[List.getD_eq_getElem?_getD,ge_ hi];rfl
theorem qeD {l:List (List (List Nat))} (h:Sml l):(QB l).Fits:=by
 refine⟨by simp[QB],by simp[QB],by simp[QB],fun d hd=>by simp[QB]at hd,?_,fun r hr=>?_⟩
 · show (qen l l.length).length≤_
   rw[YB];have:=h.a;omega
 · obtain ⟨i,al,hal,rfl⟩:=QL hr
   have hn:=qct i
   refine⟨by dsimp only;omega,?_,fun a ha=>?_⟩
   · dsimp only;rw[List.length_map];have:=h.b al hal;omega
   · obtain ⟨b,hb,rfl⟩:=List.mem_map.1 ha
     have:=h.c al hal b hb
     refine⟨by simp[qfS];omega,fun p hp=>?_,by simp[qfS]⟩
     obtain ⟨x,_,rfl⟩:=List.mem_map.1 hp
     have hn:=qct x
     exact⟨by simp[Y0];omega,by simp[Y0]⟩
theorem qcV {l:List (List (List Nat))} (h:Sml l):Small (QB l):=by
 refine⟨by simp[QB],fun d hd=>by simp[QB]at hd,fun d hd=>by simp[QB]at hd,fun d hd=>by simp[QB]at hd,?_,fun r hr=>?_,fun r hr a ha=>?_,fun r hr a ha w hw hlit=>?_,fun r hr a ha hlit=>?_⟩
 · show (qen l l.length).length≤_
   rw[YB];have:=h.a;omega
 · obtain ⟨i,al,hal,rfl⟩:=QL hr
   dsimp only;rw[List.length_map];have:=h.b al hal;omega
 · obtain ⟨i,al,hal,rfl⟩:=QL hr
   obtain ⟨b,hb,rfl⟩:=List.mem_map.1 ha
   have:=h.c al hal b hb
   simp[qfS];omega
 · obtain ⟨i,al,hal,rfl⟩:=QL hr
   obtain ⟨b,hb,rfl⟩:=List.mem_map.1 ha
   obtain ⟨x,_,rfl⟩:=List.mem_map.1 hw
   simp[Y0]at hlit
 · obtain ⟨i,al,hal,rfl⟩:=QL hr
   obtain ⟨b,hb,rfl⟩:=List.mem_map.1 ha
   simp[qfS]at hlit
theorem Ky {l:List (List (List Nat))} (h:Sml l) (hb:Z9 (QB l)=true):Pure Tryd.prog 14 [.sl 1 false (l.map nnV)] (.tup [(Qv (QB l)).V,.bool true]):=by
 have h1:=QE (qeD h) (fun _=>qcV h)
 have h2:=qF h.a h.b h.c h.d h1
 rw[hb]at h2
 exact h2
def wkL:List (List (List Nat)):=[[[1,1]],[[]],[[2]]]
def wkB (g:Grammar):Bool:=decide (g.nons.length=4) && qb4 g.prods false (qaF g.prods false) && qb4 g.prods true (qaF g.prods true) && upB g.prods 4 (qaF g.prods false) && qra g.prods 4 (qaF g.prods false) (fun _=>false) [4,3,1,0] &&
 decide (kT 4 (qaF g.prods false) true=[1000,1001,1002]) && decide (kT 4 (qaF g.prods true) false=[1003]) && qAj g.prods (qbP g.prods 2) && decide (qbP g.prods 2=[1000,1001,1002])
theorem wk1:Z9 (QB wkL)=true:=by decide+kernel
theorem wk2:wkB (Qv (QB wkL))=true:=by decide+kernel
theorem qyd:Sml wkL:=⟨by decide,by decide,by decide,by decide⟩
theorem qE:Pure Tryd.prog 6 [] (.bool true):=by
 refine pure_intro Tryd.func6 nm_ qy7 (by show 0≤41;decide) ?_
 show ewp _ qCr _ _
 have hch:=Ky qyd wk1
 have hg:=gok wk1
 have hb:=wk2
 generalize Qv (QB wkL)=g at *
 unfold wkB at hb
 simp only[Bool.and_eq_true,decide_eq_true_eq]at hb
 obtain ⟨⟨⟨⟨⟨⟨⟨⟨b1,b2⟩,b3⟩,b4⟩,b5⟩,b6⟩,b7⟩,b8⟩,b9⟩:=hb
 have hE:=Q6 b2
 have hE1:=Q6 b3
 rw[← b1]at b4 b5 b6 b7
 have he:=KW hg hE (qfn b4) b5
 obtain ⟨E',g1,g2⟩:=JS (token:=false) hg
 rw[g1.uniq hE]at g2
 obtain ⟨E1',g3,g4⟩:=JS (token:=true) hg
 rw[g3.uniq hE1]at g4
 have hnu:=Ym hg g2
 have hva:=YW hg g4
 have hre:=qdu hg b8
 rw[b6]at hnu
 rw[b7]at hva
 rw[b9]at hre
 have q1:=xB (a:=[1000,1001,1002]) (b:=[1000,1001,1002]) (by decide) (by decide)
 have q2:=xB (a:=[1003]) (b:=[1003]) (by decide) (by decide)
 have q3:=xB (a:=[4,3,1,0]) (b:=[4,3,1,0]) (by decide) (by decide)
 rw[decide_eq_true rfl]at q1 q2 q3
 repeat' with_reducible first
  |refine s_ ?_
  |refine s_ ?_
  |simp -implicitDefEqProofs only[wS,wT,wU,wV,wW,wX,wY,wC,wF,wG,wL,wM,wN,seval,Int.cast_ofNat_Int,Int.reduceLT,Int.reduceLE,Int.reduceEq,Int.reduceToNat,decide_true,decide_false,Bool.false_eq_true]
  |((first|refine qH (fun h=>?_) (fun h=>?_)|refine qG (fun h=>?_) (fun h=>?_))<;>have h_:=h<;>(try simp only[wD,reduceCtorEq]at h_)<;>(try(exfalso;first|omega|exact absurd (Eq.trans (Eq.symm h_) (by assumption):false=true) (by decide)|exact absurd (Eq.trans (Eq.symm h_) (by assumption):true=false) (by decide)|(refine absurd ?_ h_;focus assumption)|(refine absurd h_ ?_;focus assumption)))<;>(try simp only[h]))
  |apply qN (hp:=hch);with_unfolding_all exact qgE wkL
  |refine cq1 he qI ?_
  |refine cq1 hnu qI ?_
  |refine cq1 hva qI ?_
  |refine cq1 hre qI ?_
  |apply qQ (hp:=q1);with_unfolding_all exact ZL [1000,1001,1002];with_unfolding_all exact ZL [1000,1001,1002]
  |apply qQ (hp:=q2);with_unfolding_all exact ZL [1003];with_unfolding_all exact ZL [1003]
  |apply qQ (hp:=q3);with_unfolding_all exact ZL [4,3,1,0];with_unfolding_all exact ZL [4,3,1,0]
  |refine t_ ?_
  |apply qf;exact wu_;exact wu_;(focus((try simp -implicitDefEqProofs only[wE,Nat.reduceAdd]);rfl))
  |apply qg;exact wd_;exact wu_
  |apply qh;exact wu_
  |apply qm;exact wf_;exact wu_;exact wu_;(focus(intro _;with_unfolding_all rfl))
  |apply qp;exact wu_;exact wu_;exact wu_
  |refine qN we_ (qF wf_ wf_ wf_ wf_ wf_) ?_
  |refine qN we_ (za wf_ wf_) ?_
  |refine qN we_ (YW wf_ wf_) ?_
  |refine qN we_ (ZR wf_) ?_
  |simp -implicitDefEqProofs (disch:=omega) only[w64,if_neg]
 all_goals refine qP rfl (Or.inr rfl) ?_
 all_goals(try simp -implicitDefEqProofs only[wL,seval])
 all_goals refine er_ ?_
 all_goals(try(with_reducible rfl))
end Go.Proofs
