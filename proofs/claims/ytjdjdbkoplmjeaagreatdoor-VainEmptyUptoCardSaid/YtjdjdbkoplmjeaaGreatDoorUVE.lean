/- Part of a proof that a law of the given program answers true. -/
import Derived.Test.YtjdjdbkoplmjeaaGreatDoorUVD
import Derived.Test.YtjdjdbkoplmjeaaGreatDoorUCA
set_option maxRecDepth 20000
set_option linter.unusedSimpArgs false
set_option linter.unusedVariables false
set_option maxHeartbeats 8000000
namespace Go.Proofs
open Go.E
theorem qeY {g:Grammar} {E:Nat→Bool} (hg:GOk g) (hp:Pure Tryz.prog 37 [g.V,.bool true] (.sl 1 false (xX g.nons.length E))):Pure Tryz.prog 13 [g.V] (.sl 1 false ((kR g.nons.length E false).map (V.int .i64))):=by
 refine pure_intro Tryz.func13 qyQ qsu (by show 1≤6;decide) ?_
 show ewp _ qw9 _ _
 have hnl:=hg.nn2
 have hwh:=Yj (n:=g.nons.length) (h:=E) (so:=false) o_
 have h1:=JR g.nons.length E
 repeat' with_reducible first
  |refine s_ ?_
  |simp -implicitDefEqProofs only[wZZ,seval]
  |refine cq2 hp qm qm ?_
  |refine cq2 hwh qm qm ?_
  |refine t_ ?_
 all_goals refine qA rfl (Or.inr rfl) ?_
 all_goals(try simp -implicitDefEqProofs only[wL,seval])
 all_goals refine er_ ?_
 all_goals(try(with_reducible rfl))
def nmC (n:Nat):List UInt8:=110::qfA n
def Ke (x:Nat):Part:={sym:={name:=nmC x}}
def qhB (a:List Nat):Alt:={parts:=a.map Ke}
def qel (l:List (List (List Nat))) (i:Nat):Rule:={left:=nmC i,alts:=(l.getD i []).map qhB}
def qgf (l:List (List (List Nat))) (m:Nat):List Rule:=(List.range m).map (qel l)
def XU (l:List (List (List Nat))):Source:={rules:=qgf l l.length}
theorem qfs (l:List (List (List Nat))) (m:Nat):qgf l (m+1)=qgf l m++[qel l m]:=by simp[qgf,List.range_succ]
theorem VU (l:List (List (List Nat))) (m:Nat):(qgf l m).length=m:=by simp[qgf]
abbrev nV (a:List Nat):V:= .sl 1 false (a.map fun x:Nat=>V.int .i64 (x:Int))
abbrev nnV (a:List (List Nat)):V:= .sl 1 false (a.map nV)
theorem qxy {n:Nat} {K:V→Prop} (hk:K (.str (nmC n))):onS (j4 .add (.str [110]) (.str (qfA n))) K:=by
 refine qe6 ?_ hk
 have:=VX n
 simp;omega
theorem Jq {l:List (List (List Nat))} (hl:l.length≤100) (hl2: ∀a∈l,a.length≤100) (hl3: ∀a∈l,∀b∈a,b.length≤100) (hx: ∀a∈l,∀b∈a,∀x∈b,x≤1000000) (hG:Pure Tryz.prog 9 [(XU l).V] (.tup [(kE (XU l)).V,.bool (K4 (XU l))])):Pure Tryz.prog 27 [.sl 1 false (l.map nnV)] (.tup [(kE (XU l)).V,.bool (K4 (XU l))]):=by
 refine pure_intro Tryz.func27 qoR qv0 (by show 1≤76;decide) ?_
 show ewp _ qh0 _ _
 repeat' with_reducible first
  |refine s_ ?_
  |simp -implicitDefEqProofs only[wZZ,seval]
 refine qf ?nx1 (fun(i:Nat) s=>s.f 0=?v1_0∧s.f 2=?v1_2∧s.f 4=?v1_4∧s.H 0=some (MObj.own 5 [qgZ] false)∧s.f 5=vi i∧(i≤l.length)∧(4≤s.next)∧((∃v es,s.H 2=some (MObj.own 4 [.agg [.str [],.sl 4 true [],v,.str []]] false)∧Gr s.H s.next 3 es v∧Z4 es ((qgf l i).map Rule.V)))) (fun i=>l.length - i) (0) wj_ (by refine⟨?_,?_,?_,?_,?_,wo_,wg_,(by exact⟨.sl 3 true [],[],hh_,Gr.nil,.nil⟩)⟩<;>first|(simp -implicitDefEqProofs only[wL,wM,wN,wX,seval,Option.some.injEq]<;>exact wt_)|rfl|exact⟨_,rfl⟩) ?_
 intro i s hnx ⟨g0,g2,g4,o0,g5,k1_0,k1_1,k1_2⟩
 obtain ⟨v,es,o2,G1,E1⟩:=k1_2
 have hz:=w1_ i
 have hel:es.length=i:=by have:=E1.len;rw[List.length_map,VU]at this;omega
 by_cases hi:i<l.length
 · obtain ⟨al,hal⟩: ∃al,l[i]?=some al:=⟨_,ge_ hi⟩
   have halm:=List.mem_of_getElem? hal
   have hsu:=qfs l i
   have hru:qel l i={left:=nmC i,alts:=al.map qhB}:=by unfold qel;rw[List.getD_eq_getElem?_getD,hal];rfl
   rw[hru]at hsu
   have hd1:=xh (n:=i) o_
   have hall:=hl2 al halm
   repeat' with_reducible first
    |refine s_ ?_
    |simp -implicitDefEqProofs only[wZZ,seval,g0,g2,g4,g5,o0,o2]
    |apply qc<;>intro h h_<;>(try simp only[wD,reduceCtorEq]at h_)<;>(try exact wb_)<;>(try simp only[h])
    |refine cq1 hd1 qm ?_
    |(refine qxy ?_)
    |refine t_ ?_
   obtain ⟨R,hR⟩: ∃R,R=s.next+4+4:=⟨_,rfl⟩
   rw[← hR]
   have hvR: ∀j,gid v=some j→j<R:=fun j e=>by have:=G1.lt e;omega
   generalize hnm:nmC i=nm at *
   refine qf ?nx2 (fun(k:Nat) s=>s.f 0=?v2_0∧s.f 2=?v2_2∧s.f 4=?v2_4∧s.f 5=?v2_5∧s.f 6=?v2_6∧s.f 7=vi k∧(k≤al.length)∧(R<s.next)∧(s.H 0=some (MObj.own 5 [qgZ] false))∧(s.H 2=some (MObj.own 4 [.agg [.str [],.sl 4 true [],v,.str []]] false))∧(Gr s.H s.next 3 es v)∧((∃v2 es2,s.H R=some (.own 3 [.agg [.str nm,v2,vi 0]] false)∧Gr s.H s.next 6 es2 v2∧(∀j,gid v2=some j→R<j)∧Z4 es2 (((al.take k).map qhB).map Alt.V)))) (fun k=>al.length - k) (0) wj_ (by refine⟨?_,?_,?_,?_,?_,?_,wo_,wg_,(by(((try simp only[wM]);(repeat first|rw[if_pos trivial]|rw[if_pos rfl]|rw[if_neg o_]));exact o0)),(by(((try simp only[wM]);(repeat first|rw[if_pos trivial]|rw[if_pos rfl]|rw[if_neg o_]));exact o2)),(by(exact G1.mono wg_ (fun j h1 h2=>hh_))),(by(exact⟨.sl 6 true [],[],hh_,Gr.nil,fun j h=>(by cases h),.nil⟩))⟩<;>first|(simp -implicitDefEqProofs only[wL,wM,wN,wX,seval,Option.some.injEq,g0,g2,g4,g5,o0]<;>exact wt_)|rfl|exact⟨_,rfl⟩) ?_
   intro k s hnx ⟨g0,g2,g4,g5,g6,g7,k2_0,k2_1,k2_2,k2_3,k2_4,k2_5⟩
   obtain ⟨v2,es2,oR,G2,hv2,E2⟩:=k2_5
   have hzk:=w1_ k
   have hel2:es2.length=k:=by have:=E2.len;rw[List.length_map,List.length_map,List.length_take]at this;omega
   by_cases hk:k<al.length
   · obtain ⟨b,hb⟩: ∃b,al[k]?=some b:=⟨_,ge_ hk⟩
     have hbm:=List.mem_of_getElem? hb
     have hbl:=hl3 al halm b hbm
     have hbt:al.take (k+1)=al.take k++[b]:=by rw[List.take_add_one,hb];rfl
     repeat' with_reducible first
      |refine s_ ?_
      |simp -implicitDefEqProofs only[wZZ,seval,g0,g2,g4,g5,g6,g7]
      |apply qc<;>intro h h_<;>(try simp only[wD,reduceCtorEq]at h_)<;>(try exact wb_)<;>(try simp only[h])
      |refine t_ ?_
     obtain ⟨A,hA⟩: ∃A,A=s.next+7:=⟨_,rfl⟩
     rw[← hA]
     refine qf ?nx3 (fun(j:Nat) s=>s.f 0=?v3_0∧s.f 2=?v3_2∧s.f 4=?v3_4∧s.f 5=?v3_5∧s.f 6=?v3_6∧s.f 7=?v3_7∧s.f 8=?v3_8∧s.f 9=vi j∧(j≤b.length)∧(A<s.next)∧(s.H 0=some (MObj.own 5 [qgZ] false))∧(s.H 2=some (MObj.own 4 [.agg [.str [],.sl 4 true [],v,.str []]] false))∧(Gr s.H s.next 3 es v)∧(s.H R=some (.own 3 [.agg [.str nm,v2,vi 0]] false))∧(Gr s.H s.next 6 es2 v2)∧((∃v3 es3,s.H A=some (.own 6 [.agg [v3,.str [],.bool false,vi 0,vi 0,vi 0]] false)∧Gr s.H s.next 6 es3 v3∧(∀j,gid v3=some j→A<j)∧Z4 es3 (((b.take j).map Ke).map Part.V)))) (fun j=>b.length - j) (0) wj_ (by refine⟨?_,?_,?_,?_,?_,?_,?_,?_,wo_,wg_,(by(((try simp only[wM]);(repeat first|rw[if_pos trivial]|rw[if_pos rfl]|rw[if_neg o_]));exact k2_2)),(by(((try simp only[wM]);(repeat first|rw[if_pos trivial]|rw[if_pos rfl]|rw[if_neg o_]));exact k2_3)),(by(exact k2_4.mono wg_ (fun j h1 h2=>hh_))),(by(((try simp only[wM]);(repeat first|rw[if_pos trivial]|rw[if_pos rfl]|rw[if_neg o_]));exact oR)),(by(exact G2.mono wg_ (fun j h1 h2=>hh_))),(by(exact⟨.sl 6 true [],[],hh_,Gr.nil,fun j h=>(by cases h),.nil⟩))⟩<;>first|(simp -implicitDefEqProofs only[wL,wM,wN,wX,seval,Option.some.injEq,g0,g2,g4,g5,g6,g7]<;>exact wt_)|rfl|exact⟨_,rfl⟩) ?_
     intro j s hnx ⟨g0,g2,g4,g5,g6,g7,g8,g9,k3_0,k3_1,k3_2,k3_3,k3_4,k3_5,k3_6,k3_7⟩
     obtain ⟨v3,es3,oA,G3,hv3,E3⟩:=k3_7
     have hzj:=w1_ j
     have hel3:es3.length=j:=by have:=E3.len;rw[List.length_map,List.length_map,List.length_take]at this;omega
     have hv2A: ∀j,gid v2=some j→j<A:=fun j e=>by have:=G2.lt e;omega
     by_cases hj:j<b.length
     · obtain ⟨x,hx'⟩: ∃x,b[j]?=some x:=⟨_,ge_ hj⟩
       have hxb:=hx al halm b hbm x (List.mem_of_getElem? hx')
       have hxt:b.take (j+1)=b.take j++[x]:=by rw[List.take_add_one,hx'];rfl
       have hgx:(b.map fun x:Nat=>V.int .i64 (x:Int))[j]?=some (V.int .i64 (x:Int)):=by rw[List.getElem?_map,hx'];rfl
       have hd2:=xh (n:=x) o_
       have n3A:gid v3≠some A:=fun e=>by have:=hv3 _ e;omega
       have n3R:gid v3≠some R:=fun e=>by have:=hv3 _ e;omega
       have n3: ∀c,c<A→gid v3≠some c:=fun c hc e=>by have:=hv3 _ e;omega
       have e3: ∀c,gid v3=some c→A<c:=hv3
       repeat' with_reducible first
        |refine s_ ?_
        |simp -implicitDefEqProofs only[wZZ,seval,g0,g2,g4,g5,g6,g7,g8,g9,hzj,oA,qd n3A]
        |apply qc<;>intro h h_<;>(try simp only[wD,reduceCtorEq]at h_)<;>(try exact wb_)<;>(try simp only[h])
        |refine t_ ?_
        |refine cq1 hd2 qm ?_
        |(refine qxy ?_)
        |apply za rfl (G3.mono (Nat.le_refl _) (fun id h1 h2=>by(try simp only[wM]);(repeat rw[if_neg o_])));(focus(first|exact qZ.sl|exact qZ.asl));(focus(simp only[wZ,hel3];omega));(focus(unfold maxLen;simp only[wZ,hel3];omega))
        |simp -implicitDefEqProofs (disch:=omega) only[w64,if_neg]
       refine⟨wg_,j+1,o_,?_⟩;(repeat refine⟨True.intro,?_⟩)
       refine⟨rfl,o_,wg_,by((try simp only[wM]);(repeat first|rw[if_pos trivial]|rw[if_pos rfl]|rw[if_neg o_]));exact(qd (n3 0 o_)).trans k3_2,by((try simp only[wM]);(repeat first|rw[if_pos trivial]|rw[if_pos rfl]|rw[if_neg o_]));exact(qd (n3 2 o_)).trans k3_3,k3_4.mono wg_ (fun c h1 h2=>by have:=hvR c h1;((try simp only[wM]);(repeat first|rw[if_pos trivial]|rw[if_pos rfl]|rw[if_neg o_]));exact qd (n3 c o_)),by((try simp only[wM]);(repeat first|rw[if_pos trivial]|rw[if_pos rfl]|rw[if_neg o_]));exact(qd n3R).trans k3_5,k3_6.mono wg_ (fun c h1 h2=>by have:=hv2A c h1;((try simp only[wM]);(repeat first|rw[if_pos trivial]|rw[if_pos rfl]|rw[if_neg o_]));exact qd (n3 c o_)),_,_,by((try simp only[wM]);(repeat first|rw[if_pos trivial]|rw[if_pos rfl]|rw[if_neg o_]));rfl,Gr.tok hh_ wg_,fun c h=>by cases h;omega,?_⟩
       rw[hxt,List.map_append,List.map_append];exact E3.snoc qm
     · have ej:b.take j=b:=List.take_of_length_le o_
       rw[ej]at E3
       have n2R:gid v2≠some R:=fun e=>by have:=hv2 _ e;omega
       have n2: ∀c,c<R→gid v2≠some c:=fun c hc e=>by have:=hv2 _ e;omega
       have oR3:=k3_5
       have G23:=k3_6
       repeat' with_reducible first
        |refine s_ ?_
        |simp -implicitDefEqProofs only[wZZ,seval,g0,g2,g4,g5,g6,g7,g8,g9,hzk,oA,oR3,qd n2R]
        |apply qc<;>intro h h_<;>(try simp only[wD,reduceCtorEq]at h_)<;>(try exact wb_)<;>(try simp only[h])
        |refine t_ ?_
        |apply za rfl (G23.mono (Nat.le_refl _) (fun id h1 h2=>by(try simp only[wM]);(repeat rw[if_neg o_])));(focus(first|exact qZ.sl|exact qZ.asl));(focus(simp only[wZ,hel2];omega));(focus(unfold maxLen;simp only[wZ,hel2];omega))
        |simp -implicitDefEqProofs (disch:=omega) only[w64,if_neg]
       refine⟨wg_,k+1,o_,?_⟩;(repeat refine⟨True.intro,?_⟩)
       refine⟨rfl,o_,wg_,by((try simp only[wM]);(repeat first|rw[if_pos trivial]|rw[if_pos rfl]|rw[if_neg o_]));exact(qd (n2 0 o_)).trans k3_2,by((try simp only[wM]);(repeat first|rw[if_pos trivial]|rw[if_pos rfl]|rw[if_neg o_]));exact(qd (n2 2 o_)).trans k3_3,k3_4.mono wg_ (fun c h1 h2=>by have:=hvR c h1;((try simp only[wM]);(repeat first|rw[if_pos trivial]|rw[if_pos rfl]|rw[if_neg o_]));exact qd (n2 c o_)),_,_,by((try simp only[wM]);(repeat first|rw[if_pos trivial]|rw[if_pos rfl]|rw[if_neg o_]));rfl,Gr.tok hh_ wg_,fun c h=>by cases h;omega,?_⟩
       rw[hbt,List.map_append,List.map_append]
       exact E2.snoc (ErL.agg (.cons (Go.E.Gr.erL G3 E3) (.cons (.str _) (.cons (.bool _) (.cons (.int _ _) (.cons (.int _ _) (.cons (.int _ _) .nil)))))))
   · skip
     have ek:al.take k=al:=List.take_of_length_le o_
     rw[ek]at E2
     have nv2:gid v≠some 2:=fun e=>by obtain ⟨fin,hf⟩:=Go.Proofs.Gr.tokAt k2_4 e;rw[k2_3]at hf;cases hf
     have nv0:gid v≠some 0:=fun e=>by obtain ⟨fin,hf⟩:=Go.Proofs.Gr.tokAt k2_4 e;rw[k2_2]at hf;cases hf
     have o23:=k2_3
     have G13:=k2_4
     repeat' with_reducible first
      |refine s_ ?_
      |simp -implicitDefEqProofs only[wZZ,seval,g0,g2,g4,g5,g6,g7,hz,oR,o23,qd nv2]
      |apply qc<;>intro h h_<;>(try simp only[wD,reduceCtorEq]at h_)<;>(try exact wb_)<;>(try simp only[h])
      |refine t_ ?_
      |apply za rfl (G13.mono (Nat.le_refl _) (fun id h1 h2=>by(try simp only[wM]);(repeat rw[if_neg o_])));(focus(first|exact qZ.sl|exact qZ.asl));(focus(simp only[wZ,hel];omega));(focus(unfold maxLen;simp only[wZ,hel];omega))
     refine⟨wg_,i+1,o_,?_⟩;(repeat refine⟨True.intro,?_⟩)
     exact⟨(qd nv0).trans k2_2,rfl,o_,wg_,_,_,rfl,Gr.tok hh_ wg_,by rw[hsu,List.map_append];exact E1.snoc (ErL.agg (.cons (.str _) (.cons (Go.E.Gr.erL G2 E2) (.cons (.int _ _) .nil))))⟩
 · skip
   have ei:i=l.length:=o_
   rw[ei]at E1
   repeat' with_reducible first
    |refine s_ ?_
    |simp -implicitDefEqProofs only[wZZ,seval,g0,g2,g4,g5,o0,o2]
    |apply qc<;>intro h h_<;>(try simp only[wD,reduceCtorEq]at h_)<;>(try exact wb_)<;>(try simp only[h])
    |refine cq1 hG (ErL.agg (.cons (.str _) (.cons (ErL.sl .nil) (.cons (Go.E.Gr.erL G1 E1.up) (.cons (.str _) .nil))))) ?_
    |refine t_ ?_
   refine qhA (id:=0) rfl (Or.inr rfl) (by(simp -implicitDefEqProofs only[wL,seval,g2])) hh_ rfl ?_
   (simp -implicitDefEqProofs only[wL,seval])
   exact ErL.tup (.cons qm (.cons (.bool _) .nil))

set_option maxHeartbeats 4000000
def qqe (P:List GPr) (tok:Bool):Nat→Nat
 |0=>0
 |m+1=>P.foldr (fun p s=>if qW tok (fun j=>s.testBit j) p.right then s ||| 2 ^ p.left.toNat else s) (qqe P tok m)
def qhi (P:List GPr) (tok:Bool):Nat→Bool:=fun k=>(qqe P tok 2).testBit k
def qnw (P:List GPr) (tok:Bool) (E:Nat→Bool):Bool:=P.all fun p=> !qW tok E p.right || E p.left.toNat
theorem Yk {g:Grammar} {tok:Bool} {F:Nat→Bool} (hF:yw g tok F): ∀m k,(qqe g.prods tok m).testBit k=true→F k=true
 |0,k,h=>by simp[qqe]at h
 | m + 1, k,h=>by
   have key: ∀(Q:List GPr),(∀p∈Q,p∈g.prods)→ ∀k,(Q.foldr (fun p s=>if qW tok (fun j=>s.testBit j) p.right then s ||| 2 ^ p.left.toNat else s) (qqe g.prods tok m)).testBit k=true→F k=true:=by
    intro Q
    induction Q with
    |nil=>exact fun _ k h=>Yk hF m k h
    | cons p Q ih=>
      intro hQ k h
      have ih:=ih (fun q hq=>hQ q (List.mem_cons_of_mem _ hq))
      rw[List.foldr_cons]at h
      split at h
      · rename_i hf
        rw[Nat.testBit_or,Bool.or_eq_true]at h
        rcases h with h|h
        · exact ih k h
        · rw[Nat.testBit_two_pow,decide_eq_true_eq]at h
          rw[← h]
          exact hF p (hQ p (by simp)) (Qi ih hf)
      · exact ih k h
   exact key g.prods (fun p hp=>hp) k h
theorem KR {g:Grammar} {tok:Bool} (h:qnw g.prods tok (qhi g.prods tok)=true):IsGrow g tok (qhi g.prods tok):=by
 refine⟨fun p hp hf=>?_,fun F hF k hk=>Yk hF _ k hk⟩
 have:=List.all_eq_true.1 h p hp
 rw[hf]at this
 simpa using this
def upB (P:List GPr) (n:Nat) (E:Nat→Bool):Bool:=(List.range n).all fun k:Nat=>(relE P E k).all fun j=>decide ((k:Int)<j)
theorem qsa {P:List GPr} {n:Nat} {E:Nat→Bool} (h:upB P n E=true):vw P n E (fun _=>false):=by
 intro k hk
 refine⟨fun h=>(by cases h),fun⟨j,e,hr⟩=>?_⟩
 have up: ∀a b,Edge (relE P E) n a b→a<b:=fun a b e=>by
  have:=List.all_eq_true.1 (List.all_eq_true.1 h a (List.mem_range.2 e.1)) _ e.2.2
  rw[decide_eq_true_eq]at this
  omega
 have h1:=hr.stay (S:=fun z=>k<z) (fun a b ha e=>by have:=up a b e;omega) (up k j e)
 omega
def qHA (P:List GPr) (n:Nat) (E cy:Nat→Bool) (Z:List Int):Bool:=decide (Z.length=n) && (List.range n).all fun k=>decide (Z.getD k 0=ezF P E cy (fun j=>Z.getD j 0) k)
theorem qcq {P:List GPr} {n:Nat} {E cy:Nat→Bool} (hn: ∀p∈P,∀s∈p.right,s<1000∨ ∃k:Nat,s=1000+(k:Int)∧k<n) (hc:vw P n E cy) {Z:Nat→Int} (hZ: ∀k,k<n→Z k=ezF P E cy Z k): ∀(m k:Nat),k<n→muE (relE P E) n k≤m→Z k=szE P n E cy k
 |0,k,hk,hm=>absurd (qaM (rel:=relE P E) hk) o_
 | m + 1,k,hk,hm=>by
   rw[hZ k hk,YG hn hc hk]
   unfold ezF
   by_cases e1:E k=false
   · rw[if_pos e1,if_pos e1]
   · rw[if_neg e1,if_neg e1]
     by_cases e2:cy k=true
     · rw[if_pos e2,if_pos e2]
     · rw[if_neg e2,if_neg e2]
       refine Q6 _ fun p hp hl hf s hs=>?_
       obtain ⟨j,rfl,hj,_,he⟩:=Qb hn hk hp hl hf hs
       rw[show (1000+(j:Int) - 1000).toNat=j by omega]
       have hlt:=qfe he (fun h=>e2 ((hc k hk).2 ⟨j,he,h⟩))
       exact qcq hn hc hZ m j hj o_
theorem qnQ {g:Grammar} (hg:GOk g) {E cy:Nat→Bool} {Z:List Int} (hE:IsGrow g false E) (hc:vw g.prods g.nons.length E cy) (hz:qHA g.prods g.nons.length E cy Z=true):Pure Tryz.prog 17 [g.V] (ints Z):=by
 obtain ⟨E',h1,h2⟩:=Zi (token:=false) hg
 rw[h1.uniq hE]at h2
 have:=Yy hg h2 hc
 have e:ji g.nons.length (szE g.prods g.nons.length E cy)=Z:=by
  unfold qHA at hz
  rw[Bool.and_eq_true,decide_eq_true_eq]at hz
  have hq: ∀k,k<g.nons.length→Z.getD k 0=ezF g.prods E cy (fun j=>Z.getD j 0) k:=fun k hk=>by
   have:=List.all_eq_true.1 hz.2 k (List.mem_range.2 hk)
   simpa using this
  refine List.ext_getElem? fun k=>?_
  by_cases hk:k<g.nons.length
  · rw[zh hk,← qcq (fun p hp=>hg.rt hp) hc (Z:=fun j=>Z.getD j 0) hq _ k hk (Nat.le_refl _)]
    rw[List.getD_eq_getElem?_getD,ge_ o_];rfl
  · rw[List.getElem?_eq_none (by rw[yg];omega),List.getElem?_eq_none o_]
 rw[e]at this
 exact this

set_option maxHeartbeats 8000000
def qdt (P:List GPr):Nat→List Int
 |0=>[1000]
 |m+1=>P.foldl (fun l p=>if 1000+p.left∈l then p.right.foldl X5 l else l) (qdt P m)
def qJk (P:List GPr) (l:List Int):Bool:=P.all fun p=>decide (1000+p.left ∉ l) || p.right.all fun s=>decide (s∈l)
theorem JW: ∀(r l:List Int) (x:Int),x∈r.foldl X5 l↔x∈l∨x∈r
 |[],l,x=>by simp
 | s ::r,l,x=>by
   rw[List.foldl_cons,JW r,qcD,List.mem_cons]
   constructor
   · rintro ((h|h)|h)
     · exact Or.inl h
     · exact Or.inr (Or.inl h)
     · exact Or.inr (Or.inr h)
   · rintro (h|h|h)
     · exact Or.inl (Or.inl h)
     · exact Or.inl (Or.inr h)
     · exact Or.inr h
theorem X3: ∀(r l:List Int),Jw l→Jw (r.foldl X5 l)
 |[],l,h=>h
 |s::r,l,h=>by rw[List.foldl_cons];exact X3 r _ (KM h)
theorem YM (P:List GPr): ∀m,Jw (qdt P m)∧(1000:Int)∈qdt P m∧ ∀x∈qdt P m,Rchd P x
 |0=>⟨List.pairwise_singleton _ _,by simp[qdt],fun x hx=>by rw[qdt,List.mem_singleton]at hx;subst hx;exact .start⟩
 | m+1=>by
   have key: ∀(Q:List GPr),(∀p∈Q,p∈P)→ ∀l,(Jw l∧(1000:Int)∈l∧ ∀x∈l,Rchd P x)→let l':=Q.foldl (fun l p=>if 1000+p.left∈l then p.right.foldl X5 l else l) l
    Jw l'∧(1000:Int)∈l'∧ ∀x∈l',Rchd P x:=by
    intro Q
    induction Q with
    |nil=>exact fun _ l h=>h
    | cons p Q ih=>
      intro hQ l h
      rw[List.foldl_cons]
      refine ih (fun q hq=>hQ q (List.mem_cons_of_mem _ hq)) _ ?_
      by_cases hp:1000+p.left∈l
      · rw[if_pos hp]
        refine⟨X3 _ _ h.1,(JW _ _ _).2 (Or.inl h.2.1),fun x hx=>?_⟩
        rcases (JW _ _ _).1 hx with hx|hx
        · exact h.2.2 x hx
        · exact .step (h.2.2 _ hp) (hQ p (by simp)) hx
      · rw[if_neg hp];exact h
   exact key P (fun p hp=>hp) _ (YM P m)
theorem qmg {P:List GPr} {m:Nat} (h:qJk P (qdt P m)=true) (x:Int):x∈qdt P m↔Rchd P x:=by
 refine⟨(YM P m).2.2 x,fun hr=>?_⟩
 induction hr with
 |start=>exact(YM P m).2.1
 | @step p s _ hp hs ih=>
   have:=List.all_eq_true.1 h p hp
   rw[Bool.or_eq_true,decide_eq_true_eq]at this
   rcases this with this|this
   · exact absurd ih this
   · have:=List.all_eq_true.1 this s hs
     simpa using this
theorem qfd {g:Grammar} (hg:GOk g) {m:Nat} (h:qJk g.prods (qdt g.prods m)=true):Pure Tryz.prog 15 [g.V] (ints (qdt g.prods m)):=by
 have h1:=qaw hg
 have hnl:=hg.nn2;have htl:=hg.tk2
 obtain ⟨r1,r2,_⟩:=qmQ (t:=g.toks.length) (n:=g.nons.length) (P:=g.prods) ⟨hg.left,hg.right⟩ hg.nn o_
 rw[Vz r1 (YM g.prods m).1 fun x=>(r2 x).trans (qmg h x).symm]at h1
 exact h1
theorem qEL {α:Type} {b:Bool} {H:Nat→Option MObj} {f g:α→V}: ∀{l:List α},(∀x∈l,Er b H (f x) (g x))→ErL b H (l.map f) (l.map g)
 |[],_=>.nil
 |x::l,h=>.cons (h x (by simp)) (qEL fun y hy=>h y (List.mem_cons_of_mem _ hy))
abbrev l1V (a:List Nat):V:= .sl 1 true (a.map fun x:Nat=>V.int .i64 (x:Int))
abbrev l2V (a:List (List Nat)):V:= .sl 1 true (a.map l1V)
theorem qHN {b:Bool} {H:Nat→Option MObj} (l:List (List Nat)):Er b H (l2V l) (nnV l):=(qEL fun x _=>(qEL fun y _=>.int _ _).sl).sl
theorem qkp {b:Bool} {H:Nat→Option MObj} (l:List (List (List Nat))):Er b H (.sl 1 true (l.map l2V)) (.sl 1 false (l.map nnV)):=(qEL fun x _=>qHN x).sl

structure Sml (l:List (List (List Nat))):Prop where
 a:l.length≤100
 b: ∀a∈l,a.length≤100
 c: ∀a∈l,∀b∈a,b.length≤100
 d: ∀a∈l,∀b∈a,∀x∈b,x≤1000000
theorem qew (n:Nat):(nmC n).length≤26:=by have:=VX n;simp[nmC];omega
theorem Q5 {l:List (List (List Nat))} {r:Rule} (h:r∈(XU l).rules): ∃i al,al∈l∧r={left:=nmC i,alts:=al.map qhB}:=by
 obtain ⟨i,hi,rfl⟩:=List.mem_map.1 h
 have hi:=List.mem_range.1 hi
 refine⟨i,l[i],List.getElem_mem hi,?_⟩
 unfold qel;rw[List.getD_eq_getElem?_getD,ge_ hi];rfl
theorem qf3 {l:List (List (List Nat))} (h:Sml l):(XU l).Fits:=by
 refine⟨by simp[XU],by simp[XU],by simp[XU],fun d hd=>by simp[XU]at hd,?_,fun r hr=>?_⟩
 · show (qgf l l.length).length≤_
   rw[VU];have:=h.a;omega
 · obtain ⟨i,al,hal,rfl⟩:=Q5 hr
   have hn:=qew i
   refine⟨by dsimp only;omega,?_,fun a ha=>?_⟩
   · dsimp only;rw[List.length_map];have:=h.b al hal;omega
   · obtain ⟨b,hb,rfl⟩:=List.mem_map.1 ha
     have:=h.c al hal b hb
     refine⟨by simp[qhB];omega,fun p hp=>?_,by simp[qhB]⟩
     obtain ⟨x,_,rfl⟩:=List.mem_map.1 hp
     have hn:=qew x
     exact⟨by simp[Ke];omega,by simp[Ke]⟩
theorem qfb {l:List (List (List Nat))} (h:Sml l):Small (XU l):=by
 refine⟨by simp[XU],fun d hd=>by simp[XU]at hd,fun d hd=>by simp[XU]at hd,fun d hd=>by simp[XU]at hd,?_,fun r hr=>?_,fun r hr a ha=>?_,fun r hr a ha w hw hlit=>?_,fun r hr a ha hlit=>?_⟩
 · show (qgf l l.length).length≤_
   rw[VU];have:=h.a;omega
 · obtain ⟨i,al,hal,rfl⟩:=Q5 hr
   dsimp only;rw[List.length_map];have:=h.b al hal;omega
 · obtain ⟨i,al,hal,rfl⟩:=Q5 hr
   obtain ⟨b,hb,rfl⟩:=List.mem_map.1 ha
   have:=h.c al hal b hb
   simp[qhB];omega
 · obtain ⟨i,al,hal,rfl⟩:=Q5 hr
   obtain ⟨b,hb,rfl⟩:=List.mem_map.1 ha
   obtain ⟨x,_,rfl⟩:=List.mem_map.1 hw
   simp[Ke]at hlit
 · obtain ⟨i,al,hal,rfl⟩:=Q5 hr
   obtain ⟨b,hb,rfl⟩:=List.mem_map.1 ha
   simp[qhB]at hlit
theorem qjz {l:List (List (List Nat))} (h:Sml l) (hb:K4 (XU l)=true):Pure Tryz.prog 27 [.sl 1 false (l.map nnV)] (.tup [(kE (XU l)).V,.bool true]):=by
 have h1:=yh (qf3 h) (fun _=>qfb h)
 have h2:=Jq h.a h.b h.c h.d h1
 rw[hb]at h2
 exact h2
def wkL:List (List (List Nat)):=[[[1,1]],[[]],[[2]]]
def wkB (g:Grammar):Bool:=decide (g.nons.length=4) && qnw g.prods false (qhi g.prods false) && qnw g.prods true (qhi g.prods true) && upB g.prods 4 (qhi g.prods false) && qHA g.prods 4 (qhi g.prods false) (fun _=>false) [4,3,1,0] &&
 decide (kR 4 (qhi g.prods false) true=[1000,1001,1002]) && decide (kR 4 (qhi g.prods true) false=[1003]) && qJk g.prods (qdt g.prods 2) && decide (qdt g.prods 2=[1000,1001,1002])
theorem wk1:K4 (XU wkL)=true:=by decide+kernel
theorem wk2:wkB (kE (XU wkL))=true:=by decide+kernel
theorem qFM:Sml wkL:=⟨by decide,by decide,by decide,by decide⟩
theorem Jr:Pure Tryz.prog 6 [] (.bool true):=by
 refine pure_intro Tryz.func6 qHD qF5 (by show 0≤41;decide) ?_
 show ewp _ qKk _ _
 have hch:=qjz qFM wk1
 have hg:=gok wk1
 have hb:=wk2
 generalize kE (XU wkL)=g at *
 unfold wkB at hb
 simp only[Bool.and_eq_true,decide_eq_true_eq]at hb
 obtain ⟨⟨⟨⟨⟨⟨⟨⟨b1,b2⟩,b3⟩,b4⟩,b5⟩,b6⟩,b7⟩,b8⟩,b9⟩:=hb
 have hE:=KR b2
 have hE1:=KR b3
 rw[← b1]at b4 b5 b6 b7
 have he:=qnQ hg hE (qsa b4) b5
 obtain ⟨E',g1,g2⟩:=Zi (token:=false) hg
 rw[g1.uniq hE]at g2
 obtain ⟨E1',g3,g4⟩:=Zi (token:=true) hg
 rw[g3.uniq hE1]at g4
 have hnu:=VI hg g2
 have hva:=qeY hg g4
 have hre:=qfd hg b8
 rw[b6]at hnu
 rw[b7]at hva
 rw[b9]at hre
 have q1:=jo (a:=[1000,1001,1002]) (b:=[1000,1001,1002]) (by decide) (by decide)
 have q2:=jo (a:=[1003]) (b:=[1003]) (by decide) (by decide)
 have q3:=jo (a:=[4,3,1,0]) (b:=[4,3,1,0]) (by decide) (by decide)
 rw[decide_eq_true rfl]at q1 q2 q3
 repeat' with_reducible first
  |refine s_ ?_
  |simp -implicitDefEqProofs only[wZZ,seval]
  |apply jM (hp:=hch);with_unfolding_all exact qkp wkL
  |refine cq1 he qm ?_
  |refine cq1 hnu qm ?_
  |refine cq1 hva qm ?_
  |refine cq1 hre qm ?_
  |apply zN (hp:=q1);with_unfolding_all exact Z0 [1000,1001,1002];with_unfolding_all exact Z0 [1000,1001,1002]
  |apply zN (hp:=q2);with_unfolding_all exact Z0 [1003];with_unfolding_all exact Z0 [1003]
  |apply zN (hp:=q3);with_unfolding_all exact Z0 [4,3,1,0];with_unfolding_all exact Z0 [4,3,1,0]
  |refine t_ ?_
 all_goals refine qA rfl (Or.inr rfl) ?_
 all_goals(try simp -implicitDefEqProofs only[wL,seval])
 all_goals refine er_ ?_
 all_goals(try(with_reducible rfl))
end Go.Proofs
