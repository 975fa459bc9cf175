/- Part of a proof that a law of the given program answers true. -/
import Derived.Test.YtkcegflhobejmaaGreatDoorBJA
set_option maxRecDepth 20000
set_option linter.unusedSimpArgs false
set_option linter.unusedVariables false
set_option maxHeartbeats 4000000
namespace Go.Proofs
open Go.E
theorem qfx {α:Type} {f:Nat→List α} {k q:Nat} {l:List α} {b:Nat} (h: ∀k,(f k).length≤b) (hl:l.length≤b+1):(zb f k l q).length≤b+1:=by
 unfold zb;split
 · exact hl
 · have:=h q;omega
theorem kP (x:GrI) (n:Nat) (i:Nat): ∀k,((zT x n i).1 k).length≤i:=by
 induction i with
 |zero=>intro k;simp[zT]
 | succ i ih=>
   intro k
   unfold zT kE
   dsimp only
   split
   · have:=ih k;omega
   · refine qfx ih ?_
     rw[List.length_append];have:=ih ((x.rules.getD i []).getD 0 0 % (n:Int)).toNat
     simp only[List.length_cons,List.length_nil];omega
abbrev qRm:V:= .agg [.str [],.sl 4 true [],.sl 3 true [],.str []]
structure SrcAt (s:St) (x:GrI) (n xb rb sb hb rid:Nat) (dV:V) (vA:Nat→V) (als:Nat→List V) (q:(Nat→List Alt)×(Nat→Bool)):Prop where
 f1:s.f 1=.ptr xb 0 0
 f2:s.f 2=.ptr rb 0 0
 f3:s.f 3=vi n
 f4:s.f 4=.ptr sb 0 0
 f5:s.f 5=.msl hb 1 0 n
 hx:s.H xb=some (.own 5 [x.V] false)
 hr:s.H rb=some (.own 4 [qRm] false)
 hs:s.H sb=some (.own 4 [.agg [.str [],dV,.msl rid 3 0 n,.str []]] false)
 hh:s.H hb=some (.own 1 (QM n q.2) false)
 rw:RW s.H s.next rid n vA als q.1
 o1:xb<rb
 o2:rb<sb
 o3:sb<hb
 o4:hb<rid
theorem SrcAt.mono {s s':St} {x:GrI} {n xb rb sb hb rid:Nat} {dV:V} {vA:Nat→V} {als:Nat→List V} {q:(Nat→List Alt)×(Nat→Bool)} (h:SrcAt s x n xb rb sb hb rid dV vA als q)
 (hf: ∀t,1≤t→t≤5→s'.f t=s.f t) (hn:s.next≤s'.next) (hH: ∀j,j<s.next→s'.H j=s.H j):SrcAt s' x n xb rb sb hb rid dV vA als q:=by
 have:=h.rw.lr;have o1:=h.o1;have o2:=h.o2;have o3:=h.o3;have o4:=h.o4
 exact⟨by rw[hf 1 o_ o_];exact h.f1,by rw[hf 2 o_ o_];exact h.f2,by rw[hf 3 o_ o_];exact h.f3,by rw[hf 4 o_ o_];exact h.f4,by rw[hf 5 o_ o_];exact h.f5,
  by rw[hH _ o_];exact h.hx,by rw[hH _ o_];exact h.hr,by rw[hH _ o_];exact h.hs,by rw[hH _ o_];exact h.hh,h.rw.mono hn (hH _ o_) (fun k _ j _ hj=>hH j hj),o1,o2,o3,o4⟩
theorem qLb {s0:St} {x:GrI} {n xb rb sb hb rid:Nat} {dV:V} {vA:Nat→V} {als:Nat→List V} {Q:Exit→St→Prop} {E:EC} (hn:0<n) (hn4:n≤4) (hb1:x.rules.length≤1099511627776) (hb2: ∀l∈x.rules,l.length≤1099511627776) (hib:x.inner.length≤1099511627776)
 (h:SrcAt s0 x n xb rb sb hb rid dV vA als (zT x n 0))
 (hQ: ∀s' vA' als',SrcAt s' x n xb rb sb hb rid dV vA' als' (zT x n (min 9 x.rules.length))→ewp Tryz.prog E Q s'):ewp Tryz.prog (.seq VZ E) Q s0:=by
 have f1:=h.f1;have f2:=h.f2;have f3:=h.f3;have f4:=h.f4;have f5:=h.f5
 repeat' with_reducible first
  |refine s_ ?_
  |simp -implicitDefEqProofs only[wZZ,seval,f1,f2,f3,f4,f5]
 refine qi ?nx2 (fun(p:Nat×(Nat→V)×(Nat→List V)) s=>s.f 1=?v2_1∧s.f 2=?v2_2∧s.f 3=?v2_3∧s.f 4=?v2_4∧s.f 5=?v2_5∧s.f 7=vi p.1∧(p.1≤x.rules.length)∧(p.1≤9)∧(SrcAt s x n xb rb sb hb rid dV p.2.1 p.2.2 (zT x n p.1))) (fun p=>x.rules.length - p.1) ((0,vA,als)) wj_ (by refine⟨?_,?_,?_,?_,?_,?_,wo_,wo_,(by exact h.mono (fun t h1 h2=>by simp only[wL];rw[if_neg o_]) wg_ (fun j hj=>by simp only[wM]))⟩<;>first|(simp -implicitDefEqProofs only[wL,wM,wN,wX,seval,Option.some.injEq]<;>exact wt_)|rfl|exact⟨_,rfl⟩) ?_
 intro p s hnx ⟨g1,g2,g3,g4,g5,g7,k2_0,k2_1,k2_2⟩
 obtain ⟨i,vB,bls⟩:=p
 dsimp only at *
 have hS:=k2_2
 obtain ⟨q1,q2,q3,q4,q5,hx,hr,hs,hh,hW,o1,o2,o3,o4⟩:=hS
 have lr:=hW.lr
 have hzi:=w1_ i
 have hrl:=kP x n i
 have hst:zT x n (i+1)=kE x n i (zT x n i):=rfl
 unfold kE at hst
 by_cases hi:i<x.rules.length∧i<9
 · have hg:=getD_some (d:=[]) hi.1
   have hmem:(x.rules.getD i [])∈x.rules:=List.mem_of_getElem? hg
   have hlb:=hb2 _ hmem
   by_cases hl0:x.rules.getD i []=[]
   · rw[hl0]at hg
     simp only[if_pos hl0]at hst
     repeat' with_reducible first
      |refine s_ ?_
      |simp -implicitDefEqProofs only[wZZ,seval,g1,g2,g3,g4,g5,g7,f1,f2,f3,f4,f5,hx,hzi]
      |(first|apply qa|apply qJ|apply qK)<;>intro h h_<;>(try simp only[wD,reduceCtorEq]at h_)<;>(try exact wb_)<;>(try simp only[h])
      |refine t_ ?_
     refine⟨wk_,(i+1,vB,bls),o_,?_⟩
     refine⟨?_,?_,?_,?_,?_,?_,?_,?_,?_⟩
     iterate 6 (focus(first|(simp -implicitDefEqProofs only[wL,wM,wN,wX,seval,Option.some.injEq,g1,g2,g3,g4,g5,g7]<;>exact wt_)|rfl|exact⟨_,rfl⟩))
     all_goals try omega
     rw[hst]
     exact k2_2.mono (fun t h1 h2=>by simp only[wL];(repeat first|rw[if_pos rfl]|rw[if_neg o_])) wg_ (fun j hj=>by simp only[wM])
   · simp only[if_neg hl0]at hst
     have tail:=fun s0 x n i a xb Q=> @qRW s0 x n i a xb qab Q
     show ewp _ (.seq qga (.seq (.block 3 (.seq qgC (.seq (.reg qhe) (.seq (.reg qhj) (.seq (.reg qfP) (.seq KZ (.seq qae qab))))))) (.reg qgS))) _ _
     generalize (EC.seq KZ (.seq qae qab))=F at tail
     have hl1:0<(x.rules.getD i []).length:=List.length_pos_iff.2 hl0
     have hg0:=getD_some (d:=(0:Int)) hl1
     obtain ⟨k,hk⟩: ∃k:Nat,(x.rules.getD i []).getD 0 0 % (n:Int)=k:=⟨((x.rules.getD i []).getD 0 0 % (n:Int)).toNat,by have:=Int.emod_nonneg ((x.rules.getD i []).getD 0 0) (show (n:Int)≠0 by omega);omega⟩
     have hkn:k<n:=by have:=Int.emod_lt_of_pos ((x.rules.getD i []).getD 0 0) (show (0:Int)<n by omega);omega
     rw[hk,Int.toNat_natCast]at hst
     repeat' with_reducible first
      |refine s_ ?_
      |simp -implicitDefEqProofs only[wZZ,seval,g1,g2,g3,g4,g5,g7,f1,f2,f3,f4,f5,hx,hzi,hk]
      |(first|apply qa|apply qJ|apply qK)<;>intro h h_<;>(try simp only[wD,reduceCtorEq]at h_)<;>(try exact wb_)<;>(try simp only[h])
      |refine t_ ?_
      |refine qA we_ we_ (qZ wf_ wf_) ?_
     have hne6: ∀j,j<s.next→j≠s.next+26:=fun j hj=>by omega
     refine tail _ x n i (s.next+26) xb _ hn hn4 hi.1 hi.2 hl0 hlb hib (by(simp -implicitDefEqProofs only[wL,seval,q1])) (by(simp -implicitDefEqProofs only[wL,seval,q3])) (by(simp -implicitDefEqProofs only[wL,seval,g7])) (by(simp -implicitDefEqProofs only[wL,seval])) (by(simp -implicitDefEqProofs only[wL,seval])) (by(simp only[wM];(repeat first|rw[if_pos trivial]|rw[if_pos rfl]|rw[if_neg o_]));exact hx) wc_ wg_ wg_ o_ (fun s2 hA=>?_)
     obtain ⟨⟨vP,es,oA,GP,eP,hfr⟩,hpl,hfl,hhp,hnx2⟩:=hA
     simp only[wN]at hnx2 hfr
     have hhp2: ∀j,j<s.next→s2.H j=s.H j:=fun j hj=>by
      rw[hhp j wh_ o_]
      (simp only[wM];(repeat first|rw[if_pos trivial]|rw[if_pos rfl]|rw[if_neg o_]))
     have r1:s2.f 1=.ptr xb 0 0:=by rw[hfl 1 o_];(simp -implicitDefEqProofs only[wL,seval,q1])
     have r2:s2.f 2=.ptr rb 0 0:=by rw[hfl 2 o_];(simp -implicitDefEqProofs only[wL,seval,q2])
     have r3:s2.f 3=vi n:=by rw[hfl 3 o_];(simp -implicitDefEqProofs only[wL,seval,q3])
     have r4:s2.f 4=.ptr sb 0 0:=by rw[hfl 4 o_];(simp -implicitDefEqProofs only[wL,seval,q4])
     have r5:s2.f 5=.msl hb 1 0 n:=by rw[hfl 5 o_];(simp -implicitDefEqProofs only[wL,seval,q5])
     have r7:s2.f 7=vi i:=by rw[hfl 7 o_];(simp -implicitDefEqProofs only[wL,seval,g7])
     have r8:s2.f 8=vi k:=by rw[hfl 8 o_];(simp -implicitDefEqProofs only[wL,seval])
     have r9:s2.f 9=.ptr (s.next+26) 0 0:=by rw[hfl 9 o_];(simp -implicitDefEqProofs only[wL,seval])
     have hx2:=hx;rw[← hhp2 xb o_]at hx2
     have hr2:=hr;rw[← hhp2 rb o_]at hr2
     have hs2:=hs;rw[← hhp2 sb o_]at hs2
     have hh2:=hh;rw[← hhp2 hb o_]at hh2
     have hW2:RW s2.H s2.next rid n vB bls (zT x n i).1:=hW.mono o_ (hhp2 _ lr) (fun q _ j _ hj=>hhp2 j hj)
     have hR2:=hW2.ho
     have hG2:=hW2.gr k hkn
     have n1:=hW2.ne (fun f e=>by rw[hR2]at e;cases e) hkn (j:=rid)
     have n2:=hW2.ne (fun f e=>by rw[hs2]at e;cases e) hkn (j:=sb)
     have n3:=hW2.ne (fun f e=>by rw[hh2]at e;cases e) hkn (j:=hb)
     have n4:=hW2.ne (fun f e=>by rw[oA]at e;cases e) hkn (j:=s.next+26)
     have n5:=hW2.ne (fun f e=>by rw[hx2]at e;cases e) hkn (j:=xb)
     have n6:=hW2.ne (fun f e=>by rw[hr2]at e;cases e) hkn (j:=rb)
     have hll:=(hW.ep k hkn).len
     rw[List.length_map]at hll
     have hrk:=hrl k
     generalize Vl (x.rules.getD i []) n=pl at *
     repeat' with_reducible first
      |refine s_ ?_
      |simp -implicitDefEqProofs only[wZZ,seval,g1,g2,g3,g4,g5,g7,r1,r2,r3,r4,r5,r7,r8,r9,hpl,hx2,hs2,hh2,hR2,oA,hzi,qb n1,qb n2,qb n3,qb n4]
      |(first|apply qJ|apply qK)<;>intro h h_<;>(try simp only[wD,reduceCtorEq]at h_)<;>(try exact wb_)<;>(try simp only[h])
      |(refine ldB hkn ?_)
      |(refine stB hkn ?_)
      |apply qX rfl (hG2.mono (Nat.le_refl _) (fun id h1 h2=>by(try simp only[wM]);rw[if_neg (fun e=>absurd h1 (by rw[e];exact n3))]));exact qc.sl;(focus(simp only[wZ]<;>omega));(focus(unfold maxLen;simp only[wZ]<;>omega))
      |(refine Vy (xN hkn) rfl ?_)
      |apply VT (xN hkn);exact wu_;exact wu_;exact wu_;(focus(simp only[wZ]<;>omega))
      |refine t_ ?_
      |simp -implicitDefEqProofs (disch:=omega) only[w64,if_neg]
     all_goals
      refine⟨wg_,(i+1,zb vB k (.asl (s2.next+11+11) ((bls k).length+1) 6 (bls k++[.agg [vP,.str [],.bool false,vi 0,vi 0,vi 0]])),zb bls k (bls k++[.agg [vP,.str [],.bool false,vi 0,vi 0,vi 0]])),by dsimp only;omega,?_⟩
      dsimp only
      have e2:zT x n (i+1)=(zb (zT x n i).1 k ((zT x n i).1 k++[qbi (x.rules.getD i []) n x.inner i]),zb (zT x n i).2 k ((zT x n i).2 k || pl)):=hst
      rw[e2]
      refine⟨trivial,trivial,trivial,trivial,trivial,rfl,o_,o_,⟨by(simp -implicitDefEqProofs only[wL,seval,r1]),by(simp -implicitDefEqProofs only[wL,seval,r2]),by(simp -implicitDefEqProofs only[wL,seval,r3]),by(simp -implicitDefEqProofs only[wL,seval,r4]),by(simp -implicitDefEqProofs only[wL,seval,r5]),?_,?_,?_,?_,?_,o1,o2,o3,o4⟩⟩
      · ((try simp only[wM]);(repeat first|rw[if_pos trivial]|rw[if_pos rfl]|rw[if_neg o_]|rw[qb n1]|rw[qb n2]|rw[qb n3]|rw[qb n4]|rw[qb n5]|rw[qb n6]|simp only[wM]));exact hx2
      · ((try simp only[wM]);(repeat first|rw[if_pos trivial]|rw[if_pos rfl]|rw[if_neg o_]|rw[qb n1]|rw[qb n2]|rw[qb n3]|rw[qb n4]|rw[qb n5]|rw[qb n6]|simp only[wM]));exact hr2
      · ((try simp only[wM]);(repeat first|rw[if_pos trivial]|rw[if_pos rfl]|rw[if_neg o_]|rw[qb n1]|rw[qb n2]|rw[qb n3]|rw[qb n4]|rw[qb n5]|rw[qb n6]|simp only[wM]));exact hs2
      · ((try simp only[wM]);(repeat first|rw[if_pos trivial]|rw[if_pos rfl]|rw[if_neg o_]|rw[qb n1]|rw[qb n2]|rw[qb n3]|rw[qb n4]|rw[qb n5]|rw[qb n6]|simp only[wM]))
        refine congrArg some (congrArg (fun c=>MObj.own 1 (QM n (zb (zT x n i).2 k c)) false) ?_)
        simp[*]
      · refine hW2.put hkn (ErL.agg (.cons (GP.erL eP.up) (.cons (.str _) (.cons (.bool _) (.cons (.int _ _) (.cons (.int _ _) (.cons (.int _ _) .nil))))))) o_ o_ wg_ ?_ ?_ (fun q hq hqk j h1 h2=>?_)
        · ((try simp only[wM]);(repeat first|rw[if_pos trivial]|rw[if_pos rfl]|rw[if_neg o_]|rw[qb n1]|rw[qb n2]|rw[qb n3]|rw[qb n4]|rw[qb n5]|rw[qb n6]|simp only[wM]))
          rw[qaf hkn]
        · ((try simp only[wM]);(repeat first|rw[if_pos trivial]|rw[if_pos rfl]|rw[if_neg o_]|rw[qb n1]|rw[qb n2]|rw[qb n3]|rw[qb n4]|rw[qb n5]|rw[qb n6]|simp only[wM]))
        · have p1:j≠rid:=fun e=>by subst e;exact hW2.ne (fun f e=>by rw[hR2]at e;cases e) hq h1
          have p2:j≠hb:=fun e=>by subst e;exact hW2.ne (fun f e=>by rw[hh2]at e;cases e) hq h1
          have p3:gid (vB k)≠some j:=fun e=>hW2.sep q k hq hkn hqk j h1 e
          (try simp only[wM])
          repeat first|rw[if_pos trivial]|rw[if_pos rfl]|rw[if_neg o_]|rw[qb p3]|simp only[wM]
 · have e:i=min 9 x.rules.length:=o_
   rw[e]at k2_2
   repeat' with_reducible first
    |refine s_ ?_
    |simp -implicitDefEqProofs only[wZZ,seval,g1,g2,g3,g4,g5,g7,f1,f2,f3,f4,f5,hx]
    |(first|apply qa|apply qJ|apply qK)<;>intro h h_<;>(try simp only[wD,reduceCtorEq]at h_)<;>(try exact wb_)<;>(try simp only[h])
    |refine t_ ?_
   all_goals exact hQ _ vB bls (k2_2.mono (fun t h1 h2=>by simp only[wL];(repeat first|rw[if_pos rfl]|rw[if_neg o_])) wg_ (fun j hj=>by simp only[wM]))

theorem _root_.Go.E.ErL.map {α:Type} {b:Bool} {H:Nat→Option MObj} {f g:α→V} {l:List α} (h: ∀x∈l,Er b H (f x) (g x)):ErL b H (l.map f) (l.map g):=by
 induction l with
 |nil=>exact .nil
 |cons a l ih=>exact .cons (h a (by simp)) (ih fun x hx=>h x (List.mem_cons_of_mem _ hx))
theorem qRD {s0:St} {x:GrI} {n xb rb sb hb rid:Nat} {dV:V} {vA:Nat→V} {als:Nat→List V} {q:(Nat→List Alt)×(Nat→Bool)} {Q:Exit→St→Prop} {E:EC} (hn:0<n) (hn4:n≤4) (hq: ∀k,(q.1 k).length≤50)
 (h:SrcAt s0 x n xb rb sb hb rid dV vA als q)
 (hQ: ∀s' vA' als',SrcAt s' x n xb rb sb hb rid dV vA' als' (Jb x.bare q,q.2)→ewp Tryz.prog E Q s'):ewp Tryz.prog (.seq Vh E) Q s0:=by
 have f1:=h.f1;have f2:=h.f2;have f3:=h.f3;have f4:=h.f4;have f5:=h.f5
 have h0:(fun k=>if k<0 then Jb x.bare q k else q.1 k)=q.1:=by funext k;rw[if_neg o_]
 repeat' with_reducible first
  |refine s_ ?_
  |simp -implicitDefEqProofs only[wZZ,seval,f1,f2,f3,f4,f5]
 refine qi ?nx4 (fun(p:Nat×(Nat→V)×(Nat→List V)) s=>s.f 1=?v4_1∧s.f 2=?v4_2∧s.f 3=?v4_3∧s.f 4=?v4_4∧s.f 5=?v4_5∧s.f 13=vi p.1∧(p.1≤n)∧(SrcAt s x n xb rb sb hb rid dV p.2.1 p.2.2 (fun k=>if k<p.1 then Jb x.bare q k else q.1 k,q.2))) (fun p=>n - p.1) ((0,vA,als)) wj_ (by refine⟨?_,?_,?_,?_,?_,?_,wo_,(by rw[h0];exact h.mono (fun t h1 h2=>by simp only[wL];rw[if_neg o_]) wg_ (fun j hj=>by simp only[wM]))⟩<;>first|(simp -implicitDefEqProofs only[wL,wM,wN,wX,seval,Option.some.injEq]<;>exact wt_)|rfl|exact⟨_,rfl⟩) ?_
 intro p s hnx ⟨g1,g2,g3,g4,g5,g13,k4_0,k4_1⟩
 obtain ⟨i,vB,bls⟩:=p
 dsimp only at *
 have hS4:=k4_1
 obtain ⟨r1,r2,r3,r4,r5,hx2,hr2,hs2,hh2,hW2,o1,o2,o3,o4⟩:=k4_1
 have lr:=hW2.lr
 have hR2:=hW2.ho
 have hzi:=w1_ i
 by_cases hi:i<n
 · have hG2:=hW2.gr i hi
   have hep:=hW2.ep i hi
   have hll:=hep.len
   simp only[if_neg (Nat.lt_irrefl i),List.length_map]at hll hep
   have hq1:=hq i
   have n1:=hW2.ne (fun f e=>by rw[hR2]at e;cases e) hi (j:=rid)
   have n2:=hW2.ne (fun f e=>by rw[hs2]at e;cases e) hi (j:=sb)
   have n3:=hW2.ne (fun f e=>by rw[hh2]at e;cases e) hi (j:=hb)
   have n5:=hW2.ne (fun f e=>by rw[hx2]at e;cases e) hi (j:=xb)
   have n6:=hW2.ne (fun f e=>by rw[hr2]at e;cases e) hi (j:=rb)
   have hlen:=hG2.len
   have hlit:=jH (k:=i) o_ o_
   by_cases hc:q.1 i=[]∨(q.2 i=false∧x.bare=false)
   · have hfi:Jb x.bare q i=q.1 i++[{parts:=[{sym:=vz i}]}]:=by unfold Jb;rw[if_pos hc]
     have hfn:(fun k=>if k<i+1 then Jb x.bare q k else q.1 k)=zb (fun k=>if k<i then Jb x.bare q k else q.1 k) i ((fun k=>if k<i then Jb x.bare q k else q.1 k) i++[{parts:=[{sym:=vz i}]}]):=by
      funext k
      unfold zb
      by_cases e:k=i
      · subst e;simp only[if_true,if_pos (Nat.lt_succ_self k),if_neg (Nat.lt_irrefl k)];exact hfi
      · rw[if_neg e]
        show _=if k<i then Jb x.bare q k else q.1 k
        by_cases e2:k<i
        · rw[if_pos e2,if_pos o_]
        · rw[if_neg e2,if_neg o_]
     repeat' with_reducible first
      |refine s_ ?_
      |simp -implicitDefEqProofs only[wZZ,seval,g1,g2,g3,g4,g5,g13,f1,f2,f3,f4,f5,hx2,hs2,hh2,hR2,hlen,hzi,qb n1,qb n2,qb n3,qb n5,qb n6]
      |(first|apply qa|apply qJ|apply qK)<;>intro h h_<;>(try simp only[wD,reduceCtorEq]at h_)<;>(try exact wb_)<;>(try simp only[h])
      |(refine ldB hi ?_)
      |apply qX rfl (hG2.mono (Nat.le_refl _) (fun id h1 h2=>by(try simp only[wM]);(repeat rw[if_neg o_])));(focus(first|exact qc.sl|exact qc.asl));(focus(simp only[wZ]<;>omega));(focus(unfold maxLen;simp only[wZ]<;>omega))
      |(refine Vy (xN hi) rfl ?_)
      |apply VT (xN hi);exact wu_;exact wu_;exact wu_;(focus(simp only[wZ]<;>omega))
      |refine cq1 hlit qj ?_
      |refine t_ ?_
      |simp -implicitDefEqProofs (disch:=omega) only[w64,if_neg]
     all_goals first|(exfalso;rcases hc with hc|⟨hc1,hc2⟩;(first|(rw[hc]at hll;simp only[List.length_nil]at hll;omega));(simp_all;done))|skip
     all_goals
      refine⟨wg_,(i+1,zb vB i (.asl (s.next+3+20+15) ((bls i).length+1) 6 (bls i++[(.agg [.sl 6 true [({sym:=vz i}:Part).V],.str [],.bool false,vi 0,vi 0,vi 0])])),zb bls i (bls i++[(.agg [.sl 6 true [({sym:=vz i}:Part).V],.str [],.bool false,vi 0,vi 0,vi 0])])),by dsimp only;omega,?_⟩
      dsimp only
      rw[hfn]
      refine⟨trivial,trivial,trivial,trivial,trivial,rfl,o_,⟨by(simp -implicitDefEqProofs only[wL,seval,r1]),by(simp -implicitDefEqProofs only[wL,seval,r2]),by(simp -implicitDefEqProofs only[wL,seval,r3]),by(simp -implicitDefEqProofs only[wL,seval,r4]),by(simp -implicitDefEqProofs only[wL,seval,r5]),?_,?_,?_,?_,?_,o1,o2,o3,o4⟩⟩
      · ((try simp only[wM]);(repeat first|rw[if_pos trivial]|rw[if_pos rfl]|rw[if_neg o_]|rw[qb n1]|rw[qb n2]|rw[qb n3]|rw[qb n5]|rw[qb n6]|simp only[wM]));exact hx2
      · ((try simp only[wM]);(repeat first|rw[if_pos trivial]|rw[if_pos rfl]|rw[if_neg o_]|rw[qb n1]|rw[qb n2]|rw[qb n3]|rw[qb n5]|rw[qb n6]|simp only[wM]));exact hr2
      · ((try simp only[wM]);(repeat first|rw[if_pos trivial]|rw[if_pos rfl]|rw[if_neg o_]|rw[qb n1]|rw[qb n2]|rw[qb n3]|rw[qb n5]|rw[qb n6]|simp only[wM]));exact hs2
      · ((try simp only[wM]);(repeat first|rw[if_pos trivial]|rw[if_pos rfl]|rw[if_neg o_]|rw[qb n1]|rw[qb n2]|rw[qb n3]|rw[qb n5]|rw[qb n6]|simp only[wM]));exact hh2
      · refine hW2.put (a:={parts:=[{sym:=vz i}]}) hi (ErL.agg (.cons (ErL.sl (.cons qj .nil)) (.cons (.str _) (.cons (.bool _) (.cons (.int _ _) (.cons (.int _ _) (.cons (.int _ _) .nil))))))) o_ o_ wg_ ?_ ?_ (fun w hw hwk j h1 h2=>?_)
        · ((try simp only[wM]);(repeat first|rw[if_pos trivial]|rw[if_pos rfl]|rw[if_neg o_]|rw[qb n1]|rw[qb n2]|rw[qb n3]|rw[qb n5]|rw[qb n6]|simp only[wM]))
          rw[qaf hi]
        · ((try simp only[wM]);(repeat first|rw[if_pos trivial]|rw[if_pos rfl]|rw[if_neg o_]|rw[qb n1]|rw[qb n2]|rw[qb n3]|rw[qb n5]|rw[qb n6]|simp only[wM]))
        · have p1:j≠rid:=fun e=>by subst e;exact hW2.ne (fun f e=>by rw[hR2]at e;cases e) hw h1
          have p3:gid (vB i)≠some j:=fun e=>hW2.sep w i hw hi hwk j h1 e
          (try simp only[wM])
          repeat first|rw[if_pos trivial]|rw[if_pos rfl]|rw[if_neg o_]|rw[qb p3]|simp only[wM]
   · have hfn:(fun k=>if k<i+1 then Jb x.bare q k else q.1 k)=(fun k=>if k<i then Jb x.bare q k else q.1 k):=by
      funext k
      by_cases e2:k<i
      · rw[if_pos e2,if_pos o_]
      · rw[if_neg e2]
        by_cases e:k=i
        · subst e;rw[if_pos o_];unfold Jb;rw[if_neg hc]
        · rw[if_neg o_]
     repeat' with_reducible first
      |refine s_ ?_
      |simp -implicitDefEqProofs only[wZZ,seval,g1,g2,g3,g4,g5,g13,f1,f2,f3,f4,f5,hx2,hs2,hh2,hR2,hlen,hzi,qb n1,qb n2,qb n3,qb n5,qb n6]
      |(first|apply qa|apply qJ|apply qK)<;>intro h h_<;>(try simp only[wD,reduceCtorEq]at h_)<;>(try exact wb_)<;>(try simp only[h])
      |(refine ldB hi ?_)
      |apply qX rfl (hG2.mono (Nat.le_refl _) (fun id h1 h2=>by(try simp only[wM]);(repeat rw[if_neg o_])));(focus(first|exact qc.sl|exact qc.asl));(focus(simp only[wZ]<;>omega));(focus(unfold maxLen;simp only[wZ]<;>omega))
      |(refine Vy (xN hi) rfl ?_)
      |apply VT (xN hi);exact wu_;exact wu_;exact wu_;(focus(simp only[wZ]<;>omega))
      |refine cq1 hlit qj ?_
      |refine t_ ?_
      |simp -implicitDefEqProofs (disch:=omega) only[w64,if_neg]
     all_goals first
      |exact absurd (Or.inr ⟨by assumption,by assumption⟩) hc
      |exact absurd (Or.inl (List.length_eq_zero_iff.1 o_)) hc
      |skip
     all_goals
      refine⟨wg_,(i+1,vB,bls),by dsimp only;omega,?_⟩
      dsimp only
      rw[hfn]
      exact⟨trivial,trivial,trivial,trivial,trivial,rfl,o_,hS4.mono (fun t h1 h2=>by simp only[wL];(repeat first|rw[if_pos rfl]|rw[if_neg o_])) wg_ (fun j hj=>by simp only[wM])⟩
 · have e:i=n:=o_
   subst e
   have h9:SrcAt s x i xb rb sb hb rid dV vB bls (Jb x.bare q,q.2):=by
    refine⟨r1,r2,r3,r4,r5,hx2,hr2,hs2,hh2,⟨hW2.ho,hW2.lr,hW2.gr,fun k hk=>?_,hW2.sep,hW2.len⟩,o1,o2,o3,o4⟩
    have:=hW2.ep k hk
    simp only[if_pos hk]at this
    exact this
   repeat' with_reducible first
    |refine s_ ?_
    |simp -implicitDefEqProofs only[wZZ,seval,g1,g2,g3,g4,g5,g13,f1,f2,f3,f4,f5,hx2]
   exact hQ _ vB bls (h9.mono (fun t h1 h2=>by simp only[wL];(repeat first|rw[if_pos rfl]|rw[if_neg o_])) wg_ (fun j hj=>by simp only[wM]))

instance grI_cl (x:GrI):Cl x.V:=⟨fun b H=>ErL.agg (.cons (.int _ _) (.cons qj (.cons qj (.cons qj (.cons (.bool _) .nil)))))⟩
def RuI (H:Nat→Option MObj) (hb next i:Nat) (v:V):Prop:=(i=0∧v=.sl 3 true [])∨ ∃rid,v=.msl rid 3 0 i∧0<i∧H rid=some (.own 3 (qaD i (fun _=>.sl 6 true [])) false)∧hb<rid∧rid<next
theorem Zr {x:GrI} (hb1:x.rules.length≤1099511627776) (hb2: ∀l∈x.rules,l.length≤1099511627776) (hib:x.inner.length≤1099511627776) (hlb:x.levels.length≤1099511627776):Pure Tryz.prog 12 [x.V] ((jf x).V):=by
 refine pure_intro Tryz.func12 nm_ qvV (by show 1≤217;decide) ?_
 show ewp _ qgw _ _
 have hdec:=vI hlb
 obtain ⟨n,hn⟩: ∃n:Nat,1+x.nons % 4=n:=⟨(1+x.nons % 4).toNat,o_⟩
 have hnN:vv x=n:=by unfold vv;rw[hn];rfl
 have hn0:0<n:=o_
 have hn4:n≤4:=o_
 have hz1:IntKind.i64.wrap (1+x.nons % 4)=(n:Int):=by rw[wrap64 o_ o_];exact hn
 have hbol:=qgB n
 have hsrc:jf x={decls:=yZ x.levels,rules:=(List.range n).map fun(k:Nat)=>{left:=VR k,alts:=Jb x.bare (zT x n (min 9 x.rules.length)) k}}:=by unfold jf;rw[hnN]
 show ewp _ (.seq (.reg qHv) (.seq (.reg qCY) (.seq (.reg qH0) (.seq (.reg qHh) (.seq qhm (.seq VZ (.seq Vh (.seq (.reg qap) .ret)))))))) _ _
 have tail: ∀s rid,SrcAt s x n 0 1 11 14 rid (.sl 4 false ((yZ x.levels).map Decl.V)) (fun _=>.sl 6 true []) (fun _=>[]) (zT x n 0)→ewp Tryz.prog (.seq VZ (.seq Vh (.seq (.reg qap) .ret))) (ja e12 (jf x).V) s:=by
  intro s rid hS
  refine qLb hn0 hn4 hb1 hb2 hib hS fun s1 vB bls h1=>?_
  refine qRD hn0 hn4 (fun k=>Nat.le_trans (kP x n _ k) o_) h1 fun s2 vC cls h2=>?_
  obtain ⟨r1,r2,r3,r4,r5,hx2,hr2,hs2,hh2,hW2,o1,o2,o3,o4⟩:=h2
  have lr:=hW2.lr
  repeat' with_reducible first
   |refine s_ ?_
   |simp -implicitDefEqProofs only[wZZ,seval,r1,r2,r3,r4,r5,hx2,hs2,hh2,hr2]
   |refine t_ ?_
  refine qdk (t:=2) (n:=4) (id:=1) (v:= .agg [.str [],.sl 4 false ((yZ x.levels).map Decl.V),.msl rid 3 0 n,.str []]) (ro:=false) rfl (Or.inr rfl) (by(simp -implicitDefEqProofs only[wL,seval,r2])) wc_ rfl ?_
  rw[hsrc]
  refine ErL.agg (.cons (.str _) (.cons qj (.cons ?_ (.cons (.str _) .nil))))
  have hm:((List.range n).map fun(k:Nat)=>({left:=VR k,alts:=Jb x.bare (zT x n (min 9 x.rules.length)) k}:Rule)).map Rule.V=(List.range n).map fun(k:Nat)=>({left:=VR k,alts:=Jb x.bare (zT x n (min 9 x.rules.length)) k}:Rule).V:=List.map_map
  show Er true _ (.msl rid 3 0 n) (.sl 3 false (((List.range n).map fun(k:Nat)=>({left:=VR k,alts:=Jb x.bare (zT x n (min 9 x.rules.length)) k}:Rule)).map Rule.V))
  rw[hm]
  refine YG (es:=qaD n vC) (ro:=false) (by(simp only[wM];(repeat first|rw[if_pos trivial]|rw[if_pos rfl]|rw[if_neg o_]));exact hW2.ho) ?_ (kU n vC)
  exact ErL.map fun k hk=>ErL.agg (.cons (.str _) (.cons ((hW2.gr k (List.mem_range.1 hk)).erL (hW2.ep k (List.mem_range.1 hk)).up) (.cons (.int _ _) .nil)))
 generalize EC.seq VZ (.seq Vh (.seq (.reg qap) .ret))=F at tail
 repeat' with_reducible first
  |refine s_ ?_
  |simp -implicitDefEqProofs only[wZZ,seval,hz1]
  |refine t_ ?_
  |apply qpN;exact wf_;exact wf_;(focus(unfold maxLen;first|omega|(simp only[wZ]<;>omega)))
  |refine qA we_ we_ (qZ wf_ wf_) ?_
  |refine zf we_ (vI wf_) ?_
 rw[hbol]
 refine qi ?nx1 (fun(i:Nat) s=>s.f 1=?v1_1∧s.f 2=?v1_2∧s.f 3=?v1_3∧s.f 4=?v1_4∧s.f 5=?v1_5∧s.H 0=some (MObj.own 5 [x.V] false)∧s.H 1=some (MObj.own 4 [qRm] false)∧s.H 14=some (MObj.own 1 (QM n (fun _=>false)) false)∧s.f 6=vi i∧(i≤n)∧((∃v,s.H 11=some (MObj.own 4 [.agg [.str [],.sl 4 false ((yZ x.levels).map Decl.V),v,.str []]] false)∧RuI s.H 14 s.next i v))) (fun i=>n - i) (0) wj_ (by refine⟨?_,?_,?_,?_,?_,?_,?_,?_,?_,wo_,(by exact⟨.sl 3 true [],by(simp only[wM];(repeat first|rw[if_pos trivial]|rw[if_pos rfl]|rw[if_neg o_])),Or.inl ⟨rfl,rfl⟩⟩)⟩<;>first|(simp -implicitDefEqProofs only[wL,wM,wN,wX,seval,Option.some.injEq]<;>exact wt_)|rfl|exact⟨_,rfl⟩) ?_
 intro i s hnx ⟨g1,g2,g3,g4,g5,o0,o1,o2,g6,k1_0,k1_1⟩
 obtain ⟨v,h11,hR⟩:=k1_1
 have hzi:=w1_ i
 by_cases hi:i<n
 · have hnon:=yL (k:=i) o_ o_
   rcases hR with ⟨rfl,rfl⟩|⟨rid,rfl,hi0,hr,l1,l2⟩
   · repeat' with_reducible first
      |refine s_ ?_
      |simp -implicitDefEqProofs only[wZZ,seval,g1,g2,g3,g4,g5,g6,o0,o1,o2,h11,hzi]
      |apply qa<;>intro h h_<;>(try simp only[wD,reduceCtorEq]at h_)<;>(try exact wb_)<;>(try simp only[h])
      |(refine VB rfl qc.sl (by simp only[wZ]<;>omega) (by unfold maxLen;simp only[wZ]<;>omega) ?_)
      |refine t_ ?_
      |refine zf we_ (yL wf_ wf_) ?_
      |simp -implicitDefEqProofs (disch:=omega) only[w64,if_neg]
     refine⟨wg_,1,o_,trivial,trivial,trivial,trivial,trivial,trivial,trivial,trivial,rfl,o_,_,rfl,Or.inr ⟨s.next+3+6,rfl,o_,?_,o_,wg_⟩⟩
     (simp only[wM];(repeat first|rw[if_pos trivial]|rw[if_pos rfl]|rw[if_neg o_]))
     rfl
   · have hrl:=kU i (fun _=>.sl 6 true [])
     repeat' with_reducible first
      |refine s_ ?_
      |simp -implicitDefEqProofs only[wZZ,seval,g1,g2,g3,g4,g5,g6,o0,o1,o2,h11,hzi]
      |apply qa<;>intro h h_<;>(try simp only[wD,reduceCtorEq]at h_)<;>(try exact wb_)<;>(try simp only[h])
      |refine cq1 hnon qj ?_
      |(refine Qu (es:=qaD i (fun _=>.sl 6 true [])) rfl (by simp only[wM];exact hr) hrl.symm qc.sl (by simp only[wZ]<;>omega) (by unfold maxLen;simp only[wZ]<;>omega) ?_)
      |refine t_ ?_
      |simp -implicitDefEqProofs (disch:=omega) only[w64,if_neg]
     rw[hrl,← qce i (fun _=>.sl 6 true [])]
     refine⟨wg_,i+1,o_,trivial,trivial,trivial,trivial,trivial,trivial,trivial,trivial,rfl,o_,_,rfl,Or.inr ⟨s.next+3+6,rfl,o_,?_,o_,wg_⟩⟩
     (simp only[wM];(repeat first|rw[if_pos trivial]|rw[if_pos rfl]|rw[if_neg o_]))
 · have e:i=n:=o_
   subst e
   rcases hR with ⟨h0,_⟩|⟨rid,rfl,hi0,hr,l1,l2⟩
   · omega
   repeat' with_reducible first
    |refine s_ ?_
    |simp -implicitDefEqProofs only[wZZ,seval,g1,g2,g3,g4,g5,g6,o0,o1,o2,h11,hzi]
   refine tail _ rid ⟨by(simp -implicitDefEqProofs only[wL,seval,g1]),by(simp -implicitDefEqProofs only[wL,seval,g2]),by(simp -implicitDefEqProofs only[wL,seval,g3]),by(simp -implicitDefEqProofs only[wL,seval,g4]),by(simp -implicitDefEqProofs only[wL,seval,g5]),by(simp only[wM];(repeat first|rw[if_pos trivial]|rw[if_pos rfl]|rw[if_neg o_]));exact o0,by(simp only[wM];(repeat first|rw[if_pos trivial]|rw[if_pos rfl]|rw[if_neg o_]));exact o1,by(simp only[wM];(repeat first|rw[if_pos trivial]|rw[if_pos rfl]|rw[if_neg o_]));exact h11,by(simp only[wM];(repeat first|rw[if_pos trivial]|rw[if_pos rfl]|rw[if_neg o_]));exact o2,⟨by(simp only[wM];(repeat first|rw[if_pos trivial]|rw[if_pos rfl]|rw[if_neg o_]));exact hr,wg_,fun k hk=>Gr.nil,fun k hk=>.nil,fun j k _ _ _=>Sep.slL,fun k _=>by simp⟩,o_,o_,o_,o_⟩
end Go.Proofs
