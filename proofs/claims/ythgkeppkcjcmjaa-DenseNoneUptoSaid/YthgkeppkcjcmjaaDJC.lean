/- Part of a proof that a law of the given program answers true. -/
import Derived.Test.YthgkeppkcjcmjaaDJB
set_option linter.unusedSimpArgs false
set_option linter.unusedVariables false
set_option maxHeartbeats 4000000
namespace Go.Proofs
open Go.E
theorem _root_.Go.E.ErL.map {α:Type} {b:Bool} {H:Nat→Option MObj} {f g:α→V} {l:List α} (h: ∀x∈l,Er b H (f x) (g x)):ErL b H (l.map f) (l.map g):=by
 induction l with
 |nil=>exact .nil
 |cons a l ih=>exact .cons (h a (by simp)) (ih fun x hx=>h x (List.mem_cons_of_mem _ hx))
theorem qP1 {s0:St} {x:GrI} {n xb rb sb hb rid:Nat} {dV:V} {vA:Nat→V} {als:Nat→List V} {q:(Nat→List Alt)×(Nat→Bool)} {Q:Exit→St→Prop} {E:EC} (hn:0<n) (hn4:n≤4) (hq: ∀k,(q.1 k).length≤50)
 (h:SrcAt s0 x n xb rb sb hb rid dV vA als q)
 (hQ: ∀s' vA' als',SrcAt s' x n xb rb sb hb rid dV vA' als' (X0 x.bare q,q.2)→ewp Try.prog E Q s'):ewp Try.prog (.seq qah E) Q s0:=by
 have f1:=h.f1;have f2:=h.f2;have f3:=h.f3;have f4:=h.f4;have f5:=h.f5
 have h0:(fun k=>if k<0 then X0 x.bare q k else q.1 k)=q.1:=by funext k;rw[if_neg (by omega)]
 repeat' with_reducible first
  |refine s_ ?_
  |simp only[wZZ,seval,f1,f2,f3,f4,f5]
 refine qd ?nx4 (fun(p:Nat×(Nat→V)×(Nat→List V)) s=>s.f 1=?v4_1∧s.f 2=?v4_2∧s.f 3=?v4_3∧s.f 4=?v4_4∧s.f 5=?v4_5∧s.f 13=vi p.1∧(p.1≤n)∧(SrcAt s x n xb rb sb hb rid dV p.2.1 p.2.2 (fun k=>if k<p.1 then X0 x.bare q k else q.1 k,q.2))) (fun p=>n - p.1) ((0,vA,als)) wj_ (by refine⟨?_,?_,?_,?_,?_,?_,wo_,(by rw[h0];exact h.mono (fun t h1 h2=>by simp only[wL];rw[if_neg (by omega)]) (by((try simp only[wN])<;>omega)) (fun j hj=>by simp only[wM]))⟩<;>first|(simp only[wL,wM,wN,wX,seval,Option.some.injEq]<;>exact wt_)|rfl|exact⟨_,rfl⟩) ?_
 intro p s hnx ⟨g1,g2,g3,g4,g5,g13,k4_0,k4_1⟩
 obtain ⟨i,vB,bls⟩:=p
 dsimp only at *
 have hS4:=k4_1
 obtain ⟨r1,r2,r3,r4,r5,hx2,hr2,hs2,hh2,hW2,o1,o2,o3,o4⟩:=k4_1
 have lr:=hW2.lr
 have hR2:=hW2.ho
 have hzi:=w1_ i
 by_cases hi:i<n
 · have hG2:=hW2.gr i hi
   have hep:=hW2.ep i hi
   have hll:=hep.len
   simp only[if_neg (Nat.lt_irrefl i),List.length_map]at hll hep
   have hq1:=hq i
   have n1:=hW2.ne (fun f e=>by rw[hR2]at e;cases e) hi (j:=rid)
   have n2:=hW2.ne (fun f e=>by rw[hs2]at e;cases e) hi (j:=sb)
   have n3:=hW2.ne (fun f e=>by rw[hh2]at e;cases e) hi (j:=hb)
   have n5:=hW2.ne (fun f e=>by rw[hx2]at e;cases e) hi (j:=xb)
   have n6:=hW2.ne (fun f e=>by rw[hr2]at e;cases e) hi (j:=rb)
   have hlen:=hG2.len
   have hlit:=jG (k:=i) (by omega) (by omega)
   by_cases hc:q.1 i=[]∨(q.2 i=false∧x.bare=false)
   · have hfi:X0 x.bare q i=q.1 i++[{parts:=[{sym:=kG i}]}]:=by unfold X0;rw[if_pos hc]
     have hfn:(fun k=>if k<i+1 then X0 x.bare q k else q.1 k)=qN (fun k=>if k<i then X0 x.bare q k else q.1 k) i ((fun k=>if k<i then X0 x.bare q k else q.1 k) i++[{parts:=[{sym:=kG i}]}]):=by
      funext k
      unfold qN
      by_cases e:k=i
      · subst e;simp only[if_true,if_pos (Nat.lt_succ_self k),if_neg (Nat.lt_irrefl k)];exact hfi
      · rw[if_neg e]
        show _=if k<i then X0 x.bare q k else q.1 k
        by_cases e2:k<i
        · rw[if_pos e2,if_pos (by omega)]
        · rw[if_neg e2,if_neg (by omega)]
     repeat' with_reducible first
      |refine s_ ?_
      |simp only[wZZ,seval,g1,g2,g3,g4,g5,g13,f1,f2,f3,f4,f5,hx2,hs2,hh2,hR2,hlen,hzi,qc n1,qc n2,qc n3,qc n5,qc n6]
      |(first|apply qa|apply qh|apply qg)<;>intro h h_<;>(try simp only[wD,reduceCtorEq]at h_)<;>(try exact wb_)<;>(try simp only[h])
      |(refine ldB hi ?_)
      |apply qQ rfl (hG2.mono (Nat.le_refl _) (fun id h1 h2=>by(try simp only[wM]);(repeat rw[if_neg (by omega)])));(focus(first|exact qI.sl|exact qI.asl));(focus(simp only[wZ]<;>omega));(focus(unfold maxLen;simp only[wZ]<;>omega))
      |(refine qaC (x9 hi) rfl ?_)
      |apply qaw (x9 hi);exact wu_;exact wu_;exact wu_;(focus(simp only[wZ]<;>omega))
      |refine cq1 hlit qb ?_
      |refine t_ ?_
      |simp(disch:=omega) only[w64,if_neg]
     all_goals first|(exfalso;rcases hc with hc|⟨hc1,hc2⟩;(first|(rw[hc]at hll;simp only[List.length_nil]at hll;omega));(simp_all;done))|skip
     all_goals
      refine⟨by((try simp only[wN])<;>omega),(i+1,qN vB i (.asl (s.next+3+20+15) ((bls i).length+1) 6 (bls i++[(.agg [.sl 6 true [({sym:=kG i}:Part).V],.str [],.bool false,vi 0,vi 0,vi 0])])),qN bls i (bls i++[(.agg [.sl 6 true [({sym:=kG i}:Part).V],.str [],.bool false,vi 0,vi 0,vi 0])])),by dsimp only;omega,?_⟩
      dsimp only
      rw[hfn]
      refine⟨trivial,trivial,trivial,trivial,trivial,rfl,by omega,⟨by(simp only[wL,seval,r1]),by(simp only[wL,seval,r2]),by(simp only[wL,seval,r3]),by(simp only[wL,seval,r4]),by(simp only[wL,seval,r5]),?_,?_,?_,?_,?_,o1,o2,o3,o4⟩⟩
      · ((try simp only[wM]);(repeat first|rw[if_pos trivial]|rw[if_pos rfl]|rw[if_neg (by omega)]|rw[qc n1]|rw[qc n2]|rw[qc n3]|rw[qc n5]|rw[qc n6]|simp only[wM]));exact hx2
      · ((try simp only[wM]);(repeat first|rw[if_pos trivial]|rw[if_pos rfl]|rw[if_neg (by omega)]|rw[qc n1]|rw[qc n2]|rw[qc n3]|rw[qc n5]|rw[qc n6]|simp only[wM]));exact hr2
      · ((try simp only[wM]);(repeat first|rw[if_pos trivial]|rw[if_pos rfl]|rw[if_neg (by omega)]|rw[qc n1]|rw[qc n2]|rw[qc n3]|rw[qc n5]|rw[qc n6]|simp only[wM]));exact hs2
      · ((try simp only[wM]);(repeat first|rw[if_pos trivial]|rw[if_pos rfl]|rw[if_neg (by omega)]|rw[qc n1]|rw[qc n2]|rw[qc n3]|rw[qc n5]|rw[qc n6]|simp only[wM]));exact hh2
      · refine hW2.put (a:={parts:=[{sym:=kG i}]}) hi (ErL.agg (.cons (ErL.sl (.cons qb .nil)) (.cons (.str _) (.cons (.bool _) (.cons (.int _ _) (.cons (.int _ _) (.cons (.int _ _) .nil))))))) (by omega) (by omega) (by((try simp only[wN])<;>omega)) ?_ ?_ (fun w hw hwk j h1 h2=>?_)
        · ((try simp only[wM]);(repeat first|rw[if_pos trivial]|rw[if_pos rfl]|rw[if_neg (by omega)]|rw[qc n1]|rw[qc n2]|rw[qc n3]|rw[qc n5]|rw[qc n6]|simp only[wM]))
          rw[qcN hi]
        · ((try simp only[wM]);(repeat first|rw[if_pos trivial]|rw[if_pos rfl]|rw[if_neg (by omega)]|rw[qc n1]|rw[qc n2]|rw[qc n3]|rw[qc n5]|rw[qc n6]|simp only[wM]))
        · have p1:j≠rid:=fun e=>by subst e;exact hW2.ne (fun f e=>by rw[hR2]at e;cases e) hw h1
          have p3:gid (vB i)≠some j:=fun e=>hW2.sep w i hw hi hwk j h1 e
          (try simp only[wM])
          repeat first|rw[if_pos trivial]|rw[if_pos rfl]|rw[if_neg (by omega)]|rw[qc p3]|simp only[wM]
   · have hfn:(fun k=>if k<i+1 then X0 x.bare q k else q.1 k)=(fun k=>if k<i then X0 x.bare q k else q.1 k):=by
      funext k
      by_cases e2:k<i
      · rw[if_pos e2,if_pos (by omega)]
      · rw[if_neg e2]
        by_cases e:k=i
        · subst e;rw[if_pos (by omega)];unfold X0;rw[if_neg hc]
        · rw[if_neg (by omega)]
     repeat' with_reducible first
      |refine s_ ?_
      |simp only[wZZ,seval,g1,g2,g3,g4,g5,g13,f1,f2,f3,f4,f5,hx2,hs2,hh2,hR2,hlen,hzi,qc n1,qc n2,qc n3,qc n5,qc n6]
      |(first|apply qa|apply qh|apply qg)<;>intro h h_<;>(try simp only[wD,reduceCtorEq]at h_)<;>(try exact wb_)<;>(try simp only[h])
      |(refine ldB hi ?_)
      |apply qQ rfl (hG2.mono (Nat.le_refl _) (fun id h1 h2=>by(try simp only[wM]);(repeat rw[if_neg (by omega)])));(focus(first|exact qI.sl|exact qI.asl));(focus(simp only[wZ]<;>omega));(focus(unfold maxLen;simp only[wZ]<;>omega))
      |(refine qaC (x9 hi) rfl ?_)
      |apply qaw (x9 hi);exact wu_;exact wu_;exact wu_;(focus(simp only[wZ]<;>omega))
      |refine cq1 hlit qb ?_
      |refine t_ ?_
      |simp(disch:=omega) only[w64,if_neg]
     all_goals first
      |exact absurd (Or.inr ⟨by assumption,by assumption⟩) hc
      |exact absurd (Or.inl (List.length_eq_zero_iff.1 (by omega))) hc
      |skip
     all_goals
      refine⟨by((try simp only[wN])<;>omega),(i+1,vB,bls),by dsimp only;omega,?_⟩
      dsimp only
      rw[hfn]
      exact⟨trivial,trivial,trivial,trivial,trivial,rfl,by omega,hS4.mono (fun t h1 h2=>by simp only[wL];(repeat first|rw[if_pos rfl]|rw[if_neg (by omega)])) (by((try simp only[wN])<;>omega)) (fun j hj=>by simp only[wM])⟩
 · have e:i=n:=by omega
   subst e
   have h9:SrcAt s x i xb rb sb hb rid dV vB bls (X0 x.bare q,q.2):=by
    refine⟨r1,r2,r3,r4,r5,hx2,hr2,hs2,hh2,⟨hW2.ho,hW2.lr,hW2.gr,fun k hk=>?_,hW2.sep,hW2.len⟩,o1,o2,o3,o4⟩
    have:=hW2.ep k hk
    simp only[if_pos hk]at this
    exact this
   repeat' with_reducible first
    |refine s_ ?_
    |simp only[wZZ,seval,g1,g2,g3,g4,g5,g13,f1,f2,f3,f4,f5,hx2]
   exact hQ _ vB bls (h9.mono (fun t h1 h2=>by simp only[wL];(repeat first|rw[if_pos rfl]|rw[if_neg (by omega)])) (by((try simp only[wN])<;>omega)) (fun j hj=>by simp only[wM]))

instance grI_cl (x:GrI):Cl x.V:=⟨fun b H=>ErL.agg (.cons (.int _ _) (.cons qb (.cons qb (.cons qb (.cons (.bool _) .nil)))))⟩
def RuI (H:Nat→Option MObj) (hb next i:Nat) (v:V):Prop:=(i=0∧v=.sl 3 true [])∨ ∃rid,v=.msl rid 3 0 i∧0<i∧H rid=some (.own 3 (qcz i (fun _=>.sl 6 true [])) false)∧hb<rid∧rid<next
theorem zL {x:GrI} (hb1:x.rules.length≤1099511627776) (hb2: ∀l∈x.rules,l.length≤1099511627776) (hib:x.inner.length≤1099511627776) (hlb:x.levels.length≤1099511627776):Pure Try.prog 13 [x.V] ((qC x).V):=by
 refine pure_intro Try.func13 quy qDd (by show 1≤217;decide) ?_
 show ewp _ qid _ _
 have hdec:=Qe hlb
 obtain ⟨n,hn⟩: ∃n:Nat,1+x.nons % 4=n:=⟨(1+x.nons % 4).toNat,by omega⟩
 have hnN:kI x=n:=by unfold kI;rw[hn];rfl
 have hn0:0<n:=by omega
 have hn4:n≤4:=by omega
 have hz1:IntKind.i64.wrap (1+x.nons % 4)=(n:Int):=by rw[wrap64 (by omega) (by omega)];exact hn
 have hbol:=qiA n
 have hsrc:qC x={decls:=ko x.levels,rules:=(List.range n).map fun(k:Nat)=>{left:=K7 k,alts:=X0 x.bare (zG x n (min 9 x.rules.length)) k}}:=by unfold qC;rw[hnN]
 show ewp _ (.seq (.reg qF0) (.seq (.reg qwP) (.seq (.reg qwt) (.seq (.reg qvP) (.seq qiD (.seq KX (.seq qah (.seq (.reg qbZ) .ret)))))))) _ _
 have tail: ∀s rid,SrcAt s x n 0 1 11 14 rid (.sl 4 false ((ko x.levels).map Decl.V)) (fun _=>.sl 6 true []) (fun _=>[]) (zG x n 0)→ewp Try.prog (.seq KX (.seq qah (.seq (.reg qbZ) .ret))) (zq e13 (qC x).V) s:=by
  intro s rid hS
  refine qAt hn0 hn4 hb1 hb2 hib hS fun s1 vB bls h1=>?_
  refine qP1 hn0 hn4 (fun k=>Nat.le_trans (Qj x n _ k) (by omega)) h1 fun s2 vC cls h2=>?_
  obtain ⟨r1,r2,r3,r4,r5,hx2,hr2,hs2,hh2,hW2,o1,o2,o3,o4⟩:=h2
  have lr:=hW2.lr
  repeat' with_reducible first
   |refine s_ ?_
   |simp only[wZZ,seval,r1,r2,r3,r4,r5,hx2,hs2,hh2,hr2]
   |refine t_ ?_
  refine QN (t:=2) (n:=4) (id:=1) (v:= .agg [.str [],.sl 4 false ((ko x.levels).map Decl.V),.msl rid 3 0 n,.str []]) (ro:=false) rfl (Or.inr rfl) (by(simp only[wL,seval,r2])) wc_ rfl ?_
  rw[hsrc]
  refine ErL.agg (.cons (.str _) (.cons qb (.cons ?_ (.cons (.str _) .nil))))
  have hm:((List.range n).map fun(k:Nat)=>({left:=K7 k,alts:=X0 x.bare (zG x n (min 9 x.rules.length)) k}:Rule)).map Rule.V=(List.range n).map fun(k:Nat)=>({left:=K7 k,alts:=X0 x.bare (zG x n (min 9 x.rules.length)) k}:Rule).V:=List.map_map
  show Er true _ (.msl rid 3 0 n) (.sl 3 false (((List.range n).map fun(k:Nat)=>({left:=K7 k,alts:=X0 x.bare (zG x n (min 9 x.rules.length)) k}:Rule)).map Rule.V))
  rw[hm]
  refine YJ (es:=qcz n vC) (ro:=false) (by(simp only[wM];(repeat first|rw[if_pos trivial]|rw[if_pos rfl]|rw[if_neg (by omega)]));exact hW2.ho) ?_ (Qt n vC)
  exact ErL.map fun k hk=>ErL.agg (.cons (.str _) (.cons ((hW2.gr k (List.mem_range.1 hk)).erL (hW2.ep k (List.mem_range.1 hk)).up) (.cons (.int _ _) .nil)))
 generalize EC.seq KX (.seq qah (.seq (.reg qbZ) .ret))=F at tail
 repeat' with_reducible first
  |refine s_ ?_
  |simp only[wZZ,seval,hz1]
  |refine t_ ?_
  |apply qdx;exact wf_;exact wf_;(focus(unfold maxLen;first|omega|(simp only[wZ]<;>omega)))
  |refine jA we_ we_ (qB wf_ wf_) ?_
  |refine xS we_ (Qe wf_) ?_
 rw[hbol]
 refine qd ?nx1 (fun(i:Nat) s=>s.f 1=?v1_1∧s.f 2=?v1_2∧s.f 3=?v1_3∧s.f 4=?v1_4∧s.f 5=?v1_5∧s.H 0=some (MObj.own 5 [x.V] false)∧s.H 1=some (MObj.own 4 [qPC] false)∧s.H 14=some (MObj.own 1 (JJ n (fun _=>false)) false)∧s.f 6=vi i∧(i≤n)∧((∃v,s.H 11=some (MObj.own 4 [.agg [.str [],.sl 4 false ((ko x.levels).map Decl.V),v,.str []]] false)∧RuI s.H 14 s.next i v))) (fun i=>n - i) (0) wj_ (by refine⟨?_,?_,?_,?_,?_,?_,?_,?_,?_,wo_,(by exact⟨.sl 3 true [],by(simp only[wM];(repeat first|rw[if_pos trivial]|rw[if_pos rfl]|rw[if_neg (by omega)])),Or.inl ⟨rfl,rfl⟩⟩)⟩<;>first|(simp only[wL,wM,wN,wX,seval,Option.some.injEq]<;>exact wt_)|rfl|exact⟨_,rfl⟩) ?_
 intro i s hnx ⟨g1,g2,g3,g4,g5,o0,o1,o2,g6,k1_0,k1_1⟩
 obtain ⟨v,h11,hR⟩:=k1_1
 have hzi:=w1_ i
 by_cases hi:i<n
 · have hnon:=vz (k:=i) (by omega) (by omega)
   rcases hR with ⟨rfl,rfl⟩|⟨rid,rfl,hi0,hr,l1,l2⟩
   · repeat' with_reducible first
      |refine s_ ?_
      |simp only[wZZ,seval,g1,g2,g3,g4,g5,g6,o0,o1,o2,h11,hzi]
      |apply qa<;>intro h h_<;>(try simp only[wD,reduceCtorEq]at h_)<;>(try exact wb_)<;>(try simp only[h])
      |(refine qaF rfl qI.sl (by simp only[wZ]<;>omega) (by unfold maxLen;simp only[wZ]<;>omega) ?_)
      |refine t_ ?_
      |refine xS we_ (vz wf_ wf_) ?_
      |simp(disch:=omega) only[w64,if_neg]
     refine⟨by((try simp only[wN])<;>omega),1,by omega,trivial,trivial,trivial,trivial,trivial,trivial,trivial,trivial,rfl,by omega,_,rfl,Or.inr ⟨s.next+3+6,rfl,by omega,?_,by omega,by((try simp only[wN])<;>omega)⟩⟩
     (simp only[wM];(repeat first|rw[if_pos trivial]|rw[if_pos rfl]|rw[if_neg (by omega)]))
     rfl
   · have hrl:=Qt i (fun _=>.sl 6 true [])
     repeat' with_reducible first
      |refine s_ ?_
      |simp only[wZZ,seval,g1,g2,g3,g4,g5,g6,o0,o1,o2,h11,hzi]
      |apply qa<;>intro h h_<;>(try simp only[wD,reduceCtorEq]at h_)<;>(try exact wb_)<;>(try simp only[h])
      |refine cq1 hnon qb ?_
      |(refine Zn (es:=qcz i (fun _=>.sl 6 true [])) rfl (by simp only[wM];exact hr) hrl.symm qI.sl (by simp only[wZ]<;>omega) (by unfold maxLen;simp only[wZ]<;>omega) ?_)
      |refine t_ ?_
      |simp(disch:=omega) only[w64,if_neg]
     rw[hrl,← qeU i (fun _=>.sl 6 true [])]
     refine⟨by((try simp only[wN])<;>omega),i+1,by omega,trivial,trivial,trivial,trivial,trivial,trivial,trivial,trivial,rfl,by omega,_,rfl,Or.inr ⟨s.next+3+6,rfl,by omega,?_,by omega,by((try simp only[wN])<;>omega)⟩⟩
     (simp only[wM];(repeat first|rw[if_pos trivial]|rw[if_pos rfl]|rw[if_neg (by omega)]))
 · have e:i=n:=by omega
   subst e
   rcases hR with ⟨h0,_⟩|⟨rid,rfl,hi0,hr,l1,l2⟩
   · omega
   repeat' with_reducible first
    |refine s_ ?_
    |simp only[wZZ,seval,g1,g2,g3,g4,g5,g6,o0,o1,o2,h11,hzi]
   refine tail _ rid ⟨by(simp only[wL,seval,g1]),by(simp only[wL,seval,g2]),by(simp only[wL,seval,g3]),by(simp only[wL,seval,g4]),by(simp only[wL,seval,g5]),by(simp only[wM];(repeat first|rw[if_pos trivial]|rw[if_pos rfl]|rw[if_neg (by omega)]));exact o0,by(simp only[wM];(repeat first|rw[if_pos trivial]|rw[if_pos rfl]|rw[if_neg (by omega)]));exact o1,by(simp only[wM];(repeat first|rw[if_pos trivial]|rw[if_pos rfl]|rw[if_neg (by omega)]));exact h11,by(simp only[wM];(repeat first|rw[if_pos trivial]|rw[if_pos rfl]|rw[if_neg (by omega)]));exact o2,⟨by(simp only[wM];(repeat first|rw[if_pos trivial]|rw[if_pos rfl]|rw[if_neg (by omega)]));exact hr,by((try simp only[wN])<;>omega),fun k hk=>Gr.nil,fun k hk=>.nil,fun j k _ _ _=>Sep.slL,fun k _=>by simp⟩,by omega,by omega,by omega,by omega⟩
end Go.Proofs
