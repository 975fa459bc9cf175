import Derived.Test.YtkcegflhobejmaaGreatDoorBJA
set_option maxRecDepth 20000
set_option linter.all false
set_option maxHeartbeats 4000000
namespace Go.Proofs
open Go.E
theorem qkg{α:Type}{f:Nat->List α}{k q:Nat}{l:List α}{b:Nat}(h:∀k,(f k).length<=b)(hl:l.length<=b+1):(qK f k l q).length<=b+1:=by
 unfold qK;split
 . exact hl
 . have:=h q;omega
theorem Zh(x:GrI)(n:Nat)(i:Nat):∀k,((zb x n i).1 k).length<=i:=by
 induction i with
 |zero=>intro k;simp[zb]
 | succ i ih=>
   intro k;unfold zb yK;dsimp only;split
   . have:=ih k;omega
   . refine qkg ih ?_;rw[List.length_append];have:=ih ((x.rules.getD i []).getD 0 0 % (n:Int)).toNat;simp only[List.length_cons,List.length_nil];omega
abbrev qyn:V:= .agg [.str [],.sl 4 true [],.sl 3 true [],.str []]
structure SrcAt(s:St)(x:GrI)(n xb rb sb hb rid:Nat)(dV:V)(vA:Nat->V)(als:Nat->List V)(q:(Nat->List Alt)×(Nat->Bool)):Prop where
 f1:s.f 1=.ptr xb 0 0
 f2:s.f 2=.ptr rb 0 0
 f3:s.f 3=vi n
 f4:s.f 4=.ptr sb 0 0
 f5:s.f 5=.msl hb 1 0 n
 hx:s.H xb=some (.own 5 [x.V] false)
 hr:s.H rb=some (.own 4 [qyn] false)
 hs:s.H sb=some (.own 4 [.agg [.str [],dV,.msl rid 3 0 n,.str []]] false)
 hh:s.H hb=some (.own 1 (ZW n q.2) false)
 rw:RW s.H s.next rid n vA als q.1
 o1:xb<rb
 o2:rb<sb
 o3:sb<hb
 o4:hb<rid
theorem SrcAt.mono{s s':St}{x:GrI}{n xb rb sb hb rid:Nat}{dV:V}{vA:Nat->V}{als:Nat->List V}{q:(Nat->List Alt)×(Nat->Bool)}(h:SrcAt s x n xb rb sb hb rid dV vA als q)
(hf:∀t,1<=t->t<=5->s'.f t=s.f t)(hn:s.next<=s'.next)(hH:∀j,j<s.next->s'.H j=s.H j):SrcAt s' x n xb rb sb hb rid dV vA als q:=by
 have:=h.rw.lr;have o1:=h.o1;have o2:=h.o2;have o3:=h.o3;have o4:=h.o4;exact⟨by rw[hf 1 o_ o_];exact h.f1,by rw[hf 2 o_ o_];exact h.f2,by rw[hf 3 o_ o_];exact h.f3,by rw[hf 4 o_ o_];exact h.f4,by rw[hf 5 o_ o_];exact h.f5,
  by rw[hH _ o_];exact h.hx,by rw[hH _ o_];exact h.hr,by rw[hH _ o_];exact h.hs,by rw[hH _ o_];exact h.hh,h.rw.mono hn (hH _ o_) (λk _ j _ hj=>hH j hj),o1,o2,o3,o4⟩
theorem que{s0:St}{x:GrI}{n xb rb sb hb rid:Nat}{dV:V}{vA:Nat->V}{als:Nat->List V}{Q:Exit->St->Prop}{E:EC}(hn:0<n)(hn4:n<=4)(hb1:x.rules.length<=1099511627776)(hb2:∀l∈x.rules,l.length<=1099511627776)(hib:x.inner.length<=1099511627776)
(h:SrcAt s0 x n xb rb sb hb rid dV vA als (zb x n 0))
(hQ:∀s' vA' als',SrcAt s' x n xb rb sb hb rid dV vA' als' (zb x n (min 9 x.rules.length))->ewp Tryz.prog E Q s'):ewp Tryz.prog (.seq qfx E) Q s0:=by
 have f1:=h.f1;have f2:=h.f2;have f3:=h.f3;have f4:=h.f4;have f5:=h.f5;repeat' with_reducible first|refine s_ ?_|simp -implicitDefEqProofs only[wZZ,seval,f1,f2,f3,f4,f5]
 refine qc ?nx2 (λ(p:Nat×(Nat->V)×(Nat->List V)) s=>s.f 1=?v2_1/\s.f 2=?v2_2/\s.f 3=?v2_3/\s.f 4=?v2_4/\s.f 5=?v2_5/\s.f 7=vi p.1/\(p.1<=x.rules.length)/\(p.1<=9)/\(SrcAt s x n xb rb sb hb rid dV p.2.1 p.2.2 (zb x n p.1))) (λp=>x.rules.length - p.1) ((0,vA,als)) wj_ (by refine⟨?_,?_,?_,?_,?_,?_,wo_,wo_,(by exact h.mono (λt h1 h2=>by simp only[wL];rw[if_neg o_]) wg_ (λj hj=>by simp only[wM]))⟩<;>first|(simp -implicitDefEqProofs only[wL,wM,wN,wX,seval,Option.some.injEq]<;>exact wt_)|rfl|exact⟨_,rfl⟩) ?_;intro p s hnx ⟨g1,g2,g3,g4,g5,g7,k2_0,k2_1,k2_2⟩;obtain ⟨i,vB,bls⟩:=p;dsimp only at *;have hS:=k2_2;obtain ⟨q1,q2,q3,q4,q5,hx,hr,hs,hh,hW,o1,o2,o3,o4⟩:=hS;have lr:=hW.lr;have hzi:=w1_ i;have hrl:=Zh x n i;have hst:zb x n (i+1)=yK x n i (zb x n i):=rfl;unfold yK at hst;by_cases hi:i<x.rules.length/\i<9
 . have hg:=getD_some (d:=[]) hi.1;have hmem:(x.rules.getD i [])∈x.rules:=List.mem_of_getElem? hg;have hlb:=hb2 _ hmem;by_cases hl0:x.rules.getD i []=[]
   . rw[hl0]at hg;simp only[if_pos hl0]at hst;repeat' with_reducible first|refine s_ ?_|simp -implicitDefEqProofs only[wZZ,seval,g1,g2,g3,g4,g5,g7,f1,f2,f3,f4,f5,hx,hzi]|(first|apply qa|apply qy|apply qx)<;>intro h h_<;>(try simp only[wD,reduceCtorEq]at h_)<;>(try exact wb_)<;>(try simp only[h])|refine t_ ?_
     refine⟨wk_,(i+1,vB,bls),o_,?_⟩;refine⟨?_,?_,?_,?_,?_,?_,?_,?_,?_⟩;iterate 6 (focus(first|(simp -implicitDefEqProofs only[wL,wM,wN,wX,seval,Option.some.injEq,g1,g2,g3,g4,g5,g7]<;>exact wt_)|rfl|exact⟨_,rfl⟩))
     all_goals try omega
     rw[hst];exact k2_2.mono (λt h1 h2=>by simp only[wL];(repeat first|rw[if_pos rfl]|rw[if_neg o_])) wg_ (λj hj=>by simp only[wM])
   . simp only[if_neg hl0]at hst;have tail:=λs0 x n i a xb Q=> @qyH s0 x n i a xb qhG Q
     show ewp _ (.seq qsI (.seq (.block 3 (.seq qua (.seq (.reg qwo) (.seq (.reg qvL) (.seq (.reg qtE) (.seq qhk (.seq qgA qhG))))))) (.reg qs4))) _ _;generalize (EC.seq qhk (.seq qgA qhG))=F at tail;have hl1:0<(x.rules.getD i []).length:=List.length_pos_iff.2 hl0;have hg0:=getD_some (d:=(0:Int)) hl1;obtain ⟨k,hk⟩:∃k:Nat,(x.rules.getD i []).getD 0 0 % (n:Int)=k:=⟨((x.rules.getD i []).getD 0 0 % (n:Int)).toNat,by have:=Int.emod_nonneg ((x.rules.getD i []).getD 0 0) (show (n:Int)≠0 by omega);omega⟩;have hkn:k<n:=(by have:=Int.emod_lt_of_pos ((x.rules.getD i []).getD 0 0) (show (0:Int)<n by omega);omega);rw[hk,Int.toNat_natCast]at hst;repeat' with_reducible first|refine s_ ?_|simp -implicitDefEqProofs only[wZZ,seval,g1,g2,g3,g4,g5,g7,f1,f2,f3,f4,f5,hx,hzi,hk]|(first|apply qa|apply qy|apply qx)<;>intro h h_<;>(try simp only[wD,reduceCtorEq]at h_)<;>(try exact wb_)<;>(try simp only[h])|refine t_ ?_|refine zV we_ we_ (qV wf_ wf_) ?_
     have hne6:∀j,j<s.next->j≠s.next+26:=λj hj=>by omega
     refine tail _ x n i (s.next+26) xb _ hn hn4 hi.1 hi.2 hl0 hlb hib (by(simp -implicitDefEqProofs only[wL,seval,q1])) (by(simp -implicitDefEqProofs only[wL,seval,q3])) (by(simp -implicitDefEqProofs only[wL,seval,g7])) (by(simp -implicitDefEqProofs only[wL,seval])) (by(simp -implicitDefEqProofs only[wL,seval])) (by(simp only[wM];(repeat first|rw[if_pos trivial]|rw[if_pos rfl]|rw[if_neg o_]));exact hx) wc_ wg_ wg_ o_ (λs2 hA=>?_);obtain ⟨⟨vP,es,oA,GP,eP,hfr⟩,hpl,hfl,hhp,hnx2⟩:=hA;simp only[wN]at hnx2 hfr;have hhp2:∀j,j<s.next->s2.H j=s.H j:=λj hj=>by rw[hhp j wh_ o_];(simp only[wM];(repeat first|rw[if_pos trivial]|rw[if_pos rfl]|rw[if_neg o_]))
     have r1:s2.f 1=.ptr xb 0 0:=(by rw[hfl 1 o_];(simp -implicitDefEqProofs only[wL,seval,q1]));have r2:s2.f 2=.ptr rb 0 0:=(by rw[hfl 2 o_];(simp -implicitDefEqProofs only[wL,seval,q2]));have r3:s2.f 3=vi n:=(by rw[hfl 3 o_];(simp -implicitDefEqProofs only[wL,seval,q3]));have r4:s2.f 4=.ptr sb 0 0:=(by rw[hfl 4 o_];(simp -implicitDefEqProofs only[wL,seval,q4]));have r5:s2.f 5=.msl hb 1 0 n:=(by rw[hfl 5 o_];(simp -implicitDefEqProofs only[wL,seval,q5]));have r7:s2.f 7=vi i:=(by rw[hfl 7 o_];(simp -implicitDefEqProofs only[wL,seval,g7]));have r8:s2.f 8=vi k:=(by rw[hfl 8 o_];(simp -implicitDefEqProofs only[wL,seval]));have r9:s2.f 9=.ptr (s.next+26) 0 0:=(by rw[hfl 9 o_];(simp -implicitDefEqProofs only[wL,seval]));have hx2:=hx;rw[<- hhp2 xb o_]at hx2;have hr2:=hr;rw[<- hhp2 rb o_]at hr2;have hs2:=hs;rw[<- hhp2 sb o_]at hs2;have hh2:=hh;rw[<- hhp2 hb o_]at hh2;have hW2:RW s2.H s2.next rid n vB bls (zb x n i).1:=hW.mono o_ (hhp2 _ lr) (λq _ j _ hj=>hhp2 j hj);have hR2:=hW2.ho;have hG2:=hW2.gr k hkn;have n1:=hW2.ne (λf e=>by rw[hR2]at e;cases e) hkn (j:=rid);have n2:=hW2.ne (λf e=>by rw[hs2]at e;cases e) hkn (j:=sb);have n3:=hW2.ne (λf e=>by rw[hh2]at e;cases e) hkn (j:=hb);have n4:=hW2.ne (λf e=>by rw[oA]at e;cases e) hkn (j:=s.next+26);have n5:=hW2.ne (λf e=>by rw[hx2]at e;cases e) hkn (j:=xb);have n6:=hW2.ne (λf e=>by rw[hr2]at e;cases e) hkn (j:=rb);have hll:=(hW.ep k hkn).len;rw[List.length_map]at hll;have hrk:=hrl k;generalize KI (x.rules.getD i []) n=pl at *;repeat' with_reducible first|refine s_ ?_|simp -implicitDefEqProofs only[wZZ,seval,g1,g2,g3,g4,g5,g7,r1,r2,r3,r4,r5,r7,r8,r9,hpl,hx2,hs2,hh2,hR2,oA,hzi,qb n1,qb n2,qb n3,qb n4]|(first|apply qy|apply qx)<;>intro h h_<;>(try simp only[wD,reduceCtorEq]at h_)<;>(try exact wb_)<;>(try simp only[h])|(refine ldB hkn ?_)|(refine stB hkn ?_)|apply zC rfl (hG2.mono (Nat.le_refl _) (λid h1 h2=>by(try simp only[wM]);rw[if_neg (λe=>absurd h1 (by rw[e];exact n3))]));exact za.sl;(focus(simp only[wZ]<;>omega));(focus(unfold maxLen;simp only[wZ]<;>omega))|(refine qbX (ve hkn) rfl ?_)|apply qcA (ve hkn);exact wu_;exact wu_;exact wu_;(focus(simp only[wZ]<;>omega))|refine t_ ?_|simp -implicitDefEqProofs (disch:=omega) only[w64,if_neg]
     all_goals
      refine⟨wg_,(i+1,qK vB k (.asl (s2.next+11+11) ((bls k).length+1) 6 (bls k++[.agg [vP,.str [],.bool false,vi 0,vi 0,vi 0]])),qK bls k (bls k++[.agg [vP,.str [],.bool false,vi 0,vi 0,vi 0]])),by dsimp only;omega,?_⟩;dsimp only;have e2:zb x n (i+1)=(qK (zb x n i).1 k ((zb x n i).1 k++[qbV (x.rules.getD i []) n x.inner i]),qK (zb x n i).2 k ((zb x n i).2 k || pl)):=hst;rw[e2];refine⟨trivial,trivial,trivial,trivial,trivial,rfl,o_,o_,⟨by(simp -implicitDefEqProofs only[wL,seval,r1]),by(simp -implicitDefEqProofs only[wL,seval,r2]),by(simp -implicitDefEqProofs only[wL,seval,r3]),by(simp -implicitDefEqProofs only[wL,seval,r4]),by(simp -implicitDefEqProofs only[wL,seval,r5]),?_,?_,?_,?_,?_,o1,o2,o3,o4⟩⟩
      . ((try simp only[wM]);(repeat first|rw[if_pos trivial]|rw[if_pos rfl]|rw[if_neg o_]|rw[qb n1]|rw[qb n2]|rw[qb n3]|rw[qb n4]|rw[qb n5]|rw[qb n6]|simp only[wM]));exact hx2
      . ((try simp only[wM]);(repeat first|rw[if_pos trivial]|rw[if_pos rfl]|rw[if_neg o_]|rw[qb n1]|rw[qb n2]|rw[qb n3]|rw[qb n4]|rw[qb n5]|rw[qb n6]|simp only[wM]));exact hr2
      . ((try simp only[wM]);(repeat first|rw[if_pos trivial]|rw[if_pos rfl]|rw[if_neg o_]|rw[qb n1]|rw[qb n2]|rw[qb n3]|rw[qb n4]|rw[qb n5]|rw[qb n6]|simp only[wM]));exact hs2
      . ((try simp only[wM]);(repeat first|rw[if_pos trivial]|rw[if_pos rfl]|rw[if_neg o_]|rw[qb n1]|rw[qb n2]|rw[qb n3]|rw[qb n4]|rw[qb n5]|rw[qb n6]|simp only[wM]));refine congrArg some (congrArg (λc=>MObj.own 1 (ZW n (qK (zb x n i).2 k c)) false) ?_);simp[*]
      . refine hW2.put hkn (ErL.agg (.cons (GP.erL eP.up) (.cons (.str _) (.cons (.bool _) (.cons (.int _ _) (.cons (.int _ _) (.cons (.int _ _) .nil))))))) o_ o_ wg_ ?_ ?_ (λq hq hqk j h1 h2=>?_)
        . ((try simp only[wM]);(repeat first|rw[if_pos trivial]|rw[if_pos rfl]|rw[if_neg o_]|rw[qb n1]|rw[qb n2]|rw[qb n3]|rw[qb n4]|rw[qb n5]|rw[qb n6]|simp only[wM]));rw[qfr hkn]
        . ((try simp only[wM]);(repeat first|rw[if_pos trivial]|rw[if_pos rfl]|rw[if_neg o_]|rw[qb n1]|rw[qb n2]|rw[qb n3]|rw[qb n4]|rw[qb n5]|rw[qb n6]|simp only[wM]))
        . have p1:j≠rid:=λe=>by subst e;exact hW2.ne (λf e=>by rw[hR2]at e;cases e) hq h1
          have p2:j≠hb:=λe=>by subst e;exact hW2.ne (λf e=>by rw[hh2]at e;cases e) hq h1
          have p3:gid (vB k)≠some j:=λe=>hW2.sep q k hq hkn hqk j h1 e;(try simp only[wM]);repeat first|rw[if_pos trivial]|rw[if_pos rfl]|rw[if_neg o_]|rw[qb p3]|simp only[wM]
 . have e:i=min 9 x.rules.length:=o_;rw[e]at k2_2;repeat' with_reducible first|refine s_ ?_|simp -implicitDefEqProofs only[wZZ,seval,g1,g2,g3,g4,g5,g7,f1,f2,f3,f4,f5,hx]|(first|apply qa|apply qy|apply qx)<;>intro h h_<;>(try simp only[wD,reduceCtorEq]at h_)<;>(try exact wb_)<;>(try simp only[h])|refine t_ ?_
   all_goals exact hQ _ vB bls (k2_2.mono (λt h1 h2=>by simp only[wL];(repeat first|rw[if_pos rfl]|rw[if_neg o_])) wg_ (λj hj=>by simp only[wM]))

theorem _root_.Go.E.ErL.map{α:Type}{b:Bool}{H:Nat->Option MObj}{f g:α->V}{l:List α}(h:∀x∈l,Er b H (f x) (g x)):ErL b H (l.map f) (l.map g):=by
 induction l with
 |nil=>exact .nil
 |cons a l ih=>exact .cons (h a (by simp)) (ih λx hx=>h x (List.mem_cons_of_mem _ hx))
theorem qyO{s0:St}{x:GrI}{n xb rb sb hb rid:Nat}{dV:V}{vA:Nat->V}{als:Nat->List V}{q:(Nat->List Alt)×(Nat->Bool)}{Q:Exit->St->Prop}{E:EC}(hn:0<n)(hn4:n<=4)(hq:∀k,(q.1 k).length<=50)
(h:SrcAt s0 x n xb rb sb hb rid dV vA als q)
(hQ:∀s' vA' als',SrcAt s' x n xb rb sb hb rid dV vA' als' (Z9 x.bare q,q.2)->ewp Tryz.prog E Q s'):ewp Tryz.prog (.seq qeq E) Q s0:=by
 have f1:=h.f1;have f2:=h.f2;have f3:=h.f3;have f4:=h.f4;have f5:=h.f5;have h0:(λk=>if k<0 then Z9 x.bare q k else q.1 k)=q.1:=by funext k;rw[if_neg o_]
 repeat' with_reducible first|refine s_ ?_|simp -implicitDefEqProofs only[wZZ,seval,f1,f2,f3,f4,f5]
 refine qc ?nx4 (λ(p:Nat×(Nat->V)×(Nat->List V)) s=>s.f 1=?v4_1/\s.f 2=?v4_2/\s.f 3=?v4_3/\s.f 4=?v4_4/\s.f 5=?v4_5/\s.f 13=vi p.1/\(p.1<=n)/\(SrcAt s x n xb rb sb hb rid dV p.2.1 p.2.2 (λk=>if k<p.1 then Z9 x.bare q k else q.1 k,q.2))) (λp=>n - p.1) ((0,vA,als)) wj_ (by refine⟨?_,?_,?_,?_,?_,?_,wo_,(by rw[h0];exact h.mono (λt h1 h2=>by simp only[wL];rw[if_neg o_]) wg_ (λj hj=>by simp only[wM]))⟩<;>first|(simp -implicitDefEqProofs only[wL,wM,wN,wX,seval,Option.some.injEq]<;>exact wt_)|rfl|exact⟨_,rfl⟩) ?_;intro p s hnx ⟨g1,g2,g3,g4,g5,g13,k4_0,k4_1⟩;obtain ⟨i,vB,bls⟩:=p;dsimp only at *;have hS4:=k4_1;obtain ⟨r1,r2,r3,r4,r5,hx2,hr2,hs2,hh2,hW2,o1,o2,o3,o4⟩:=k4_1;have lr:=hW2.lr;have hR2:=hW2.ho;have hzi:=w1_ i;by_cases hi:i<n
 . have hG2:=hW2.gr i hi;have hep:=hW2.ep i hi;have hll:=hep.len;simp only[if_neg (Nat.lt_irrefl i),List.length_map]at hll hep;have hq1:=hq i;have n1:=hW2.ne (λf e=>by rw[hR2]at e;cases e) hi (j:=rid);have n2:=hW2.ne (λf e=>by rw[hs2]at e;cases e) hi (j:=sb);have n3:=hW2.ne (λf e=>by rw[hh2]at e;cases e) hi (j:=hb);have n5:=hW2.ne (λf e=>by rw[hx2]at e;cases e) hi (j:=xb);have n6:=hW2.ne (λf e=>by rw[hr2]at e;cases e) hi (j:=rb);have hlen:=hG2.len;have hlit:=j3 (k:=i) o_ o_;by_cases hc:q.1 i=[]\/(q.2 i=false/\x.bare=false)
   . have hfi:Z9 x.bare q i=q.1 i++[{parts:=[{sym:=jU i}]}]:=(by unfold Z9;rw[if_pos hc]);have hfn:(λk=>if k<i+1 then Z9 x.bare q k else q.1 k)=qK (λk=>if k<i then Z9 x.bare q k else q.1 k) i ((λk=>if k<i then Z9 x.bare q k else q.1 k) i++[{parts:=[{sym:=jU i}]}]):=by
      funext k;unfold qK;by_cases e:k=i
      . subst e;simp only[if_true,if_pos (Nat.lt_succ_self k),if_neg (Nat.lt_irrefl k)];exact hfi
      . rw[if_neg e]
        show _=if k<i then Z9 x.bare q k else q.1 k;by_cases e2:k<i
        . rw[if_pos e2,if_pos o_]
        . rw[if_neg e2,if_neg o_]
     repeat' with_reducible first|refine s_ ?_|simp -implicitDefEqProofs only[wZZ,seval,g1,g2,g3,g4,g5,g13,f1,f2,f3,f4,f5,hx2,hs2,hh2,hR2,hlen,hzi,qb n1,qb n2,qb n3,qb n5,qb n6]|(first|apply qa|apply qy|apply qx)<;>intro h h_<;>(try simp only[wD,reduceCtorEq]at h_)<;>(try exact wb_)<;>(try simp only[h])|(refine ldB hi ?_)|apply zC rfl (hG2.mono (Nat.le_refl _) (λid h1 h2=>by(try simp only[wM]);(repeat rw[if_neg o_])));(focus(first|exact za.sl|exact za.asl));(focus(simp only[wZ]<;>omega));(focus(unfold maxLen;simp only[wZ]<;>omega))|(refine qbX (ve hi) rfl ?_)|apply qcA (ve hi);exact wu_;exact wu_;exact wu_;(focus(simp only[wZ]<;>omega))|refine cq1 hlit qf ?_|refine t_ ?_|simp -implicitDefEqProofs (disch:=omega) only[w64,if_neg]
     all_goals first|(exfalso;rcases hc with hc|⟨hc1,hc2⟩;(first|(rw[hc]at hll;simp only[List.length_nil]at hll;omega));(simp_all;done))|skip
     all_goals
      refine⟨wg_,(i+1,qK vB i (.asl (s.next+3+20+15) ((bls i).length+1) 6 (bls i++[(.agg [.sl 6 true [({sym:=jU i}:Part).V],.str [],.bool false,vi 0,vi 0,vi 0])])),qK bls i (bls i++[(.agg [.sl 6 true [({sym:=jU i}:Part).V],.str [],.bool false,vi 0,vi 0,vi 0])])),by dsimp only;omega,?_⟩;dsimp only;rw[hfn];refine⟨trivial,trivial,trivial,trivial,trivial,rfl,o_,⟨by(simp -implicitDefEqProofs only[wL,seval,r1]),by(simp -implicitDefEqProofs only[wL,seval,r2]),by(simp -implicitDefEqProofs only[wL,seval,r3]),by(simp -implicitDefEqProofs only[wL,seval,r4]),by(simp -implicitDefEqProofs only[wL,seval,r5]),?_,?_,?_,?_,?_,o1,o2,o3,o4⟩⟩
      . ((try simp only[wM]);(repeat first|rw[if_pos trivial]|rw[if_pos rfl]|rw[if_neg o_]|rw[qb n1]|rw[qb n2]|rw[qb n3]|rw[qb n5]|rw[qb n6]|simp only[wM]));exact hx2
      . ((try simp only[wM]);(repeat first|rw[if_pos trivial]|rw[if_pos rfl]|rw[if_neg o_]|rw[qb n1]|rw[qb n2]|rw[qb n3]|rw[qb n5]|rw[qb n6]|simp only[wM]));exact hr2
      . ((try simp only[wM]);(repeat first|rw[if_pos trivial]|rw[if_pos rfl]|rw[if_neg o_]|rw[qb n1]|rw[qb n2]|rw[qb n3]|rw[qb n5]|rw[qb n6]|simp only[wM]));exact hs2
      . ((try simp only[wM]);(repeat first|rw[if_pos trivial]|rw[if_pos rfl]|rw[if_neg o_]|rw[qb n1]|rw[qb n2]|rw[qb n3]|rw[qb n5]|rw[qb n6]|simp only[wM]));exact hh2
      . refine hW2.put (a:={parts:=[{sym:=jU i}]}) hi (ErL.agg (.cons (ErL.sl (.cons qf .nil)) (.cons (.str _) (.cons (.bool _) (.cons (.int _ _) (.cons (.int _ _) (.cons (.int _ _) .nil))))))) o_ o_ wg_ ?_ ?_ (λw hw hwk j h1 h2=>?_)
        . ((try simp only[wM]);(repeat first|rw[if_pos trivial]|rw[if_pos rfl]|rw[if_neg o_]|rw[qb n1]|rw[qb n2]|rw[qb n3]|rw[qb n5]|rw[qb n6]|simp only[wM]));rw[qfr hi]
        . ((try simp only[wM]);(repeat first|rw[if_pos trivial]|rw[if_pos rfl]|rw[if_neg o_]|rw[qb n1]|rw[qb n2]|rw[qb n3]|rw[qb n5]|rw[qb n6]|simp only[wM]))
        . have p1:j≠rid:=λe=>by subst e;exact hW2.ne (λf e=>by rw[hR2]at e;cases e) hw h1
          have p3:gid (vB i)≠some j:=λe=>hW2.sep w i hw hi hwk j h1 e;(try simp only[wM]);repeat first|rw[if_pos trivial]|rw[if_pos rfl]|rw[if_neg o_]|rw[qb p3]|simp only[wM]
   . have hfn:(λk=>if k<i+1 then Z9 x.bare q k else q.1 k)=(λk=>if k<i then Z9 x.bare q k else q.1 k):=by
      funext k;by_cases e2:k<i
      . rw[if_pos e2,if_pos o_]
      . rw[if_neg e2];by_cases e:k=i
        . subst e;rw[if_pos o_];unfold Z9;rw[if_neg hc]
        . rw[if_neg o_]
     repeat' with_reducible first|refine s_ ?_|simp -implicitDefEqProofs only[wZZ,seval,g1,g2,g3,g4,g5,g13,f1,f2,f3,f4,f5,hx2,hs2,hh2,hR2,hlen,hzi,qb n1,qb n2,qb n3,qb n5,qb n6]|(first|apply qa|apply qy|apply qx)<;>intro h h_<;>(try simp only[wD,reduceCtorEq]at h_)<;>(try exact wb_)<;>(try simp only[h])|(refine ldB hi ?_)|apply zC rfl (hG2.mono (Nat.le_refl _) (λid h1 h2=>by(try simp only[wM]);(repeat rw[if_neg o_])));(focus(first|exact za.sl|exact za.asl));(focus(simp only[wZ]<;>omega));(focus(unfold maxLen;simp only[wZ]<;>omega))|(refine qbX (ve hi) rfl ?_)|apply qcA (ve hi);exact wu_;exact wu_;exact wu_;(focus(simp only[wZ]<;>omega))|refine cq1 hlit qf ?_|refine t_ ?_|simp -implicitDefEqProofs (disch:=omega) only[w64,if_neg]
     all_goals first|exact absurd (Or.inr ⟨by assumption,by assumption⟩) hc|exact absurd (Or.inl (List.length_eq_zero_iff.1 o_)) hc|skip
     all_goals refine⟨wg_,(i+1,vB,bls),by dsimp only;omega,?_⟩;dsimp only;rw[hfn];exact⟨trivial,trivial,trivial,trivial,trivial,rfl,o_,hS4.mono (λt h1 h2=>by simp only[wL];(repeat first|rw[if_pos rfl]|rw[if_neg o_])) wg_ (λj hj=>by simp only[wM])⟩
 . have e:i=n:=o_;subst e;have h9:SrcAt s x i xb rb sb hb rid dV vB bls (Z9 x.bare q,q.2):=by
    refine⟨r1,r2,r3,r4,r5,hx2,hr2,hs2,hh2,⟨hW2.ho,hW2.lr,hW2.gr,λk hk=>?_,hW2.sep,hW2.len⟩,o1,o2,o3,o4⟩;have:=hW2.ep k hk;simp only[if_pos hk]at this;exact this
   repeat' with_reducible first|refine s_ ?_|simp -implicitDefEqProofs only[wZZ,seval,g1,g2,g3,g4,g5,g13,f1,f2,f3,f4,f5,hx2]
   exact hQ _ vB bls (h9.mono (λt h1 h2=>by simp only[wL];(repeat first|rw[if_pos rfl]|rw[if_neg o_])) wg_ (λj hj=>by simp only[wM]))

instance grI_cl(x:GrI):Cl x.V:=⟨λb H=>ErL.agg (.cons (.int _ _) (.cons qf (.cons qf (.cons qf (.cons (.bool _) .nil)))))⟩
def RuI(H:Nat->Option MObj)(hb next i:Nat)(v:V):Prop:=(i=0/\v=.sl 3 true [])\/ ∃rid,v=.msl rid 3 0 i/\0<i/\H rid=some (.own 3 (qeJ i (λ_=>.sl 6 true [])) false)/\hb<rid/\rid<next
theorem Yj{x:GrI}(hb1:x.rules.length<=1099511627776)(hb2:∀l∈x.rules,l.length<=1099511627776)(hib:x.inner.length<=1099511627776)(hlb:x.levels.length<=1099511627776):Pure Tryz.prog 12 [x.V] ((qz x).V):=by
 refine pure_intro Tryz.func12 nm_ qvc (by show 1<=217;decide) ?_
 show ewp _ qvv _ _;have hdec:=Za hlb;obtain ⟨n,hn⟩:∃n:Nat,1+x.nons % 4=n:=⟨(1+x.nons % 4).toNat,o_⟩;have hnN:xW x=n:=by unfold xW;rw[hn];rfl
 have hn0:0<n:=o_;have hn4:n<=4:=o_;have hz1:IntKind.i64.wrap (1+x.nons % 4)=(n:Int):=by rw[wrap64 o_ o_];exact hn
 have hbol:=qhZ n;have hsrc:qz x={decls:=yC x.levels,rules:=(List.range n).map λ(k:Nat)=>{left:=V6 k,alts:=Z9 x.bare (zb x n (min 9 x.rules.length)) k}}:=by unfold qz;rw[hnN]
 show ewp _ (.seq (.reg qxE) (.seq (.reg qxl) (.seq (.reg qxa) (.seq (.reg qwT) (.seq qsL (.seq qfx (.seq qeq (.seq (.reg qid) .ret)))))))) _ _;have tail:∀s rid,SrcAt s x n 0 1 11 14 rid (.sl 4 false ((yC x.levels).map Decl.V)) (λ_=>.sl 6 true []) (λ_=>[]) (zb x n 0)->ewp Tryz.prog (.seq qfx (.seq qeq (.seq (.reg qid) .ret))) (jb e12 (qz x).V) s:=by
  intro s rid hS;refine que hn0 hn4 hb1 hb2 hib hS λs1 vB bls h1=>?_;refine qyO hn0 hn4 (λk=>Nat.le_trans (Zh x n _ k) o_) h1 λs2 vC cls h2=>?_;obtain ⟨r1,r2,r3,r4,r5,hx2,hr2,hs2,hh2,hW2,o1,o2,o3,o4⟩:=h2;have lr:=hW2.lr;repeat' with_reducible first|refine s_ ?_|simp -implicitDefEqProofs only[wZZ,seval,r1,r2,r3,r4,r5,hx2,hs2,hh2,hr2]|refine t_ ?_
  refine qiu (t:=2) (n:=4) (id:=1) (v:= .agg [.str [],.sl 4 false ((yC x.levels).map Decl.V),.msl rid 3 0 n,.str []]) (ro:=false) rfl (Or.inr rfl) (by(simp -implicitDefEqProofs only[wL,seval,r2])) wc_ rfl ?_;rw[hsrc];refine ErL.agg (.cons (.str _) (.cons qf (.cons ?_ (.cons (.str _) .nil))));have hm:((List.range n).map λ(k:Nat)=>({left:=V6 k,alts:=Z9 x.bare (zb x n (min 9 x.rules.length)) k}:Rule)).map Rule.V=(List.range n).map λ(k:Nat)=>({left:=V6 k,alts:=Z9 x.bare (zb x n (min 9 x.rules.length)) k}:Rule).V:=List.map_map
  show Er true _ (.msl rid 3 0 n) (.sl 3 false (((List.range n).map λ(k:Nat)=>({left:=V6 k,alts:=Z9 x.bare (zb x n (min 9 x.rules.length)) k}:Rule)).map Rule.V));rw[hm];refine Xu (es:=qeJ n vC) (ro:=false) (by(simp only[wM];(repeat first|rw[if_pos trivial]|rw[if_pos rfl]|rw[if_neg o_]));exact hW2.ho) ?_ (Zn n vC);exact ErL.map λk hk=>ErL.agg (.cons (.str _) (.cons ((hW2.gr k (List.mem_range.1 hk)).erL (hW2.ep k (List.mem_range.1 hk)).up) (.cons (.int _ _) .nil)))
 generalize EC.seq qfx (.seq qeq (.seq (.reg qid) .ret))=F at tail;repeat' with_reducible first|refine s_ ?_|simp -implicitDefEqProofs only[wZZ,seval,hz1]|refine t_ ?_|apply qaU;exact wf_;exact wf_;(focus(unfold maxLen;first|omega|(simp only[wZ]<;>omega)))|refine zV we_ we_ (qV wf_ wf_) ?_|refine jH we_ (Za wf_) ?_
 rw[hbol];refine qc ?nx1 (λ(i:Nat) s=>s.f 1=?v1_1/\s.f 2=?v1_2/\s.f 3=?v1_3/\s.f 4=?v1_4/\s.f 5=?v1_5/\s.H 0=some (MObj.own 5 [x.V] false)/\s.H 1=some (MObj.own 4 [qyn] false)/\s.H 14=some (MObj.own 1 (ZW n (λ_=>false)) false)/\s.f 6=vi i/\(i<=n)/\((∃v,s.H 11=some (MObj.own 4 [.agg [.str [],.sl 4 false ((yC x.levels).map Decl.V),v,.str []]] false)/\RuI s.H 14 s.next i v))) (λi=>n - i) (0) wj_ (by refine⟨?_,?_,?_,?_,?_,?_,?_,?_,?_,wo_,(by exact⟨.sl 3 true [],by(simp only[wM];(repeat first|rw[if_pos trivial]|rw[if_pos rfl]|rw[if_neg o_])),Or.inl ⟨rfl,rfl⟩⟩)⟩<;>first|(simp -implicitDefEqProofs only[wL,wM,wN,wX,seval,Option.some.injEq]<;>exact wt_)|rfl|exact⟨_,rfl⟩) ?_;intro i s hnx ⟨g1,g2,g3,g4,g5,o0,o1,o2,g6,k1_0,k1_1⟩;obtain ⟨v,h11,hR⟩:=k1_1;have hzi:=w1_ i;by_cases hi:i<n
 . have hnon:=Qg (k:=i) o_ o_;rcases hR with ⟨rfl,rfl⟩|⟨rid,rfl,hi0,hr,l1,l2⟩
   . repeat' with_reducible first|refine s_ ?_|simp -implicitDefEqProofs only[wZZ,seval,g1,g2,g3,g4,g5,g6,o0,o1,o2,h11,hzi]|apply qa<;>intro h h_<;>(try simp only[wD,reduceCtorEq]at h_)<;>(try exact wb_)<;>(try simp only[h])|(refine qbP rfl za.sl (by simp only[wZ]<;>omega) (by unfold maxLen;simp only[wZ]<;>omega) ?_)|refine t_ ?_|refine jH we_ (Qg wf_ wf_) ?_|simp -implicitDefEqProofs (disch:=omega) only[w64,if_neg]
     refine⟨wg_,1,o_,trivial,trivial,trivial,trivial,trivial,trivial,trivial,trivial,rfl,o_,_,rfl,Or.inr ⟨s.next+3+6,rfl,o_,?_,o_,wg_⟩⟩;(simp only[wM];(repeat first|rw[if_pos trivial]|rw[if_pos rfl]|rw[if_neg o_]));rfl
   . have hrl:=Zn i (λ_=>.sl 6 true []);repeat' with_reducible first|refine s_ ?_|simp -implicitDefEqProofs only[wZZ,seval,g1,g2,g3,g4,g5,g6,o0,o1,o2,h11,hzi]|apply qa<;>intro h h_<;>(try simp only[wD,reduceCtorEq]at h_)<;>(try exact wb_)<;>(try simp only[h])|refine cq1 hnon qf ?_|(refine Qt (es:=qeJ i (λ_=>.sl 6 true [])) rfl (by simp only[wM];exact hr) hrl.symm za.sl (by simp only[wZ]<;>omega) (by unfold maxLen;simp only[wZ]<;>omega) ?_)|refine t_ ?_|simp -implicitDefEqProofs (disch:=omega) only[w64,if_neg]
     rw[hrl,<- qg3 i (λ_=>.sl 6 true [])];refine⟨wg_,i+1,o_,trivial,trivial,trivial,trivial,trivial,trivial,trivial,trivial,rfl,o_,_,rfl,Or.inr ⟨s.next+3+6,rfl,o_,?_,o_,wg_⟩⟩;(simp only[wM];(repeat first|rw[if_pos trivial]|rw[if_pos rfl]|rw[if_neg o_]))
 . have e:i=n:=o_;subst e;rcases hR with ⟨h0,_⟩|⟨rid,rfl,hi0,hr,l1,l2⟩
   . omega
   repeat' with_reducible first|refine s_ ?_|simp -implicitDefEqProofs only[wZZ,seval,g1,g2,g3,g4,g5,g6,o0,o1,o2,h11,hzi]
   refine tail _ rid ⟨by(simp -implicitDefEqProofs only[wL,seval,g1]),by(simp -implicitDefEqProofs only[wL,seval,g2]),by(simp -implicitDefEqProofs only[wL,seval,g3]),by(simp -implicitDefEqProofs only[wL,seval,g4]),by(simp -implicitDefEqProofs only[wL,seval,g5]),by(simp only[wM];(repeat first|rw[if_pos trivial]|rw[if_pos rfl]|rw[if_neg o_]));exact o0,by(simp only[wM];(repeat first|rw[if_pos trivial]|rw[if_pos rfl]|rw[if_neg o_]));exact o1,by(simp only[wM];(repeat first|rw[if_pos trivial]|rw[if_pos rfl]|rw[if_neg o_]));exact h11,by(simp only[wM];(repeat first|rw[if_pos trivial]|rw[if_pos rfl]|rw[if_neg o_]));exact o2,⟨by(simp only[wM];(repeat first|rw[if_pos trivial]|rw[if_pos rfl]|rw[if_neg o_]));exact hr,wg_,λk hk=>Gr.nil,λk hk=>.nil,λj k _ _ _=>Sep.slL,λk _=>by simp⟩,o_,o_,o_,o_⟩

theorem XO{x:Sym}:∀{l:List Tok} {i:Nat},(∀(n:Nat) t,l[n]?=some t-> ¬ (t.name=x.name/\t.lit=x.lit/\i+n≠2))->QE x l i= -1
 |[],i,_=>rfl
 | t::r,i,h=>by unfold QE;rw[if_neg (by have:=h 0 t rfl;simpa using this)];exact XO λn u hu=>by have:=h (n+1) u (by simpa using hu);rwa [show i+1+n=i+(n+1) by omega]
theorem XG{x:Sym}:∀{l:List Tok} {i n:Nat} {t:Tok},l[n]?=some t->t.name=x.name->t.lit=x.lit->i+n≠2->0<=QE x l i
 |[],i,n,t,h,_,_,_=>by simp at h
 | u ::r,i,n,t,h,h1,h2,h3=>by
   unfold QE;split
   . omega
   . rename_i hne;cases n with
     |zero=>simp at h;subst h;exact absurd ⟨h1,h2,o_⟩ hne
     |succ n=>exact XG (l:=r) (i:=i+1) (n:=n) (t:=t) (by simpa using h) h1 h2 o_
theorem qah{n:Int}:∀{l:List Tok} {i:Nat},(∀t∈l,t.num≠n)->qca n l i= -1
 |[],i,_=>rfl
 | t::r,i,h=>by unfold qca;rw[if_neg (h t (by simp))];exact qah λu hu=>h u (List.mem_cons_of_mem _ hu)
theorem V4{n:List UInt8}:∀{l:List (List UInt8)} {i:Nat},n∈l->0<=qp n l i
 |[],i,h=>by simp at h
 | t ::r,i,h=>by
   unfold qp;split
   . omega
   . rename_i hne;rcases List.mem_cons.1 h with h|h
     . exact absurd h.symm hne
     . exact V4 h
abbrev core(t:Tok):List UInt8×Bool×Int:=(t.name,t.lit,t.num)
abbrev qyq(j:Nat):List UInt8×Bool×Int:=((jU j).name,true,qdG (jU j))
abbrev qf4:List (List UInt8×Bool×Int):=[([36,101,110,100],false,0),(qjC,false,-1),([36,117,110,107],false,-1)]
structure LInv(m:Mk)(js:List Nat):Prop where
 e:m.e=0
 toks:m.toks.map core=qf4++js.map qyq
 nd:js.Nodup
 lt:∀j∈js,j<4
theorem jG{j:Nat}(h:j<4):(jU j).name=[UInt8.ofNat (112+j)]/\qdG (jU j)=112+j:=by
 rcases j with _ | _ | _ | _ |j
 . exact⟨rfl,rfl⟩
 . exact⟨rfl,rfl⟩
 . exact⟨rfl,rfl⟩
 . exact⟨rfl,rfl⟩
 . omega
theorem qny{i j:Nat}(hi:i<4)(hj:j<4)(h:(jU i).name=(jU j).name):i=j:=by have h1:=(jG hi).1;have h2:=(jG hj).1;rw[h1,h2]at h;simp only[List.cons.injEq,and_true]at h;have:=congrArg UInt8.toNat h;simp at this;omega
theorem LInv.get{m:Mk}{js:List Nat}(h:LInv m js){n:Nat}{t:Tok}(ht:m.toks[n]?=some t):(qf4++js.map qyq)[n]?=some (core t):=by rw[<- h.toks,List.getElem?_map,ht];rfl
theorem LInv.len{m:Mk}{js:List Nat}(h:LInv m js):m.toks.length=3+js.length:=by have:=congrArg List.length h.toks;simp at this;omega
theorem LInv.tok_in{m:Mk}{js:List Nat}(h:LInv m js){j:Nat}(hj:j∈js):0<=Y2 m.toks (jU j):=by
 obtain ⟨i,hi,he⟩:=List.getElem_of_mem hj;have hl:=h.len;have h3:m.toks[3+i]?=some (m.toks[3+i]' o_):=ge_ o_;have hg:=h.get h3;rw[List.getElem?_append_right (by simp),show 3+i - qf4.length=i by simp,List.getElem?_map,ge_ hi,he]at hg;simp only[Option.map_some,Option.some.injEq,Prod.mk.injEq]at hg;refine XG (n:=2+i) (t:=m.toks[3+i]' o_) ?_ hg.1.symm ?_ o_
 . rw[List.getElem?_drop,show 1+(2+i)=3+i by omega];exact h3
 . rw[<- hg.2.1]
theorem LInv.tok_out{m:Mk}{js:List Nat}(h:LInv m js){j:Nat}(hj:j ∉ js)(hj4:j<4):Y2 m.toks (jU j)= -1:=by
 refine XO λn t ht=>?_;rw[List.getElem?_drop]at ht;have hg:=h.get ht;rintro ⟨h1,h2,h3⟩
 match n,hg with
 |0,hg=>simp at hg;rw[hg.2.1]at h2;cases h2
 |1,hg=>exact absurd rfl h3
 | n +2,hg=>
   rw[List.getElem?_append_right (by simp;omega),List.getElem?_map]at hg;cases hq:js[1+(n+2) - qf4.length]? with
   |none=>rw[hq]at hg;cases hg
   | some q=>
     rw[hq]at hg;simp only[Option.map_some,Option.some.injEq,Prod.mk.injEq]at hg;have hqm:=List.mem_of_getElem? hq;have:=qny (h.lt q hqm) hj4 (hg.1.trans h1);subst this;exact hj hqm
theorem LInv.own{m:Mk}{js:List Nat}(h:LInv m js){j:Nat}(hj:j ∉ js)(hj4:j<4):qln m.toks (qdG (jU j))= -1:=by
 refine qah λt ht e=>?_;obtain ⟨n,hn⟩:=List.getElem?_of_mem ht;rw[List.getElem?_drop]at hn;have hg:=h.get hn;rw[List.getElem?_append_right (by simp),List.getElem?_map]at hg;cases hq:js[3+n - qf4.length]? with
 |none=>rw[hq]at hg;cases hg
 | some q=>
   rw[hq]at hg;simp only[Option.map_some,Option.some.injEq,Prod.mk.injEq]at hg;have hqm:=List.mem_of_getElem? hq;have h4:=h.lt q hqm;have:=(jG h4).2;have:=(jG hj4).2
   have:q=j:=o_
   subst this;exact hj hqm
theorem YA(k:Int):jU k=jU ((k % 4).toNat:Nat):=by have h1:=Int.emod_nonneg k (show (4:Int)≠0 by omega);unfold jU;rw[Int.toNat_of_nonneg h1,Int.emod_emod_of_dvd k (Int.dvd_refl 4)]
theorem LInv.put{m:Mk}{js:List Nat}(h:LInv m js)(k:Int):∃js',LInv (kY m (jU k)).1 js'/\(∀j∈js,j∈js')/\∀j∈js',j∈js\/j=(k % 4).toNat:=by
 have h1:=Int.emod_nonneg k (show (4:Int)≠0 by omega);have h2:=Int.emod_lt_of_pos k (show (0:Int)<4 by omega);rw[YA k];obtain ⟨j,hj⟩:∃j:Nat,(k % 4).toNat=j:=⟨_,rfl⟩;have hj4:j<4:=o_;rw[hj];unfold kY;by_cases hm:j∈js
 . rw[if_pos (h.tok_in hm)];exact⟨js,h,λ_ a=>a,λ_ a=>Or.inl a⟩
 . rw[if_neg (by rw[h.tok_out hm hj4];omega)];dsimp only;rw[if_neg (by rw[h.own hm hj4];rintro ⟨_,e⟩;omega)];refine⟨js++[j],⟨h.e,?_,?_,λq hq=>?_⟩,λq hq=>List.mem_append_left _ hq,λq hq=>?_⟩
   . dsimp only;rw[List.map_append,h.toks,List.map_append,List.append_assoc];rfl
   . rw[List.nodup_append];exact⟨h.nd,by simp,λa ha b hb e=>by rw[List.mem_singleton]at hb;subst hb;subst e;exact hm ha⟩
   . rcases List.mem_append.1 hq with hq|hq
     . exact h.lt q hq
     . rw[List.mem_singleton]at hq;subst hq;exact hj4
   . rcases List.mem_append.1 hq with hq|hq
     . exact Or.inl hq
     . rw[List.mem_singleton]at hq;exact Or.inr hq
theorem LInv.err{m:Mk}{js:List Nat}(h:LInv m js):0<=Y2 m.toks {name:=qjC}:=by have hl:=h.len;have h1:m.toks[1]?=some (m.toks[1]' o_):=ge_ o_;have hg:=h.get h1;simp at hg;refine XG (n:=0) (t:=m.toks[1]' o_) ?_ hg.1.symm (by rw[hg.2.1]) o_;rw[List.getElem?_drop];exact h1
theorem LInv.non{m:Mk}{js:List Nat}(h:LInv m js){k:Nat}(hk:k<4):Y2 m.toks {name:=V6 k}= -1:=by
 refine XO λn t ht=>?_;rw[List.getElem?_drop]at ht;have hg:=h.get ht;rintro ⟨h1,h2,h3⟩
 match n,hg with
 | 0,hg=>
   simp at hg;rw[<- hg.1]at h1;have:=congrArg List.length h1;simp[qjC]at this
 |1,hg=>exact absurd rfl h3
 | n +2,hg=>
   rw[List.getElem?_append_right (by simp;omega),List.getElem?_map]at hg;cases hq:js[1+(n+2) - qf4.length]? with
   |none=>rw[hq]at hg;cases hg
   | some q=>
     rw[hq]at hg;simp only[Option.map_some,Option.some.injEq,Prod.mk.injEq]at hg;rw[<- hg.2.1]at h2;cases h2
theorem qhF{m:Mk}{js:List Nat}(h:LInv m js)(t:Int)(k:Tok)(hk:core k=core (VD m t))(ht:0<=t/\t<m.toks.length):LInv (Zl m t k) js:=by
 refine⟨h.e,?_,h.nd,h.lt⟩;rw[<- h.toks]
 show (m.toks.set t.toNat k).map core=_;rw[List.map_set,hk];refine List.ext_getElem? λi=>?_;rw[List.getElem?_set];by_cases e:t.toNat=i
 . subst e;have hlt:t.toNat<m.toks.length:=o_;rw[if_pos rfl,if_pos (by simpa using hlt),List.getElem?_map];unfold VD;rw[List.getD_eq_getElem?_getD,ge_ hlt];rfl
 . rw[if_neg e]
theorem qiW{m:Mk}{js:List Nat}(h:LInv m js)(d:Decl){i:Nat}(hi:i<4)(hj:i ∉ js)(hk:2<=d.kind/\d.kind<=4)(ht:d.tag=[]):LInv (vz m d (jU i)) (js++[i]):=by
 have hl:=h.len;have hp:kY m (jU i)=({m with toks:=m.toks++[{name:=(jU i).name,lit:=true,num:=qdG (jU i)}],given:=m.given++[true]},(m.toks.length:Int)):=by unfold kY;rw[if_neg (by rw[h.tok_out hj hi];omega)];dsimp only;rw[if_neg (by rw[h.own hj hi];rintro ⟨_,e⟩;omega)]
 have h1:LInv (kY m (jU i)).1 (js++[i]):=by
  rw[hp];refine⟨h.e,?_,?_,λq hq=>?_⟩
  . dsimp only;rw[List.map_append,h.toks,List.map_append,List.append_assoc];rfl
  . rw[List.nodup_append];exact⟨h.nd,by simp,λa ha b hb e=>by rw[List.mem_singleton]at hb;subst hb;subst e;exact hj ha⟩
  . rcases List.mem_append.1 hq with hq|hq
    . exact h.lt q hq
    . rw[List.mem_singleton]at hq;subst hq;exact hi
 unfold vz;rw[if_neg o_];dsimp only;have hlast:VD (kY m (jU i)).1 (kY m (jU i)).2={name:=(jU i).name,lit:=true,num:=qdG (jU i)}:=by rw[hp];unfold VD;dsimp only;rw[List.getD_eq_getElem?_getD,Int.toNat_natCast,List.getElem?_append_right (Nat.le_refl _)];simp
 have hr:0<=(kY m (jU i)).2/\(kY m (jU i)).2<(kY m (jU i)).1.toks.length:=by rw[hp];simp;omega
 generalize kY m (jU i)=q at *;have hA:LInv (xC q.1 d.kind (jU i) q.2) (js++[i]):=by unfold xC;rw[if_neg o_,hlast];dsimp only;rw[if_neg o_];exact qhF h1 _ _ (by rw[hlast]) hr
 have hB:jv (xC q.1 d.kind (jU i) q.2) (jU i) q.2=xC q.1 d.kind (jU i) q.2:=by unfold jv;rw[if_neg (by show ¬ (0:Int)<0;decide)]
 have hC:∀M,Ql M d.tag (jU i) q.2=M:=λM=>by unfold Ql;rw[if_neg (by simp[ht])]
 rw[hB,hC];exact hA
theorem qb9(d:Decl)(hk:2<=d.kind/\d.kind<=4)(ht:d.tag=[]):∀(is:List Nat) (m:Mk) (js:List Nat) (st:List UInt8),LInv m js->(js++is).Nodup->(∀i∈is,i<4)->LInv (zP d (is.map λi:Nat=>jU i) (m,st)).1 (js++is)/\(zP d (is.map λi:Nat=>jU i) (m,st)).2=st
 |[],m,js,st,h,_,_=>by rw[List.append_nil];exact⟨h,rfl⟩
 | i::r,m,js,st,h,hn,hl=>by
   rw[List.map_cons,Zk,if_pos o_];have e:js++i::r=js++[i]++r:=(by simp);rw[e]at hn ⊢;have hni:i ∉ js:=λhm=>by rw[List.nodup_append]at hn;have:=hn.1;rw[List.nodup_append]at this;exact this.2.2 i hm i (by simp) rfl
   exact qb9 d hk ht r _ _ st (qiW h d (hl i (by simp)) hni hk ht) hn (λq hq=>hl q (List.mem_cons_of_mem _ hq))
def VF(d:Decl)(is:List Nat):Prop:=(2<=d.kind/\d.kind<=4)/\d.tag=[]/\d.syms=(is.map λi:Nat=>jU i)/\is≠[]
theorem LInv.level{m:Mk}{js:List Nat}(h:LInv m js)(n:Int):LInv {m with level:=n} js:=⟨h.e,h.toks,h.nd,h.lt⟩
theorem qcu:∀(ds:List Decl) (iss:List (List Nat)) (m:Mk) (js:List Nat) (st:List UInt8),LInv m js->ds.length=iss.length->(∀(k:Nat) d is,ds[k]?=some d->iss[k]?=some is->VF d is)->(js++iss.flatten).Nodup->(∀i∈iss.flatten,i<4)->LInv (zZ ds (m,st)).1 (js++iss.flatten)/\(zZ ds (m,st)).2=st
 |[],[],m,js,st,h,_,_,_,_=>by simp;exact⟨h,rfl⟩
 |[],_::_,m,js,st,h,hl,_,_,_=>by simp at hl
 | _::_,[],m,js,st,h,hl,_,_,_=>by simp at hl
 | d::r,is::t,m,js,st,h,hl,hd,hn,hlt=>by obtain ⟨hk,ht,hs,_⟩:=hd 0 d is rfl rfl;rw[List.flatten_cons,<- List.append_assoc]at hn ⊢;rw[List.flatten_cons]at hlt;rw[Zy,if_pos hk,hs];have hn1:(js++is).Nodup:=(by rw[List.nodup_append]at hn;exact hn.1);obtain ⟨h1,h2⟩:=qb9 d hk ht is {m with level:=m.level+1} js st (h.level _) hn1 (λi hi=>hlt i (List.mem_append_left _ hi));have e:zP d (is.map λi:Nat=>jU i) ({m with level:=m.level+1},st)=((zP d (is.map λi:Nat=>jU i) ({m with level:=m.level+1},st)).1,st):=Prod.ext rfl h2;rw[e];exact qcu r t _ _ st h1 (by simpa using hl) (λk d is a b=>hd (k+1) d is (by simpa using a) (by simpa using b)) hn (λi hi=>hlt i (List.mem_append_right _ hi))
theorem Zq(l:List Int):∀n,n<=4->∃iss:List (List Nat),(jk l n).length=iss.length/\(∀(k:Nat) d is,(jk l n)[k]?=some d->iss[k]?=some is->VF d is)/\iss.flatten.Nodup/\∀i∈iss.flatten,i<n:=by
 intro n
 induction n with
 |zero=>intro _;exact⟨[],rfl,λk d is h=>by simp[jk]at h,by simp,λi h=>by simp at h⟩
 | succ n ih =>
   intro hn;obtain ⟨iss,h1,h2,h3,h4⟩:=ih o_;have hx1:=Int.emod_nonneg (l.getD n 0) (show (8:Int)≠0 by omega);have hx2:=Int.emod_lt_of_pos (l.getD n 0) (show (0:Int)<8 by omega);have hnn:n ∉ iss.flatten:=λh=>by have:=h4 n h;omega
   show ∃iss:List (List Nat),(yI n (l.getD n 0) (jk l n)).length=iss.length/\(∀(k:Nat) d is,(yI n (l.getD n 0) (jk l n))[k]?=some d->iss[k]?=some is->VF d is)/\iss.flatten.Nodup/\∀i∈iss.flatten,i<n+1;unfold yI;split
   . exact⟨iss,h1,h2,h3,λi hi=>by have:=h4 i hi;omega⟩
   . rename_i hq;split
     . rename_i hc;obtain ⟨o,d,ho⟩:∃o d,jk l n=o++[d]:=⟨_,_,(List.dropLast_concat_getLast hc.2).symm⟩;have hie:iss≠[]:=λe=>by rw[e,ho]at h1;simp at h1
       obtain ⟨t,u,ht⟩:∃t u,iss=t++[u]:=⟨_,_,(List.dropLast_concat_getLast hie).symm⟩;have hot:o.length=t.length:=(by rw[ho,ht]at h1;simpa using h1);refine⟨t++[u++[n]],?_,λk e is a b=>?_,?_,λi hi=>?_⟩
       . rw[ho,QS];simp[hot]
       . rw [ho,QS]at a;by_cases hk:k<o.length
         . rw[List.getElem?_append_left hk]at a;rw[List.getElem?_append_left o_]at b;exact h2 k e is (by rw[ho,List.getElem?_append_left hk];exact a) (by rw[ht,List.getElem?_append_left o_];exact b)
         . by_cases hk2:k=o.length
           . subst hk2;rw[List.getElem?_append_right (Nat.le_refl _)]at a;rw[hot,List.getElem?_append_right (Nat.le_refl _)]at b;simp at a b;subst a b;obtain ⟨q1,q2,q3,q4⟩:=h2 o.length d u (by rw[ho];simp) (by rw[ht,hot];simp);exact⟨q1,q2,by dsimp only;rw[q3,List.map_append];rfl,by simp⟩
           . rw[List.getElem?_eq_none (by simp;omega)]at a;cases a
       . rw[ht]at h3 hnn;simp only[List.flatten_append,List.flatten_cons,List.flatten_nil,List.append_nil,<- List.append_assoc]at h3 hnn ⊢;rw[List.nodup_append];exact⟨h3,by simp,λa ha b hb e=>by rw[List.mem_singleton]at hb;subst hb;subst e;exact hnn ha⟩
       . simp only[List.flatten_append,List.flatten_cons,List.flatten_nil,List.append_nil,<- List.append_assoc]at hi;rcases List.mem_append.1 hi with hi|hi
         . have hlt:=h4 i (by rw[ht];simpa using hi);omega
         . rw[List.mem_singleton]at hi;omega
     . refine⟨iss++[[n]],by simp[h1],λk e is a b=>?_,?_,λi hi=>?_⟩
       . by_cases hk:k<(jk l n).length
         . rw[List.getElem?_append_left hk]at a;rw[List.getElem?_append_left o_]at b;exact h2 k e is a b
         . by_cases hk2:k=(jk l n).length
           . subst hk2;rw[List.getElem?_append_right (Nat.le_refl _)]at a;rw[h1,List.getElem?_append_right (Nat.le_refl _)]at b;simp only[Nat.sub_self,List.getElem?_cons_zero,Option.some.injEq]at a b;subst a b;have hb:2<=1+l.getD n 0 % 8 % 4/\1+l.getD n 0 % 8 % 4<=4:=o_;exact⟨hb,rfl,rfl,by simp⟩
           . rw[List.getElem?_eq_none (by simp;omega)]at a;cases a
       . rw[List.flatten_append];simp only[List.flatten_cons,List.flatten_nil,List.append_nil];rw[List.nodup_append];exact⟨h3,by simp,λa ha b hb e=>by rw[List.mem_singleton]at hb;subst hb;subst e;exact hnn ha⟩
       . rw[List.flatten_append]at hi;rcases List.mem_append.1 hi with hi|hi
         . have:=h4 i hi;omega
         . simp at hi;omega

def qat(lefts:List (List UInt8))(x:Sym):Prop:=(∃k:Int,x=jU k)\/(x.lit=false/\x.name∈lefts)\/x={name:=qjC}
theorem qhK{m:Mk}{js:List Nat}{x:Sym}(h:LInv m js)(hx:qat m.lefts x):∃js',LInv (xq m x).1 js':=by
 rcases hx with ⟨k,rfl⟩|⟨h1,h2⟩|rfl
 . obtain ⟨js',h',_⟩:=h.put k;exact⟨js',by unfold xq;rw[if_pos rfl];exact h'⟩
 . exact⟨js,by unfold xq;rw[if_neg (by simp[h1]),if_pos (V4 h2)];exact h⟩
 . refine⟨js,?_⟩;unfold xq;rw[if_neg (by simp)];split
   . exact h
   . rw[if_neg (by have:=h.err;omega)];exact h
def vY:List Part->Nat
 |[]=>0
 |w::r=>(if w.code≠[]/\r≠[]then 1 else 0)+vY r
theorem XP:∀(l:List Part) (m:Mk) (js:List Nat) (p:GPr),LInv m js->(∀w∈l,w.code≠[]\/qat m.lefts w.sym)->(∀q∈m.prods,q.right.length<=8)->
 (∃js',LInv (qZ l (m,p)).1 js')/\(qZ l (m,p)).1.inner<=m.inner+vY l/\(qZ l (m,p)).1.prods.length<=m.prods.length+vY l/\∀q∈(qZ l (m,p)).1.prods,q.right.length<=8
 |[],m,js,p,h,_,hq=>by rw[kP];exact⟨⟨js,h⟩,by simp[vY],by simp[vY],hq⟩
 | w :: r,m,js,p,h,hg,hq=>by
   rw[xB];obtain ⟨y1,y2,y3,y4,y5,y6,y7,y8⟩:=x9 m w.sym;unfold vY;by_cases hc:w.code=[]
   . rw[if_pos hc,if_neg (λe=>e.1 hc)];obtain ⟨js1,h1⟩:=qhK h ((hg w (by simp)).resolve_left (λe=>e hc));obtain ⟨k1,k2,k3,k4⟩:=XP r (xq m w.sym).1 js1 {p with right:=p.right++[(xq m w.sym).2]} h1 (λu hu=>by rw[y2];exact hg u (List.mem_cons_of_mem _ hu)) (by rw[y3];exact hq);exact⟨k1,o_,by rw[y3]at k3;omega,k4⟩
   . rw [if_neg hc];by_cases hr:r=[]
     . rw[if_pos hr];exact⟨⟨js,h⟩,by dsimp only;omega,by dsimp only;omega,hq⟩
     . rw[if_neg hr,if_pos ⟨hc,hr⟩];obtain ⟨k1,k2,k3,k4⟩:=XP r {m with inner:=m.inner+1,prods:=m.prods++[{left:=m.lefts.length+(m.inner+1),prec:= -1,code:=w.code,args:=p.right,at_:=w.at_}]} js {p with right:=p.right++[1000+m.lefts.length+(m.inner+1)]} ⟨h.e,h.toks,h.nd,h.lt⟩ (λu hu=>hg u (List.mem_cons_of_mem _ hu)) (λq hq2=>by
        dsimp only at hq2;rcases List.mem_append.1 hq2 with hq2|hq2
        . exact hq q hq2
        . rw[List.mem_singleton]at hq2;subst hq2;simp)
       dsimp only at k2 k3;rw[List.length_append]at k3;exact⟨k1,o_,by simp at k3;omega,k4⟩
def VA(lefts:List (List UInt8))(a:Alt):Prop:=(∀w∈a.parts,w.code≠[]\/qat lefts w.sym)/\a.prec={}/\vY a.parts<=1/\a.parts.length<=6
theorem qhL{m:Mk}{js:List Nat}(n:List UInt8){a:Alt}(h:LInv m js)(ha:VA m.lefts a)(hq:∀q∈m.prods,q.right.length<=8):
 (∃js',LInv (QD m n a) js')/\(QD m n a).inner<=m.inner+1/\(QD m n a).prods.length<=m.prods.length+2/\(∀q∈(QD m n a).prods,q.right.length<=8):=by
 obtain ⟨h1,h2,h3,h4⟩:=ha;obtain ⟨⟨js',k1⟩,k2,k3,k4⟩:=XP a.parts m js {left:=1+qp n m.lefts 0,prec:= -1,at_:=a.at_} h h1 hq;obtain ⟨g1,g2,g3,g4,g5,g6,g7,g8,g9,g10⟩:=Ji a.parts m {left:=1+qp n m.lefts 0,prec:= -1,at_:=a.at_};unfold QD;dsimp only;generalize qZ a.parts (m,{left:=1+qp n m.lefts 0,prec:= -1,at_:=a.at_})=q at *;rw[h2];rw[if_neg (by simp)];refine⟨⟨js',k1.e,k1.toks,k1.nd,k1.lt⟩,by dsimp only;omega,by dsimp only;rw[List.length_append];simp;omega,λp hp=>?_⟩;dsimp only at hp;rcases List.mem_append.1 hp with hp|hp
 . exact k4 p hp
 . rw[List.mem_singleton]at hp;subst hp;simp at g8 ⊢;omega
theorem VX(n:List UInt8):∀(l:List Alt) (m:Mk) (js:List Nat),LInv m js->(∀a∈l,VA m.lefts a)->(∀q∈m.prods,q.right.length<=8)->
 (∃js',LInv (zo n l m) js')/\(zo n l m).inner<=m.inner+l.length/\(zo n l m).prods.length<=m.prods.length+2 *l.length/\(∀q∈(zo n l m).prods,q.right.length<=8)
 |[],m,js,h,_,hq=>by rw[KC];exact⟨⟨js,h⟩,by simp,by simp,hq⟩
 | a::r,m,js,h,ha,hq=>by rw[jO];obtain ⟨⟨js1,h1⟩,h2,h3,h4⟩:=qhL n h (ha a (by simp)) hq;obtain ⟨k1,k2,k3,k4⟩:=VX n r (QD m n a) js1 h1 (λb hb=>by rw[(qh3 m n a).1];exact ha b (List.mem_cons_of_mem _ hb)) h4;exact⟨k1,by rw[List.length_cons];omega,by rw[List.length_cons];omega,k4⟩
def Kk(l:List Rule):Nat:=(l.map λr=>r.alts.length).sum
theorem K5:∀(l:List Rule) (m:Mk) (js:List Nat),LInv m js->(∀r∈l,∀a∈r.alts,VA m.lefts a)->(∀q∈m.prods,q.right.length<=8)->
 (∃js',LInv (xg l m) js')/\(xg l m).inner<=m.inner+Kk l/\(xg l m).prods.length<=m.prods.length+2 *Kk l/\(∀q∈(xg l m).prods,q.right.length<=8)
 |[],m,js,h,_,hq=>by rw[qcL];exact⟨⟨js,h⟩,by simp[Kk],by simp[Kk],hq⟩
 | r::l,m,js,h,ha,hq=>by rw[xJ];obtain ⟨⟨js1,h1⟩,h2,h3,h4⟩:=VX r.left r.alts m js h (ha r (by simp)) hq;obtain ⟨k1,k2,k3,k4⟩:=K5 l (zo r.left r.alts m) js1 h1 (λq hq2 a hb=>by rw[(Jd r.left r.alts m).2];exact ha q (List.mem_cons_of_mem _ hq2) a hb) h4;have e:Kk (r::l)=r.alts.length+Kk l:=(by simp[Kk]);exact⟨k1,by rw[e];omega,by rw[e];omega,k4⟩
theorem KF:∀(l:List Rule) (m:Mk) (js:List Nat),LInv m js->(∀r∈l,∃k:Nat,k<4/\r.left=V6 k)->LInv (jD l m) js/\(jD l m).lefts.length<=m.lefts.length+l.length/\(∀n∈m.lefts,n∈(jD l m).lefts)/\∀r∈l,r.left∈(jD l m).lefts
 |[],m,js,h,_=>by rw[qb3];exact⟨h,by simp,λn hn=>hn,λr hr=>by cases hr⟩
 | r ::l,m,js,h,hl=>by
   rw[kI];obtain ⟨k,hk,hr⟩:=hl r (by simp);have hd:QH m r=m:=(by unfold QH;rw[if_neg (by rw[hr,h.non hk];omega)]);rw[hd];have ha:LInv (ZV m r.left) js/\(ZV m r.left).lefts.length<=m.lefts.length+1/\(∀n∈m.lefts,n∈(ZV m r.left).lefts)/\r.left∈(ZV m r.left).lefts:=by
    unfold ZV;split
    . exact⟨⟨h.e,h.toks,h.nd,h.lt⟩,by simp,λn hn=>List.mem_append_left _ hn,by simp⟩
    . rename_i hc;refine⟨h,o_,λn hn=>hn,Classical.byContradiction λhn=>hc ?_⟩
      have:∀(l:List (List UInt8)) (i:Nat),r.left ∉ l->qp r.left l i= -1:=by
       intro l
       induction l with
       |nil=>intro i _;rfl
       |cons t u ih=>intro i hni;unfold qp;rw[if_neg (λe=>hni (by simp[e]))];exact ih _ (λhm=>hni (List.mem_cons_of_mem _ hm))
      rw[this _ _ hn];omega
   obtain ⟨a1,a2,a3,a4⟩:=ha;obtain ⟨k1,k2,k3,k4⟩:=KF l (ZV m r.left) js a1 (λq hq=>hl q (List.mem_cons_of_mem _ hq));refine⟨k1,by rw[List.length_cons];omega,λn hn=>k3 n (a3 n hn),λq hq=>?_⟩;rcases List.mem_cons.1 hq with rfl|hq
   . exact k3 _ a4
   . exact k4 q hq
theorem Kn:∀(ds:List Decl) (m:Mk),(∀d∈ds,d.kind<5)->Qo ds m=m
 |[],m,_=>rfl
 | d::r,m,h=>by
   rw[kV];have hk:=h d (by simp)
   have:∀(l:List Sym),jW d.kind l m=m:=by
    intro l
    induction l with
    |nil=>rfl
    |cons x t ih=>rw[yF];unfold qjp;rw[if_neg o_];exact ih
   rw[this];exact Kn r m (λe he=>h e (List.mem_cons_of_mem _ he))
theorem Qi:∀(n:Nat) (l:List Nat),l.Nodup->(∀x∈l,x<n)->l.length<=n
 | 0,l,_,h=>by
   cases l with
   |nil=>simp
   |cons a r=>have:=h a (by simp);omega
 | n +1,l,hn,h=>by
   by_cases hm:n∈l
   . have h1:=Qi n (l.erase n) (hn.erase n) (λx hx=>by
      have:=h x (List.mem_of_mem_erase hx);have hne:x≠n:=λe=>by subst e;exact(List.Nodup.mem_erase_iff hn).1 hx |>.1 rfl
      omega)
     rw[List.length_erase_of_mem hm]at h1;omega
   . have h1:=Qi n l hn (λx hx=>by
      have:=h x hx;have hne:x≠n:=λe=>by subst e;exact hm hx
      omega)
     omega
theorem qi7{src:Source}{iss:List (List Nat)}(hmay:Yz src=true)(hd1:src.decls.length=iss.length)(hd2:∀(k:Nat) d is,src.decls[k]?=some d->iss[k]?=some is->VF d is)(hd3:iss.flatten.Nodup)(hd4:∀i∈iss.flatten,i<4)
(hr1:src.rules.length<=4)(hr2:∀r∈src.rules,∃k:Nat,k<4/\r.left=V6 k)(hr3:∀lefts,(∀r∈src.rules,r.left∈lefts)->∀r∈src.rules,∀a∈r.alts,VA lefts a)(hr4:Kk src.rules<=15):Xr src=true:=by
 have h0:LInv {} []:=⟨rfl,rfl,by simp,λj h=>by cases h⟩;obtain ⟨d1,d2⟩:=qcu src.decls iss {} [] [] h0 hd1 hd2 (by simpa using hd3) hd4;rw[List.nil_append]at d1;obtain ⟨l1,l2,l3,l4⟩:=KF src.rules (zZ src.decls ({},[])).1 _ d1 hr2;have hu:XT src=jD src.rules (zZ src.decls ({},[])).1:=Kn _ _ (λd hd=>by
  obtain ⟨k,hk⟩:=List.getElem?_of_mem hd;obtain ⟨is,hi⟩:∃is,iss[k]?=some is:=⟨_,ge_ (by have:=(List.getElem?_eq_some_iff.1 hk).1;omega)⟩;have:=(hd2 k d is hk hi).1;omega)
 have hl0:(zZ src.decls ({},[])).1.lefts=[]:=(qaX src.decls {} []).1.1;rw[hl0]at l2;obtain ⟨p1,p2,p3⟩:=qfD src;have hP:LInv {XT src with prods:=[Jm src]} iss.flatten:=by rw[hu];exact⟨l1.e,l1.toks,l1.nd,l1.lt⟩
 obtain ⟨⟨js,k1⟩,k2,k3,k4⟩:=K5 src.rules {XT src with prods:=[Jm src]} _ hP (hr3 _ (by dsimp only;rw[hu];exact l4)) (λq hq=>by
  dsimp only at hq;rw[List.mem_singleton]at hq;subst hq;simp[Jm])
 rw[<- Zp]at k1 k2 k3 k4;have hn:=Qi 4 js k1.nd k1.lt;have hl:=k1.len;obtain ⟨n1,n2,n3⟩:=YL (z8 src);have hll:=(XA src.rules {XT src with prods:=[Jm src]}).2;rw[<- Zp]at hll;dsimp only at hll k2 k3;rw[hu]at hll;have hlong:Yc (yh (z8 src))=false:=by
  unfold Yc;simp only[Bool.or_eq_false_iff,decide_eq_false_iff_not,List.any_eq_false,decide_eq_true_eq];refine⟨⟨⟨o_,?_⟩,?_⟩,λp hp=>?_⟩
  . rw[n2,hll];simp at l2;omega
  . rw[n3];simp at k3;omega
  . rw[n3]at hp;have:=k4 p hp;omega
 unfold Xr ofS;rw[if_pos hmay,if_neg (by simp[k1.e]),if_neg (by simp[hlong])];rfl

theorem Yx(x:GrI):1<=xW x/\xW x<=4:=by unfold xW;omega
def xh(l:List Part):Nat:=(l.filter λw=> !decide (w.code=[])).length
theorem KQ(l m:List Part):xh (l++m)=xh l+xh m:=by simp[xh]
theorem qcy:∀(l:List Part),vY l<=xh l
 |[]=>Nat.le_refl _
 | w::r=>by
   have:=qcy r;have e:xh (w::r)=(if w.code=[]then 0 else 1)+xh r:=by unfold xh;rw[List.filter_cons];by_cases h:w.code=[]<;>simp[h];omega
   unfold vY;rw[e];by_cases h:w.code=[]
   . simp[h];exact this
   . rw[if_neg h];split<;>omega
theorem YI:∀(l:List Part) (w:Part),vY (l++[w])<=xh l
 |[],w=>by simp[vY]
 | v::r,w=>by
   have:=YI r w;have e:xh (v::r)=(if v.code=[]then 0 else 1)+xh r:=by unfold xh;rw[List.filter_cons];by_cases h:v.code=[]<;>simp[h];omega
   show (if v.code≠[]/\(r++[w])≠[]then 1 else 0)+vY (r++[w])<=_;rw[e];by_cases h:v.code=[]
   . simp[h];exact this
   . rw[if_neg h];split<;>omega
theorem qcO(l:List Int)(n:Nat)(mid:Bool)(j:Nat):xh (j5 l n mid j)<=1/\(j5 l n mid j).length<=j+1/\(j=0->j5 l n mid j=[]):=by
 induction j with
 |zero=>exact⟨by simp[j5,xh],by simp[j5],λ_=>rfl⟩
 | succ j ih=>
   obtain ⟨h1,h2,h3⟩:=ih;unfold j5;refine⟨?_,?_,λh=>by omega⟩
   . rw[KQ,KQ];have e1:xh [({sym:=qj5 l n (j+1)}:Part)]=0:=(by simp[xh]);rw[e1];by_cases hj:j=0
     . rw[h3 hj];split<;>simp[xh,QZ]
     . rw[if_neg (λe=>hj e.1)];simp[xh]at h1 ⊢;exact h1
   . rw[List.length_append,List.length_append];by_cases hj:j=0
     . rw[h3 hj];split<;>simp[hj]
     . rw[if_neg (λe=>hj e.1)];simp;exact h2
theorem KJ{l:List Int}{n:Nat}{mid:Bool}{w:Part}:∀{j:Nat},w∈j5 l n mid j->(∃y:Int,w={sym:=KT y n})\/w={code:=QZ}
 |0,h=>by cases h
 | j +1,h=>by
   unfold j5 at h;rcases List.mem_append.1 h with h|h
   . rcases List.mem_append.1 h with h|h
     . exact KJ h
     . rw[List.mem_singleton]at h;exact Or.inl ⟨_,h⟩
   . split at h
     . rw[List.mem_singleton]at h;exact Or.inr h
     . cases h
theorem Yt{l inner:List Int}{n i:Nat}{w:Part}(h:w∈(qbV l n inner i).parts):(∃y:Int,w={sym:=KT y n})\/w={code:=QZ}\/w={code:=XF}:=by
 unfold qbV at h;dsimp only at h;rcases List.mem_append.1 h with h|h
 . rcases KJ h with h|h
   . exact Or.inl h
   . exact Or.inr (Or.inl h)
 . split at h
   . rw[List.mem_singleton]at h;exact Or.inr (Or.inr h)
   . cases h
theorem qgS{lefts:List (List UInt8)}{n:Nat}(hn:0<n)(hl:∀k:Nat,k<n->V6 k∈lefts)(y:Int):qat lefts (KT y n):=by
 have e1:=Int.emod_nonneg y (show (14:Int)≠0 by omega);have e3:=Int.emod_lt_of_pos (y % 14) (show (0:Int)<n by omega);have e4:=Int.emod_nonneg (y % 14) (show (n:Int)≠0 by omega);unfold KT;split
 . have:=hl (y % 14 % n).toNat o_;rw[Int.toNat_of_nonneg e4]at this;exact Or.inr (Or.inl ⟨rfl,this⟩)
 . split
   . exact Or.inr (Or.inr rfl)
   . exact Or.inl ⟨_,rfl⟩
theorem YP{lefts:List (List UInt8)}{n:Nat}(hn:0<n)(hl:∀k:Nat,k<n->V6 k∈lefts)(l inner:List Int)(i:Nat):VA lefts (qbV l n inner i):=by
 obtain ⟨h1,h2,_⟩:=qcO l n (qgx inner i) (min 4 (l.length - 1));refine⟨λw hw=>?_,rfl,?_,?_⟩
 . rcases Yt hw with ⟨y,rfl⟩|rfl|rfl
   . exact Or.inr (qgS hn hl y)
   . exact Or.inl (by simp[QZ])
   . exact Or.inl (by simp[XF])
 . unfold qbV;dsimp only;split
   . exact Nat.le_trans (YI _ _) h1
   . rw[List.append_nil];exact Nat.le_trans (qcy _) h1
 . unfold qbV;dsimp only;rw[List.length_append];split<;>simp<;>omega
theorem kW{x:GrI}{n:Nat}:∀{i k:Nat} {a:Alt},a∈(zb x n i).1 k->∃l j,a=qbV l n x.inner j
 |0,k,a,h=>by cases h
 | i + 1,k,a,h=>by
   unfold zb yK at h;dsimp only at h;split at h
   . exact kW h
   . unfold qK at h;dsimp only at h;split at h
     . rcases List.mem_append.1 h with h|h
       . exact kW h
       . rw[List.mem_singleton]at h;exact⟨_,_,h⟩
     . exact kW h
theorem YC{x:GrI}{n i k:Nat}{a:Alt}(h:a∈Z9 x.bare (zb x n i) k):(∃l j,a=qbV l n x.inner j)\/a={parts:=[{sym:=jU k}]}:=by
 unfold Z9 at h;split at h
 . rcases List.mem_append.1 h with h|h
   . exact Or.inl (kW h)
   . rw[List.mem_singleton]at h;exact Or.inr h
 . exact Or.inl (kW h)
theorem qpa(b:Bool)(q:(Nat->List Alt)×(Nat->Bool))(k:Nat):Z9 b q k≠[]:=by
 unfold Z9;split
 . simp
 . rename_i h;exact λe=>h (Or.inl e)
theorem qjK{f:Nat->List Alt}{k:Nat}{v:List Alt}(hv:v.length<=(f k).length+1)(n:Nat):((List.range n).map λq=>(qK f k v q).length).sum<=((List.range n).map λq=>(f q).length).sum+1/\(n<=k->((List.range n).map λq=>(qK f k v q).length).sum=((List.range n).map λq=>(f q).length).sum):=by
 induction n with
 |zero=>simp
 | succ n ih=>
   obtain ⟨h1,h2⟩:=ih;rw[List.range_succ,List.map_append,List.map_append,List.sum_append,List.sum_append];simp only[List.map_cons,List.map_nil,List.sum_cons,List.sum_nil,Nat.add_zero];by_cases e:n=k
   . subst e;have:=h2 (Nat.le_refl _);have e3:qK f n v n=v:=(by unfold qK;rw[if_pos rfl]);rw[e3];exact⟨o_,λh=>by omega⟩
   . have e3:qK f k v n=f n:=(by unfold qK;rw[if_neg e]);rw[e3];exact⟨o_,λh=>by have:=h2 o_;omega⟩
theorem qfP(x:GrI)(n i:Nat):((List.range n).map λq=>((zb x n i).1 q).length).sum<=i:=by
 induction i with
 | zero=>
   have:∀m,((List.range m).map λq=>((zb x n 0).1 q).length).sum=0:=λm=>by
    induction m with
    |zero=>rfl
    |succ m ih=>rw[List.range_succ,List.map_append,List.sum_append,ih];simp[zb]
   rw[this];exact Nat.le_refl _
 | succ i ih=>
   unfold zb yK;dsimp only;split
   . omega
   . have:=(qjK (f:=(zb x n i).1) (k:=((x.rules.getD i []).getD 0 0 % (n:Int)).toNat) (v:=(zb x n i).1 ((x.rules.getD i []).getD 0 0 % (n:Int)).toNat++[qbV (x.rules.getD i []) n x.inner i]) (by simp) n).1;exact Nat.le_trans this o_
theorem qkD(b:Bool)(q:(Nat->List Alt)×(Nat->Bool))(n:Nat):((List.range n).map λk=>(Z9 b q k).length).sum<=((List.range n).map λk=>(q.1 k).length).sum+n:=by
 induction n with
 |zero=>simp
 | succ n ih=>
   rw[List.range_succ,List.map_append,List.map_append,List.sum_append,List.sum_append];simp only[List.map_cons,List.map_nil,List.sum_cons,List.sum_nil,Nat.add_zero]
   have:(Z9 b q n).length<=(q.1 n).length+1:=by unfold Z9;split<;>simp
   omega
theorem qew{n:Nat}(hn:0<n)(hn4:n<=4)(y:Int):qeh (KT y n) false true=true:=by
 have e1:=Int.emod_nonneg y (show (14:Int)≠0 by omega);have e3:=Int.emod_lt_of_pos (y % 14) (show (0:Int)<n by omega);have e4:=Int.emod_nonneg (y % 14) (show (n:Int)≠0 by omega);have hN:∀k:Nat,k<4->qeh {name:=V6 k} false true=true:=by decide
 have hL:∀k:Nat,k<4->qeh (jU k) false true=true:=by decide
 unfold KT;split
 . have:=hN (y % 14 % n).toNat o_;rw[Int.toNat_of_nonneg e4]at this;exact this
 . split
   . decide
   . rw[YA];exact hL _ o_
theorem qha{n:Nat}(hn:0<n)(hn4:n<=4){l inner:List Int}{i:Nat}{w:Part}(h:w∈(qbV l n inner i).parts):Yn w=true:=by
 rcases Yt h with ⟨y,rfl⟩|rfl|rfl
 . exact qew hn hn4 y
 . decide
 . decide
theorem qdu(x:GrI):Yz (qz x)=true:=by
 obtain ⟨h1,h2⟩:=Yx x;obtain ⟨iss,d1,d2,d3,d4⟩:=Zq x.levels (min 4 x.levels.length) o_;have hN:∀k:Nat,k<4->qb6 (V6 k)=true:=by decide
 have hL1:∀k:Nat,k<4->∀b,qeh (jU k) b true=true:=by decide
 have hd:(yC x.levels).all Vh=true:=List.all_eq_true.2 λd hd=>by
  obtain ⟨k,hk⟩:=List.getElem?_of_mem hd;have hki:k<iss.length:=by have h3:=(List.getElem?_eq_some_iff.1 hk).1;unfold yC at h3;omega
  obtain ⟨q1,q2,q3,q4⟩:=d2 k d iss[k] hk (ge_ hki);unfold Vh qqp;have hs:d.syms.length≠0:=by rw[q3,List.length_map];exact λe=>q4 (List.length_eq_zero_iff.1 e)
  rw[Bool.and_eq_true];refine⟨?_,List.all_eq_true.2 λy hy=>?_⟩
  . have e1:decide (d.kind<1)=false:=(by rw[decide_eq_false_iff_not];omega);have e2:decide (6<d.kind)=false:=(by rw[decide_eq_false_iff_not];omega);have e3:decide ((d.syms.length:Int)=0)=false:=(by rw[decide_eq_false_iff_not];omega);have e4:decide (d.kind=6)=false:=(by rw[decide_eq_false_iff_not];omega);have e5:decide (d.kind=5)=false:=(by rw[decide_eq_false_iff_not];omega);rw[e1,e2,e3,e4,e5,q2];rfl
  . rw[q3]at hy;obtain ⟨i,hi,rfl⟩:=List.mem_map.1 hy;have hi4:=d4 i (List.mem_flatten.2 ⟨_,List.getElem_mem hki,hi⟩);have e5:decide (d.kind<5)=true:=(by rw[decide_eq_true_eq];omega);rw[e5];exact hL1 i o_ _
 have hr:(qz x).rules.all Kj=true:=List.all_eq_true.2 λr hr=>by
  obtain ⟨k,hk,rfl⟩:=List.mem_map.1 hr;have hkn:=List.mem_range.1 hk;unfold Kj;rw[Bool.and_eq_true,Bool.and_eq_true];refine⟨⟨hN k o_,by simp[qpa]⟩,List.all_eq_true.2 λa ha=>?_⟩;rcases YC ha with ⟨l,j,rfl⟩|rfl
  . unfold qiv;rw[Bool.and_eq_true];exact⟨List.all_eq_true.2 λw hw=>qha o_ o_ hw,rfl⟩
  . unfold qiv;rw[Bool.and_eq_true];refine⟨?_,rfl⟩;simp[Yn,hL1 k o_]
 have hne:(qz x).rules≠[]:=λe=>by have:=congrArg List.length e;simp[qz]at this;omega
 unfold Yz;rw[hr];have hp:(qz x).pro=[]:=rfl;have hdd:(qz x).decls=yC x.levels:=rfl;rw[hp,hdd,hd];simp[hne,qlI]
theorem Zj(x:GrI):Xr (qz x)=true:=by
 obtain ⟨h1,h2⟩:=Yx x;obtain ⟨iss,d1,d2,d3,d4⟩:=Zq x.levels (min 4 x.levels.length) o_;refine qi7 (iss:=iss) (qdu x) d1 d2 d3 (λi hi=>by have:=d4 i hi;omega) (by simp[qz];exact h2) (λr hr=>?_) (λlefts hl r hr a ha=>?_) ?_
 . obtain ⟨k,hk,rfl⟩:=List.mem_map.1 hr;have:=List.mem_range.1 hk;exact⟨k,o_,rfl⟩
 . have hll:∀k:Nat,k<xW x->V6 k∈lefts:=λk hk=>hl {left:=V6 k,alts:=Z9 x.bare (zb x (xW x) (min 9 x.rules.length)) k} (List.mem_map.2 ⟨k,List.mem_range.2 hk,rfl⟩);obtain ⟨k,hk,rfl⟩:=List.mem_map.1 hr;rcases YC ha with ⟨l,j,rfl⟩|rfl
   . exact YP o_ hll l x.inner j
   . exact⟨λw hw=>by rw[List.mem_singleton]at hw;subst hw;exact Or.inr (Or.inl ⟨_,rfl⟩),rfl,by simp[vY],by simp⟩
 . have e:Kk (qz x).rules=((List.range (xW x)).map λk=>(Z9 x.bare (zb x (xW x) (min 9 x.rules.length)) k).length).sum:=by
    unfold Kk qz;dsimp only;rw[List.map_map];rfl
   have:=qkD x.bare (zb x (xW x) (min 9 x.rules.length)) (xW x);have:=qfP x (xW x) (min 9 x.rules.length);omega
theorem XR:∀{iss:List (List Nat)},iss.flatten.Nodup->∀is∈iss,is.Nodup
 |[],_,is,h=>by cases h
 | a::r,hn,is,h=>by
   rw[List.flatten_cons,List.nodup_append]at hn;rcases List.mem_cons.1 h with rfl|h
   . exact hn.1
   . exact XR hn.2.1 is h
theorem X5(x:GrI):(qz x).Fits:=by
 obtain ⟨h1,h2⟩:=Yx x;obtain ⟨iss,d1,d2,d3,d4⟩:=Zq x.levels (min 4 x.levels.length) o_;have hlen:(yC x.levels).length<=4:=by
  have h5:iss.length<=iss.flatten.length:=by
   have hne:∀is∈iss,is≠[]:=λis hi=>by obtain ⟨k,hk⟩:=List.getElem?_of_mem hi;obtain ⟨d,hd⟩:∃d,(jk x.levels (min 4 x.levels.length))[k]?=some d:=⟨_,ge_ (by have:=(List.getElem?_eq_some_iff.1 hk).1;omega)⟩;exact(d2 k d is hd hk).2.2.2
   clear d1 d2 d3 d4
   induction iss with
   |nil=>simp
   | cons a r ih=>
     have:=ih λis hi=>hne is (List.mem_cons_of_mem _ hi);have ha:=List.length_pos_iff.2 (hne a (by simp));rw[List.flatten_cons,List.length_append,List.length_cons];omega
  have h6:=Qi (min 4 x.levels.length) _ d3 d4
  show (jk x.levels (min 4 x.levels.length)).length<=4;omega
 refine⟨by simp[qz],by simp[qz],by show (yC x.levels).length<=_;omega,λd hd=>?_,by simp[qz];omega,λr hr=>?_⟩
 . obtain ⟨k,hk⟩:=List.getElem?_of_mem hd;have hki:k<iss.length:=(by have h3:=(List.getElem?_eq_some_iff.1 hk).1;unfold qz yC at h3;dsimp only at h3;omega);obtain ⟨q1,q2,q3,q4⟩:=d2 k d iss[k] hk (ge_ hki);have h6:iss[k].length<=4:=Qi 4 _ (XR d3 _ (List.getElem_mem hki)) (λi hi=>by have:=d4 i (List.mem_flatten.2 ⟨_,List.getElem_mem hki,hi⟩);omega);refine⟨by simp[q2],by rw[q3,List.length_map];omega,λy hy=>?_⟩;rw[q3]at hy;obtain ⟨i,hi,rfl⟩:=List.mem_map.1 hy;have hi4:=d4 i (List.mem_flatten.2 ⟨_,List.getElem_mem hki,hi⟩);rw[(jG (show i<4 by omega)).1];simp
 . obtain ⟨k,hk,rfl⟩:=List.mem_map.1 hr;have hkn:=List.mem_range.1 hk;have hfl:(Z9 x.bare (zb x (xW x) (min 9 x.rules.length)) k).length<=20:=by
    have:=Zh x (xW x) (min 9 x.rules.length) k;unfold Z9;split<;>simp<;>omega
   have hsn:∀y:Int,(KT y (xW x)).name.length<=5:=λy=>by
    have hg:=qew (n:=xW x) o_ o_ y;unfold KT;split
    . simp
    . split
      . simp
      . rw[YA,(jG (show ((y % 14 - 5) % 4).toNat<4 by omega)).1];simp
   refine⟨by simp,by dsimp only;omega,λa ha=>?_⟩;rcases YC ha with ⟨l,j,rfl⟩|rfl
   . obtain ⟨_,_,_,g4⟩:=YP (lefts:=(List.range (xW x)).map λk:Nat=>V6 k) (n:=xW x) o_ (λk hk=>List.mem_map.2 ⟨k,List.mem_range.2 hk,rfl⟩) l x.inner j;refine⟨o_,λw hw=>?_,by simp[qbV]⟩;rcases Yt hw with ⟨y,rfl⟩|rfl|rfl
     . exact⟨by have:=hsn y;dsimp only;omega,by simp⟩
     . exact⟨by simp,by simp[QZ]⟩
     . exact⟨by simp,by simp[XF]⟩
   . refine⟨by simp,λw hw=>?_,by simp⟩;rw[List.mem_singleton]at hw;subst hw;rw[Part.Fits,(jG (show k<4 by omega)).1];simp
theorem qbr(x:GrI):Small (qz x):=by
 obtain ⟨h1,h2⟩:=Yx x;obtain ⟨f1,f2,f3,f4,f5,f6⟩:=X5 x;obtain ⟨iss,d1,d2,d3,d4⟩:=Zq x.levels (min 4 x.levels.length) o_;have hd:∀d∈(qz x).decls,∃is:List Nat,VF d is/\is.length<=4/\∀i∈is,i<4:=λd hd=>by
  obtain ⟨k,hk⟩:=List.getElem?_of_mem hd;have hki:k<iss.length:=by have h3:=(List.getElem?_eq_some_iff.1 hk).1;unfold qz yC at h3;dsimp only at h3;omega
  have hi4:∀i∈iss[k],i<4:=λi hi=>by have:=d4 i (List.mem_flatten.2 ⟨_,List.getElem_mem hki,hi⟩);omega
  exact⟨iss[k],d2 k d iss[k] hk (ge_ hki),Qi 4 _ (XR d3 _ (List.getElem_mem hki)) hi4,hi4⟩
 have hlen:(qz x).decls.length<=4:=by
  have h5:iss.length<=iss.flatten.length:=by
   have hne:∀is∈iss,is≠[]:=λis hi=>by obtain ⟨k,hk⟩:=List.getElem?_of_mem hi;obtain ⟨d,hd⟩:∃d,(jk x.levels (min 4 x.levels.length))[k]?=some d:=⟨_,ge_ (by have:=(List.getElem?_eq_some_iff.1 hk).1;omega)⟩;exact(d2 k d is hd hk).2.2.2
   clear d1 d2 d3 d4
   induction iss with
   |nil=>simp
   | cons a r ih=>
     have:=ih λis hi=>hne is (List.mem_cons_of_mem _ hi);have ha:=List.length_pos_iff.2 (hne a (by simp));rw[List.flatten_cons,List.length_append,List.length_cons];omega
  have h6:=Qi (min 4 x.levels.length) _ d3 d4
  show (jk x.levels (min 4 x.levels.length)).length<=4;omega
 have hsn:∀y:Int,(KT y (xW x)).lit=true->(KT y (xW x)).name≠[]:=λy=>by
  unfold KT;split
  . intro e;cases e
  . split
    . intro e;cases e
    . intro _;rw[YA,(jG (show ((y % 14 - 5) % 4).toNat<4 by omega)).1];simp
 have ha:∀r∈(qz x).rules,r.alts.length<=20/\∀a∈r.alts,a.parts.length<=6/\a.prec={}/\∀w∈a.parts,w.sym.lit=true->w.sym.name≠[]:=λr hr=>by
  obtain ⟨k,hk,rfl⟩:=List.mem_map.1 hr;have hkn:=List.mem_range.1 hk;refine⟨?_,λa ha=>?_⟩
  . have:=Zh x (xW x) (min 9 x.rules.length) k;dsimp only;unfold Z9;split<;>simp<;>omega
  . rcases YC ha with ⟨l,j,rfl⟩|rfl
    . obtain ⟨_,g2,_,g4⟩:=YP (lefts:=(List.range (xW x)).map λk:Nat=>V6 k) (n:=xW x) o_ (λk hk=>List.mem_map.2 ⟨k,List.mem_range.2 hk,rfl⟩) l x.inner j;refine⟨g4,g2,λw hw=>?_⟩;rcases Yt hw with ⟨y,rfl⟩|rfl|rfl
      . exact hsn y
      . intro e;cases e
      . intro e;cases e
    . refine⟨by simp,rfl,λw hw _=>?_⟩;rw[List.mem_singleton]at hw;subst hw;rw[(jG (show k<4 by omega)).1];simp
 refine⟨o_,λd h=>?_,λd h=>?_,λd h y hy _=>?_,?_,λr hr=>?_,λr hr a h=>?_,λr hr a h w hw=>?_,λr hr a h e=>?_⟩
 . obtain ⟨is,⟨q1,q2,q3,q4⟩,h5,h6⟩:=hd d h;rw[q3,List.length_map];omega
 . obtain ⟨is,⟨q1,q2,q3,q4⟩,h5,h6⟩:=hd d h;omega
 . obtain ⟨is,⟨q1,q2,q3,q4⟩,h5,h6⟩:=hd d h;rw[q3]at hy;obtain ⟨i,hi,rfl⟩:=List.mem_map.1 hy;rw[(jG (h6 i hi)).1];simp
 . simp[qz];omega
 . have:=(ha r hr).1;omega
 . have:=((ha r hr).2 a h).1;omega
 . exact((ha r hr).2 a h).2.2 w hw
 . rw[((ha r hr).2 a h).2.1]at e;cases e
end Go.Proofs
