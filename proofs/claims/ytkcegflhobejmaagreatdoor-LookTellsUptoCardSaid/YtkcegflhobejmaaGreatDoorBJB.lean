import Derived.Test.YtkcegflhobejmaaGreatDoorBJA
set_option maxRecDepth 20000
set_option linter.all false
set_option maxHeartbeats 4000000
namespace Go.Proofs
open Go.E
variable {k:Nat}
theorem qkY{α:Type}{f:Nat->List α}{q:Nat}{l:List α}{b:Nat}(h:∀k,(f k).length<=b)(hl:l.length<=b+1):(qI f k l q).length<=b+1:=by
 unfold qI;split
 . exact hl
 . have:=h q;omega
theorem Zi(x:GrI)(n:Nat)(i:Nat):∀k,((zO x n i).1 k).length<=i:=by
 induction i with
 |zero=>intro k;simp[zO]
 | succ i ih=>
   intro k;unfold zO Za;dsimp only;split
   . have:=ih k;omega
   . refine qkY ih ?_;rw[List.length_append];have:=ih ((x.rules.getD i []).getD 0 0 % (n:Int)).toNat;simp only[List.length_cons,List.length_nil];omega
abbrev qzy:V:= .agg [.str [],.sl 4 true [],.sl 3 true [],.str []]
structure SrcAt(s:St)(x:GrI)(n xb rb sb hb rid:Nat)(dV:V)(vA:Nat->V)(als:Nat->List V)(q:(Nat->List Alt)×(Nat->Bool)):Prop where
 f1:s.f 1=.ptr xb 0 0
 f2:s.f 2=.ptr rb 0 0
 f3:s.f 3=vi n
 f4:s.f 4=.ptr sb 0 0
 f5:s.f 5=.msl hb 1 0 n
 hx:s.H xb=some (.own 5 [x.V] false)
 hr:s.H rb=some (.own 4 [qzy] false)
 hs:s.H sb=some (.own 4 [.agg [.str [],dV,.msl rid 3 0 n,.str []]] false)
 hh:s.H hb=some (.own 1 (kR n q.2) false)
 rw:RW s.H s.next rid n vA als q.1
 o1:xb<rb
 o2:rb<sb
 o3:sb<hb
 o4:hb<rid
variable {x:GrI} {n xb rb sb hb rid:Nat} {dV:Go.E.V} {vA:Nat->Go.E.V} {als:Nat->List Go.E.V}
theorem SrcAt.mono{s s':St}{q:(Nat->List Alt)×(Nat->Bool)}(h:SrcAt s x n xb rb sb hb rid dV vA als q)
(hf:∀t,1<=t->t<=5->s'.f t=s.f t)(hn:s.next<=s'.next)(hH:∀j,j<s.next->s'.H j=s.H j):SrcAt s' x n xb rb sb hb rid dV vA als q:=by
 have:=h.rw.lr;have o1:=h.o1;have o2:=h.o2;have o3:=h.o3;have o4:=h.o4;exact⟨by rw[hf 1 o_ o_];exact h.f1,by rw[hf 2 o_ o_];exact h.f2,by rw[hf 3 o_ o_];exact h.f3,by rw[hf 4 o_ o_];exact h.f4,by rw[hf 5 o_ o_];exact h.f5,
  by rw[hH _ o_];exact h.hx,by rw[hH _ o_];exact h.hr,by rw[hH _ o_];exact h.hs,by rw[hH _ o_];exact h.hh,h.rw.mono hn (hH _ o_) (λk _ j _ hj=>hH j hj),o1,o2,o3,o4⟩
variable {s0:St}
theorem qul{Q:Exit->St->Prop}{E:EC}(hn:0<n)(hn4:n<=4)(hb1:x.rules.length<=1099511627776)(hb2:∀l∈x.rules,l.length<=1099511627776)(hib:x.inner.length<=1099511627776)
(h:SrcAt s0 x n xb rb sb hb rid dV vA als (zO x n 0))
(hQ:∀s' vA' als',SrcAt s' x n xb rb sb hb rid dV vA' als' (zO x n (min 9 x.rules.length))->ewp Tryz.prog E Q s'):ewp Tryz.prog (.seq qeD E) Q s0:=by
 have f1:=h.f1;have f2:=h.f2;have f3:=h.f3;have f4:=h.f4;have f5:=h.f5;repeat' with_reducible first|refine s_ ?_|simp -implicitDefEqProofs only[wZZ,seval,f1,f2,f3,f4,f5]
 refine qc ?nx2 (λ(p:Nat×(Nat->V)×(Nat->List V)) s=>s.f 1=?v2_1/\s.f 2=?v2_2/\s.f 3=?v2_3/\s.f 4=?v2_4/\s.f 5=?v2_5/\s.f 7=vi p.1/\(p.1<=x.rules.length)/\(p.1<=9)/\(SrcAt s x n xb rb sb hb rid dV p.2.1 p.2.2 (zO x n p.1))) (λp=>x.rules.length - p.1) ((0,vA,als)) wj_ (by refine⟨?_,?_,?_,?_,?_,?_,wo_,wo_,(by exact h.mono (λt h1 h2=>by simp only[wL];rw[if_neg o_]) wg_ (λj hj=>mm_))⟩<;>first|(simp -implicitDefEqProofs only[wL,wM,wN,wX,seval,Option.some.injEq]<;>exact wt_)|rfl|exact⟨_,rfl⟩) ?_;intro p s hnx ⟨g1,g2,g3,g4,g5,g7,k2_0,k2_1,k2_2⟩;obtain ⟨i,vB,bls⟩:=p;dsimp only at *;have hS:=k2_2;obtain ⟨q1,q2,q3,q4,q5,hx,hr,hs,hh,hW,o1,o2,o3,o4⟩:=hS;have lr:=hW.lr;have hzi:=w1_ i;have hrl:=Zi x n i;have hst:zO x n (i+1)=Za x n i (zO x n i):=rfl;unfold Za at hst;by_cases hi:i<x.rules.length/\i<9
 . have hg:=getD_some (d:=[]) hi.1;have hmem:(x.rules.getD i [])∈x.rules:=List.mem_of_getElem? hg;have hlb:=hb2 _ hmem;by_cases hl0:x.rules.getD i []=[]
   . rw[hl0]at hg;simp only[if_pos hl0]at hst;repeat' with_reducible first|refine s_ ?_|simp -implicitDefEqProofs only[wZZ,seval,g1,g2,g3,g4,g5,g7,f1,f2,f3,f4,f5,hx,hzi]|(first|apply qa|apply ql|apply qj)<;>intro h h_<;>(try simp only[wD,reduceCtorEq]at h_)<;>(try exact wb_)<;>(try simp only[h])|refine t_ ?_
     refine⟨wk_,(i+1,vB,bls),o_,?_⟩;refine⟨?_,?_,?_,?_,?_,?_,?_,?_,?_⟩;iterate 6 (focus(first|(simp -implicitDefEqProofs only[wL,wM,wN,wX,seval,Option.some.injEq,g1,g2,g3,g4,g5,g7]<;>exact wt_)|rfl|exact⟨_,rfl⟩))
     all_goals try omega
     rw[hst];exact k2_2.mono (λt h1 h2=>by simp only[wL];(repeat first|rw[if_pos rfl]|rw[if_neg o_])) wg_ (λj hj=>mm_)
   . simp only[if_neg hl0]at hst;have tail:=λs0 x n i a xb Q=> @qzJ s0 x n i a xb qg0 Q
     show ewp _ (.seq quQ (.seq (.block 3 (.seq qwX (.seq (.reg qsr) (.seq (.reg qtR) (.seq (.reg qww) (.seq qiH (.seq qhu qg0))))))) (.reg qvb))) _ _;generalize (EC.seq qiH (.seq qhu qg0))=F at tail;have hl1:0<(x.rules.getD i []).length:=List.length_pos_iff.2 hl0;have hg0:=getD_some (d:=(0:Int)) hl1;obtain ⟨k,hk⟩:∃k:Nat,(x.rules.getD i []).getD 0 0 % (n:Int)=k:=⟨((x.rules.getD i []).getD 0 0 % (n:Int)).toNat,by have:=Int.emod_nonneg ((x.rules.getD i []).getD 0 0) (show (n:Int)≠0 by omega);omega⟩;have hkn:k<n:=(by have:=Int.emod_lt_of_pos ((x.rules.getD i []).getD 0 0) (show (0:Int)<n by omega);omega);rw[hk,Int.toNat_natCast]at hst;repeat' with_reducible first|refine s_ ?_|simp -implicitDefEqProofs only[wZZ,seval,g1,g2,g3,g4,g5,g7,f1,f2,f3,f4,f5,hx,hzi,hk]|(first|apply qa|apply ql|apply qj)<;>intro h h_<;>(try simp only[wD,reduceCtorEq]at h_)<;>(try exact wb_)<;>(try simp only[h])|refine t_ ?_|refine zJ we_ we_ (qR wf_ wf_) ?_
     have hne6:∀j,j<s.next->j≠s.next+26:=λj hj=>o_
     refine tail _ x n i (s.next+26) xb _ hn hn4 hi.1 hi.2 hl0 hlb hib (by(simp -implicitDefEqProofs only[wL,seval,q1])) (by(simp -implicitDefEqProofs only[wL,seval,q3])) (by(simp -implicitDefEqProofs only[wL,seval,g7])) (by(simp -implicitDefEqProofs only[wL,seval])) (by(simp -implicitDefEqProofs only[wL,seval])) (by(simp only[wM];(repeat first|rw[if_pos trivial]|rw[if_pos rfl]|rw[if_neg o_]));exact hx) wc_ wg_ wg_ o_ (λs2 hA=>?_);obtain ⟨⟨vP,es,oA,GP,eP,hfr⟩,hpl,hfl,hhp,hnx2⟩:=hA;simp only[wN]at hnx2 hfr;have hhp2:∀j,j<s.next->s2.H j=s.H j:=λj hj=>by rw[hhp j wh_ o_];(simp only[wM];(repeat first|rw[if_pos trivial]|rw[if_pos rfl]|rw[if_neg o_]))
     have r1:s2.f 1=.ptr xb 0 0:=(by rw[hfl 1 o_];(simp -implicitDefEqProofs only[wL,seval,q1]));have r2:s2.f 2=.ptr rb 0 0:=(by rw[hfl 2 o_];(simp -implicitDefEqProofs only[wL,seval,q2]));have r3:s2.f 3=vi n:=(by rw[hfl 3 o_];(simp -implicitDefEqProofs only[wL,seval,q3]));have r4:s2.f 4=.ptr sb 0 0:=(by rw[hfl 4 o_];(simp -implicitDefEqProofs only[wL,seval,q4]));have r5:s2.f 5=.msl hb 1 0 n:=(by rw[hfl 5 o_];(simp -implicitDefEqProofs only[wL,seval,q5]));have r7:s2.f 7=vi i:=(by rw[hfl 7 o_];(simp -implicitDefEqProofs only[wL,seval,g7]));have r8:s2.f 8=vi k:=(by rw[hfl 8 o_];(simp -implicitDefEqProofs only[wL,seval]));have r9:s2.f 9=.ptr (s.next+26) 0 0:=(by rw[hfl 9 o_];(simp -implicitDefEqProofs only[wL,seval]));have hx2:=hx;rw[<- hhp2 xb o_]at hx2;have hr2:=hr;rw[<- hhp2 rb o_]at hr2;have hs2:=hs;rw[<- hhp2 sb o_]at hs2;have hh2:=hh;rw[<- hhp2 hb o_]at hh2;have hW2:RW s2.H s2.next rid n vB bls (zO x n i).1:=hW.mono o_ (hhp2 _ lr) (λq _ j _ hj=>hhp2 j hj);have hR2:=hW2.ho;have hG2:=hW2.gr k hkn;have n1:=hW2.ne (λf e=>by rw[hR2]at e;cases e) hkn (j:=rid);have n2:=hW2.ne (λf e=>by rw[hs2]at e;cases e) hkn (j:=sb);have n3:=hW2.ne (λf e=>by rw[hh2]at e;cases e) hkn (j:=hb);have n4:=hW2.ne (λf e=>by rw[oA]at e;cases e) hkn (j:=s.next+26);have n5:=hW2.ne (λf e=>by rw[hx2]at e;cases e) hkn (j:=xb);have n6:=hW2.ne (λf e=>by rw[hr2]at e;cases e) hkn (j:=rb);have hll:=(hW.ep k hkn).len;rw[List.length_map]at hll;have hrk:=hrl k;generalize qbN (x.rules.getD i []) n=pl at *;repeat' with_reducible first|refine s_ ?_|simp -implicitDefEqProofs only[wZZ,seval,g1,g2,g3,g4,g5,g7,r1,r2,r3,r4,r5,r7,r8,r9,hpl,hx2,hs2,hh2,hR2,oA,hzi,qb n1,qb n2,qb n3,qb n4]|(first|apply ql|apply qj)<;>intro h h_<;>(try simp only[wD,reduceCtorEq]at h_)<;>(try exact wb_)<;>(try simp only[h])|(refine ldB hkn ?_)|(refine stB hkn ?_)|apply qX rfl (hG2.mono (Nat.le_refl _) (λid h1 h2=>by(try simp only[wM]);rw[if_neg (λe=>absurd h1 (by rw[e];exact n3))]));exact qM.sl;(focus(simp only[wZ]<;>omega));(focus(unfold maxLen;simp only[wZ]<;>omega))|(refine qbM (vg hkn) rfl ?_)|apply qcx (vg hkn);exact wu_;exact wu_;exact wu_;(focus(simp only[wZ]<;>omega))|refine t_ ?_|simp -implicitDefEqProofs (disch:=omega) only[w64,if_neg]
     all_goals
      refine⟨wg_,(i+1,qI vB k (.asl (s2.next+11+11) ((bls k).length+1) 6 (bls k++[.agg [vP,.str [],.bool false,vi 0,vi 0,vi 0]])),qI bls k (bls k++[.agg [vP,.str [],.bool false,vi 0,vi 0,vi 0]])),d_,?_⟩;dsimp only;have e2:zO x n (i+1)=(qI (zO x n i).1 k ((zO x n i).1 k++[qfC (x.rules.getD i []) n x.inner i]),qI (zO x n i).2 k ((zO x n i).2 k || pl)):=hst;rw[e2];refine⟨trivial,trivial,trivial,trivial,trivial,rfl,o_,o_,⟨by(simp -implicitDefEqProofs only[wL,seval,r1]),by(simp -implicitDefEqProofs only[wL,seval,r2]),by(simp -implicitDefEqProofs only[wL,seval,r3]),by(simp -implicitDefEqProofs only[wL,seval,r4]),by(simp -implicitDefEqProofs only[wL,seval,r5]),?_,?_,?_,?_,?_,o1,o2,o3,o4⟩⟩
      . ((try simp only[wM]);(repeat first|rw[if_pos trivial]|rw[if_pos rfl]|rw[if_neg o_]|rw[qb n1]|rw[qb n2]|rw[qb n3]|rw[qb n4]|rw[qb n5]|rw[qb n6]|simp only[wM]));exact hx2
      . ((try simp only[wM]);(repeat first|rw[if_pos trivial]|rw[if_pos rfl]|rw[if_neg o_]|rw[qb n1]|rw[qb n2]|rw[qb n3]|rw[qb n4]|rw[qb n5]|rw[qb n6]|simp only[wM]));exact hr2
      . ((try simp only[wM]);(repeat first|rw[if_pos trivial]|rw[if_pos rfl]|rw[if_neg o_]|rw[qb n1]|rw[qb n2]|rw[qb n3]|rw[qb n4]|rw[qb n5]|rw[qb n6]|simp only[wM]));exact hs2
      . ((try simp only[wM]);(repeat first|rw[if_pos trivial]|rw[if_pos rfl]|rw[if_neg o_]|rw[qb n1]|rw[qb n2]|rw[qb n3]|rw[qb n4]|rw[qb n5]|rw[qb n6]|simp only[wM]));refine congrArg some (congrArg (λc=>MObj.own 1 (kR n (qI (zO x n i).2 k c)) false) ?_);simp[*]
      . refine hW2.put hkn (ErL.agg (.cons (GP.erL eP.up) (.cons (.str _) (.cons (.bool _) (.cons (.int _ _) (.cons (.int _ _) (.cons (.int _ _) .nil))))))) o_ o_ wg_ ?_ ?_ (λq hq hqk j h1 h2=>?_)
        . ((try simp only[wM]);(repeat first|rw[if_pos trivial]|rw[if_pos rfl]|rw[if_neg o_]|rw[qb n1]|rw[qb n2]|rw[qb n3]|rw[qb n4]|rw[qb n5]|rw[qb n6]|simp only[wM]));rw[qfs hkn]
        . ((try simp only[wM]);(repeat first|rw[if_pos trivial]|rw[if_pos rfl]|rw[if_neg o_]|rw[qb n1]|rw[qb n2]|rw[qb n3]|rw[qb n4]|rw[qb n5]|rw[qb n6]|simp only[wM]))
        . have p1:j≠rid:=λe=>by subst e;exact hW2.ne (λf e=>by rw[hR2]at e;cases e) hq h1
          have p2:j≠hb:=λe=>by subst e;exact hW2.ne (λf e=>by rw[hh2]at e;cases e) hq h1
          have p3:gid (vB k)≠some j:=λe=>hW2.sep q k hq hkn hqk j h1 e;(try simp only[wM]);repeat first|rw[if_pos trivial]|rw[if_pos rfl]|rw[if_neg o_]|rw[qb p3]|simp only[wM]
 . have e:i=min 9 x.rules.length:=o_;rw[e]at k2_2;repeat' with_reducible first|refine s_ ?_|simp -implicitDefEqProofs only[wZZ,seval,g1,g2,g3,g4,g5,g7,f1,f2,f3,f4,f5,hx]|(first|apply qa|apply ql|apply qj)<;>intro h h_<;>(try simp only[wD,reduceCtorEq]at h_)<;>(try exact wb_)<;>(try simp only[h])|refine t_ ?_
   all_goals exact hQ _ vB bls (k2_2.mono (λt h1 h2=>by simp only[wL];(repeat first|rw[if_pos rfl]|rw[if_neg o_])) wg_ (λj hj=>mm_))

theorem _root_.Go.E.ErL.map{α:Type}{b:Bool}{H:Nat->Option MObj}{f g:α->V}{l:List α}(h:∀x∈l,Er b H (f x) (g x)):ErL b H (l.map f) (l.map g):=by
 induction l with
 |nil=>exact .nil
 |cons a l ih=>exact .cons (h a (by simp)) (ih λx hx=>h x (List.mem_cons_of_mem _ hx))
theorem qzX{q:(Nat->List Alt)×(Nat->Bool)}{Q:Exit->St->Prop}{E:EC}(hn:0<n)(hn4:n<=4)(hq:∀k,(q.1 k).length<=50)
(h:SrcAt s0 x n xb rb sb hb rid dV vA als q)
(hQ:∀s' vA' als',SrcAt s' x n xb rb sb hb rid dV vA' als' (Vb x.bare q,q.2)->ewp Tryz.prog E Q s'):ewp Tryz.prog (.seq qdZ E) Q s0:=by
 have f1:=h.f1;have f2:=h.f2;have f3:=h.f3;have f4:=h.f4;have f5:=h.f5;have h0:(λk=>if k<0 then Vb x.bare q k else q.1 k)=q.1:=by funext k;rw[if_neg o_]
 repeat' with_reducible first|refine s_ ?_|simp -implicitDefEqProofs only[wZZ,seval,f1,f2,f3,f4,f5]
 refine qc ?nx4 (λ(p:Nat×(Nat->V)×(Nat->List V)) s=>s.f 1=?v4_1/\s.f 2=?v4_2/\s.f 3=?v4_3/\s.f 4=?v4_4/\s.f 5=?v4_5/\s.f 13=vi p.1/\(p.1<=n)/\(SrcAt s x n xb rb sb hb rid dV p.2.1 p.2.2 (λk=>if k<p.1 then Vb x.bare q k else q.1 k,q.2))) (λp=>n - p.1) ((0,vA,als)) wj_ (by refine⟨?_,?_,?_,?_,?_,?_,wo_,(by rw[h0];exact h.mono (λt h1 h2=>by simp only[wL];rw[if_neg o_]) wg_ (λj hj=>mm_))⟩<;>first|(simp -implicitDefEqProofs only[wL,wM,wN,wX,seval,Option.some.injEq]<;>exact wt_)|rfl|exact⟨_,rfl⟩) ?_;intro p s hnx ⟨g1,g2,g3,g4,g5,g13,k4_0,k4_1⟩;obtain ⟨i,vB,bls⟩:=p;dsimp only at *;have hS4:=k4_1;obtain ⟨r1,r2,r3,r4,r5,hx2,hr2,hs2,hh2,hW2,o1,o2,o3,o4⟩:=k4_1;have lr:=hW2.lr;have hR2:=hW2.ho;have hzi:=w1_ i;by_cases hi:i<n
 . have hG2:=hW2.gr i hi;have hep:=hW2.ep i hi;have hll:=hep.len;simp only[if_neg (Nat.lt_irrefl i),List.length_map]at hll hep;have hq1:=hq i;have n1:=hW2.ne (λf e=>by rw[hR2]at e;cases e) hi (j:=rid);have n2:=hW2.ne (λf e=>by rw[hs2]at e;cases e) hi (j:=sb);have n3:=hW2.ne (λf e=>by rw[hh2]at e;cases e) hi (j:=hb);have n5:=hW2.ne (λf e=>by rw[hx2]at e;cases e) hi (j:=xb);have n6:=hW2.ne (λf e=>by rw[hr2]at e;cases e) hi (j:=rb);have hlen:=hG2.len;have hlit:=jU (k:=i) o_ o_;by_cases hc:q.1 i=[]\/(q.2 i=false/\x.bare=false)
   . have hfi:Vb x.bare q i=q.1 i++[{parts:=[{sym:=QC i}]}]:=(by unfold Vb;rw[if_pos hc]);have hfn:(λk=>if k<i+1 then Vb x.bare q k else q.1 k)=qI (λk=>if k<i then Vb x.bare q k else q.1 k) i ((λk=>if k<i then Vb x.bare q k else q.1 k) i++[{parts:=[{sym:=QC i}]}]):=by
      funext k;unfold qI;by_cases e:k=i
      . subst e;simp only[if_true,if_pos (Nat.lt_succ_self k),if_neg (Nat.lt_irrefl k)];exact hfi
      . rw[if_neg e]
        show _=if k<i then Vb x.bare q k else q.1 k;by_cases e2:k<i
        . rw[if_pos e2,if_pos o_]
        . rw[if_neg e2,if_neg o_]
     repeat' with_reducible first|refine s_ ?_|simp -implicitDefEqProofs only[wZZ,seval,g1,g2,g3,g4,g5,g13,f1,f2,f3,f4,f5,hx2,hs2,hh2,hR2,hlen,hzi,qb n1,qb n2,qb n3,qb n5,qb n6]|(first|apply qa|apply ql|apply qj)<;>intro h h_<;>(try simp only[wD,reduceCtorEq]at h_)<;>(try exact wb_)<;>(try simp only[h])|(refine ldB hi ?_)|apply qX rfl (hG2.mono (Nat.le_refl _) (λid h1 h2=>by(try simp only[wM]);(repeat rw[if_neg o_])));(focus(first|exact qM.sl|exact qM.asl));(focus(simp only[wZ]<;>omega));(focus(unfold maxLen;simp only[wZ]<;>omega))|(refine qbM (vg hi) rfl ?_)|apply qcx (vg hi);exact wu_;exact wu_;exact wu_;(focus(simp only[wZ]<;>omega))|refine cq1 hlit qf ?_|refine t_ ?_|simp -implicitDefEqProofs (disch:=omega) only[w64,if_neg]
     all_goals first|(exfalso;rcases hc with hc|⟨hc1,hc2⟩;(first|(rw[hc]at hll;simp only[List.length_nil]at hll;omega));(simp_all;done))|skip
     all_goals
      refine⟨wg_,(i+1,qI vB i (.asl (s.next+3+20+15) ((bls i).length+1) 6 (bls i++[(.agg [.sl 6 true [({sym:=QC i}:Part).V],.str [],.bool false,vi 0,vi 0,vi 0])])),qI bls i (bls i++[(.agg [.sl 6 true [({sym:=QC i}:Part).V],.str [],.bool false,vi 0,vi 0,vi 0])])),d_,?_⟩;dsimp only;rw[hfn];refine⟨trivial,trivial,trivial,trivial,trivial,rfl,o_,⟨by(simp -implicitDefEqProofs only[wL,seval,r1]),by(simp -implicitDefEqProofs only[wL,seval,r2]),by(simp -implicitDefEqProofs only[wL,seval,r3]),by(simp -implicitDefEqProofs only[wL,seval,r4]),by(simp -implicitDefEqProofs only[wL,seval,r5]),?_,?_,?_,?_,?_,o1,o2,o3,o4⟩⟩
      . ((try simp only[wM]);(repeat first|rw[if_pos trivial]|rw[if_pos rfl]|rw[if_neg o_]|rw[qb n1]|rw[qb n2]|rw[qb n3]|rw[qb n5]|rw[qb n6]|simp only[wM]));exact hx2
      . ((try simp only[wM]);(repeat first|rw[if_pos trivial]|rw[if_pos rfl]|rw[if_neg o_]|rw[qb n1]|rw[qb n2]|rw[qb n3]|rw[qb n5]|rw[qb n6]|simp only[wM]));exact hr2
      . ((try simp only[wM]);(repeat first|rw[if_pos trivial]|rw[if_pos rfl]|rw[if_neg o_]|rw[qb n1]|rw[qb n2]|rw[qb n3]|rw[qb n5]|rw[qb n6]|simp only[wM]));exact hs2
      . ((try simp only[wM]);(repeat first|rw[if_pos trivial]|rw[if_pos rfl]|rw[if_neg o_]|rw[qb n1]|rw[qb n2]|rw[qb n3]|rw[qb n5]|rw[qb n6]|simp only[wM]));exact hh2
      . refine hW2.put (a:={parts:=[{sym:=QC i}]}) hi (ErL.agg (.cons (ErL.sl (.cons qf .nil)) (.cons (.str _) (.cons (.bool _) (.cons (.int _ _) (.cons (.int _ _) (.cons (.int _ _) .nil))))))) o_ o_ wg_ ?_ ?_ (λw hw hwk j h1 h2=>?_)
        . ((try simp only[wM]);(repeat first|rw[if_pos trivial]|rw[if_pos rfl]|rw[if_neg o_]|rw[qb n1]|rw[qb n2]|rw[qb n3]|rw[qb n5]|rw[qb n6]|simp only[wM]));rw[qfs hi]
        . ((try simp only[wM]);(repeat first|rw[if_pos trivial]|rw[if_pos rfl]|rw[if_neg o_]|rw[qb n1]|rw[qb n2]|rw[qb n3]|rw[qb n5]|rw[qb n6]|simp only[wM]))
        . have p1:j≠rid:=λe=>by subst e;exact hW2.ne (λf e=>by rw[hR2]at e;cases e) hw h1
          have p3:gid (vB i)≠some j:=λe=>hW2.sep w i hw hi hwk j h1 e;(try simp only[wM]);repeat first|rw[if_pos trivial]|rw[if_pos rfl]|rw[if_neg o_]|rw[qb p3]|simp only[wM]
   . have hfn:(λk=>if k<i+1 then Vb x.bare q k else q.1 k)=(λk=>if k<i then Vb x.bare q k else q.1 k):=by
      funext k;by_cases e2:k<i
      . rw[if_pos e2,if_pos o_]
      . rw[if_neg e2];by_cases e:k=i
        . subst e;rw[if_pos o_];unfold Vb;rw[if_neg hc]
        . rw[if_neg o_]
     repeat' with_reducible first|refine s_ ?_|simp -implicitDefEqProofs only[wZZ,seval,g1,g2,g3,g4,g5,g13,f1,f2,f3,f4,f5,hx2,hs2,hh2,hR2,hlen,hzi,qb n1,qb n2,qb n3,qb n5,qb n6]|(first|apply qa|apply ql|apply qj)<;>intro h h_<;>(try simp only[wD,reduceCtorEq]at h_)<;>(try exact wb_)<;>(try simp only[h])|(refine ldB hi ?_)|apply qX rfl (hG2.mono (Nat.le_refl _) (λid h1 h2=>by(try simp only[wM]);(repeat rw[if_neg o_])));(focus(first|exact qM.sl|exact qM.asl));(focus(simp only[wZ]<;>omega));(focus(unfold maxLen;simp only[wZ]<;>omega))|(refine qbM (vg hi) rfl ?_)|apply qcx (vg hi);exact wu_;exact wu_;exact wu_;(focus(simp only[wZ]<;>omega))|refine cq1 hlit qf ?_|refine t_ ?_|simp -implicitDefEqProofs (disch:=omega) only[w64,if_neg]
     all_goals first|exact absurd (Or.inr ⟨as_,as_⟩) hc|exact absurd (Or.inl (List.length_eq_zero_iff.1 o_)) hc|skip
     all_goals refine⟨wg_,(i+1,vB,bls),d_,?_⟩;dsimp only;rw[hfn];exact⟨trivial,trivial,trivial,trivial,trivial,rfl,o_,hS4.mono (λt h1 h2=>by simp only[wL];(repeat first|rw[if_pos rfl]|rw[if_neg o_])) wg_ (λj hj=>mm_)⟩
 . have e:i=n:=o_;subst e;have h9:SrcAt s x i xb rb sb hb rid dV vB bls (Vb x.bare q,q.2):=by
    refine⟨r1,r2,r3,r4,r5,hx2,hr2,hs2,hh2,⟨hW2.ho,hW2.lr,hW2.gr,λk hk=>?_,hW2.sep,hW2.len⟩,o1,o2,o3,o4⟩;have:=hW2.ep k hk;simp only[if_pos hk]at this;exact this
   repeat' with_reducible first|refine s_ ?_|simp -implicitDefEqProofs only[wZZ,seval,g1,g2,g3,g4,g5,g13,f1,f2,f3,f4,f5,hx2]
   exact hQ _ vB bls (h9.mono (λt h1 h2=>by simp only[wL];(repeat first|rw[if_pos rfl]|rw[if_neg o_])) wg_ (λj hj=>mm_))

instance grI_cl(x:GrI):Cl x.V:=⟨λb H=>ErL.agg (.cons (.int _ _) (.cons qf (.cons qf (.cons qf (.cons (.bool _) .nil)))))⟩
def RuI(H:Nat->Option MObj)(hb next i:Nat)(v:V):Prop:=(i=0/\v=.sl 3 true [])\/ ∃rid,v=.msl rid 3 0 i/\0<i/\H rid=some (.own 3 (qe8 i (λ_=>.sl 6 true [])) false)/\hb<rid/\rid<next
theorem X8(hb1:x.rules.length<=1099511627776)(hb2:∀l∈x.rules,l.length<=1099511627776)(hib:x.inner.length<=1099511627776)(hlb:x.levels.length<=1099511627776):Pure Tryz.prog 12 [x.V] ((zP x).V):=by
 refine pure_intro Tryz.func12 nm_ qtH (by show 1<=217;decide) ?_
 show ewp _ qr0 _ _;have hdec:=Q7 hlb;obtain ⟨n,hn⟩:∃n:Nat,1+x.nons % 4=n:=⟨(1+x.nons % 4).toNat,o_⟩;have hnN:QB x=n:=by unfold QB;rw[hn];rfl
 have hn0:0<n:=o_;have hn4:n<=4:=o_;have hz1:IntKind.i64.wrap (1+x.nons % 4)=(n:Int):=by rw[wrap64 o_ o_];exact hn
 have hbol:=qey n;have hsrc:zP x={decls:=Qq x.levels,rules:=(List.range n).map λ(k:Nat)=>{left:=qb2 k,alts:=Vb x.bare (zO x n (min 9 x.rules.length)) k}}:=by unfold zP;rw[hnN]
 show ewp _ (.seq (.reg qxM) (.seq (.reg qxH) (.seq (.reg qyB) (.seq (.reg qyN) (.seq qwD (.seq qeD (.seq qdZ (.seq (.reg qjC) .ret)))))))) _ _;have tail:∀s rid,SrcAt s x n 0 1 11 14 rid (.sl 4 false ((Qq x.levels).map Decl.V)) (λ_=>.sl 6 true []) (λ_=>[]) (zO x n 0)->ewp Tryz.prog (.seq qeD (.seq qdZ (.seq (.reg qjC) .ret))) (zY e12 (zP x).V) s:=by
  intro s rid hS;refine qul hn0 hn4 hb1 hb2 hib hS λs1 vB bls h1=>?_;refine qzX hn0 hn4 (λk=>Nat.le_trans (Zi x n _ k) o_) h1 λs2 vC cls h2=>?_;obtain ⟨r1,r2,r3,r4,r5,hx2,hr2,hs2,hh2,hW2,o1,o2,o3,o4⟩:=h2;have lr:=hW2.lr;repeat' with_reducible first|refine s_ ?_|simp -implicitDefEqProofs only[wZZ,seval,r1,r2,r3,r4,r5,hx2,hs2,hh2,hr2]|refine t_ ?_
  refine qdk (t:=2) (n:=4) (id:=1) (v:= .agg [.str [],.sl 4 false ((Qq x.levels).map Decl.V),.msl rid 3 0 n,.str []]) (ro:=false) rfl (Or.inr rfl) (by(simp -implicitDefEqProofs only[wL,seval,r2])) wc_ rfl ?_;rw[hsrc];refine ErL.agg (.cons (.str _) (.cons qf (.cons ?_ (.cons (.str _) .nil))));have hm:((List.range n).map λ(k:Nat)=>({left:=qb2 k,alts:=Vb x.bare (zO x n (min 9 x.rules.length)) k}:Rule)).map Rule.V=(List.range n).map λ(k:Nat)=>({left:=qb2 k,alts:=Vb x.bare (zO x n (min 9 x.rules.length)) k}:Rule).V:=List.map_map
  show Er true _ (.msl rid 3 0 n) (.sl 3 false (((List.range n).map λ(k:Nat)=>({left:=qb2 k,alts:=Vb x.bare (zO x n (min 9 x.rules.length)) k}:Rule)).map Rule.V));rw[hm];refine qbk (es:=qe8 n vC) (ro:=false) (by(simp only[wM];(repeat first|rw[if_pos trivial]|rw[if_pos rfl]|rw[if_neg o_]));exact hW2.ho) ?_ (Zc n vC);exact ErL.map λk hk=>ErL.agg (.cons (.str _) (.cons ((hW2.gr k (List.mem_range.1 hk)).erL (hW2.ep k (List.mem_range.1 hk)).up) (.cons (.int _ _) .nil)))
 generalize EC.seq qeD (.seq qdZ (.seq (.reg qjC) .ret))=F at tail;repeat' with_reducible first|refine s_ ?_|simp -implicitDefEqProofs only[wZZ,seval,hz1]|refine t_ ?_|apply Vk;exact wf_;exact wf_;(focus(unfold maxLen;first|omega|(simp only[wZ]<;>omega)))|refine zJ we_ we_ (qR wf_ wf_) ?_|refine jy we_ (Q7 wf_) ?_
 rw[hbol];refine qc ?nx1 (λ(i:Nat) s=>s.f 1=?v1_1/\s.f 2=?v1_2/\s.f 3=?v1_3/\s.f 4=?v1_4/\s.f 5=?v1_5/\s.H 0=some (MObj.own 5 [x.V] false)/\s.H 1=some (MObj.own 4 [qzy] false)/\s.H 14=some (MObj.own 1 (kR n (λ_=>false)) false)/\s.f 6=vi i/\(i<=n)/\((∃v,s.H 11=some (MObj.own 4 [.agg [.str [],.sl 4 false ((Qq x.levels).map Decl.V),v,.str []]] false)/\RuI s.H 14 s.next i v))) (λi=>n - i) (0) wj_ (by refine⟨?_,?_,?_,?_,?_,?_,?_,?_,?_,wo_,(by exact⟨.sl 3 true [],by(simp only[wM];(repeat first|rw[if_pos trivial]|rw[if_pos rfl]|rw[if_neg o_])),Or.inl ⟨rfl,rfl⟩⟩)⟩<;>first|(simp -implicitDefEqProofs only[wL,wM,wN,wX,seval,Option.some.injEq]<;>exact wt_)|rfl|exact⟨_,rfl⟩) ?_;intro i s hnx ⟨g1,g2,g3,g4,g5,o0,o1,o2,g6,k1_0,k1_1⟩;obtain ⟨v,h11,hR⟩:=k1_1;have hzi:=w1_ i;by_cases hi:i<n
 . have hnon:=Qe (k:=i) o_ o_;rcases hR with ⟨rfl,rfl⟩|⟨rid,rfl,hi0,hr,l1,l2⟩
   . repeat' with_reducible first|refine s_ ?_|simp -implicitDefEqProofs only[wZZ,seval,g1,g2,g3,g4,g5,g6,o0,o1,o2,h11,hzi]|apply qa<;>intro h h_<;>(try simp only[wD,reduceCtorEq]at h_)<;>(try exact wb_)<;>(try simp only[h])|(refine qb8 rfl qM.sl (by simp only[wZ]<;>omega) (by unfold maxLen;simp only[wZ]<;>omega) ?_)|refine t_ ?_|refine jy we_ (Qe wf_ wf_) ?_|simp -implicitDefEqProofs (disch:=omega) only[w64,if_neg]
     refine⟨wg_,1,o_,trivial,trivial,trivial,trivial,trivial,trivial,trivial,trivial,rfl,o_,_,rfl,Or.inr ⟨s.next+3+6,rfl,o_,?_,o_,wg_⟩⟩;(simp only[wM];(repeat first|rw[if_pos trivial]|rw[if_pos rfl]|rw[if_neg o_]));rfl
   . have hrl:=Zc i (λ_=>.sl 6 true []);repeat' with_reducible first|refine s_ ?_|simp -implicitDefEqProofs only[wZZ,seval,g1,g2,g3,g4,g5,g6,o0,o1,o2,h11,hzi]|apply qa<;>intro h h_<;>(try simp only[wD,reduceCtorEq]at h_)<;>(try exact wb_)<;>(try simp only[h])|refine cq1 hnon qf ?_|(refine Ju (es:=qe8 i (λ_=>.sl 6 true [])) rfl (by simp only[wM];exact hr) hrl.symm qM.sl (by simp only[wZ]<;>omega) (by unfold maxLen;simp only[wZ]<;>omega) ?_)|refine t_ ?_|simp -implicitDefEqProofs (disch:=omega) only[w64,if_neg]
     rw[hrl,<- qg4 i (λ_=>.sl 6 true [])];refine⟨wg_,i+1,o_,trivial,trivial,trivial,trivial,trivial,trivial,trivial,trivial,rfl,o_,_,rfl,Or.inr ⟨s.next+3+6,rfl,o_,?_,o_,wg_⟩⟩;(simp only[wM];(repeat first|rw[if_pos trivial]|rw[if_pos rfl]|rw[if_neg o_]))
 . have e:i=n:=o_;subst e;rcases hR with ⟨h0,_⟩|⟨rid,rfl,hi0,hr,l1,l2⟩
   . omega
   repeat' with_reducible first|refine s_ ?_|simp -implicitDefEqProofs only[wZZ,seval,g1,g2,g3,g4,g5,g6,o0,o1,o2,h11,hzi]
   refine tail _ rid ⟨by(simp -implicitDefEqProofs only[wL,seval,g1]),by(simp -implicitDefEqProofs only[wL,seval,g2]),by(simp -implicitDefEqProofs only[wL,seval,g3]),by(simp -implicitDefEqProofs only[wL,seval,g4]),by(simp -implicitDefEqProofs only[wL,seval,g5]),by(simp only[wM];(repeat first|rw[if_pos trivial]|rw[if_pos rfl]|rw[if_neg o_]));exact o0,by(simp only[wM];(repeat first|rw[if_pos trivial]|rw[if_pos rfl]|rw[if_neg o_]));exact o1,by(simp only[wM];(repeat first|rw[if_pos trivial]|rw[if_pos rfl]|rw[if_neg o_]));exact h11,by(simp only[wM];(repeat first|rw[if_pos trivial]|rw[if_pos rfl]|rw[if_neg o_]));exact o2,⟨by(simp only[wM];(repeat first|rw[if_pos trivial]|rw[if_pos rfl]|rw[if_neg o_]));exact hr,wg_,λk hk=>Gr.nil,λk hk=>.nil,λj k _ _ _=>Sep.slL,λk _=>by simp⟩,o_,o_,o_,o_⟩

theorem XF{x:Sym}:∀{l:List Tok} {i:Nat},(∀(n:Nat) t,l[n]?=some t-> ¬ (t.name=x.name/\t.lit=x.lit/\i+n≠2))->Qy x l i= -1
 |[],i,_=>rfl
 | t::r,i,h=>by unfold Qy;rw[if_neg (by have:=h 0 t rfl;simpa using this)];exact XF λn u hu=>by have:=h (n+1) u (by simpa using hu);rwa [show i+1+n=i+(n+1) by omega]
theorem qaf{x:Sym}:∀{l:List Tok} {i n:Nat} {t:Tok},l[n]?=some t->t.name=x.name->t.lit=x.lit->i+n≠2->0<=Qy x l i
 |[],i,n,t,h,_,_,_=>by simp at h
 | u ::r,i,n,t,h,h1,h2,h3=>by
   unfold Qy;split
   . omega
   . rename_i hne;cases n with
     |zero=>simp at h;subst h;exact absurd ⟨h1,h2,o_⟩ hne
     |succ n=>exact qaf (l:=r) (i:=i+1) (n:=n) (t:=t) (by simpa using h) h1 h2 o_
theorem KG{n:Int}:∀{l:List Tok} {i:Nat},(∀t∈l,t.num≠n)->qbP n l i= -1
 |[],i,_=>rfl
 | t::r,i,h=>by unfold qbP;rw[if_neg (h t (by simp))];exact KG λu hu=>h u (List.mem_cons_of_mem _ hu)
abbrev core(t:Tok):List UInt8×Bool×Int:=(t.name,t.lit,t.num)
abbrev qzp(j:Nat):List UInt8×Bool×Int:=((QC j).name,true,qgo (QC j))
abbrev qfW:List (List UInt8×Bool×Int):=[([36,101,110,100],false,0),(qvo,false,-1),([36,117,110,107],false,-1)]
structure LInv(m:Mk)(js:List Nat):Prop where
 e:m.e=0
 toks:m.toks.map core=qfW++js.map qzp
 nd:js.Nodup
 lt:∀j∈js,j<4
variable {j:Nat}
theorem jq(h:j<4):(QC j).name=[UInt8.ofNat (112+j)]/\qgo (QC j)=112+j:=by
 rcases j with _ | _ | _ | _ |j
 . exact⟨rfl,rfl⟩
 . exact⟨rfl,rfl⟩
 . exact⟨rfl,rfl⟩
 . exact⟨rfl,rfl⟩
 . omega
variable {i:Nat}
theorem qoK(hi:i<4)(hj:j<4)(h:(QC i).name=(QC j).name):i=j:=by have h1:=(jq hi).1;have h2:=(jq hj).1;rw[h1,h2]at h;simp only[List.cons.injEq,and_true]at h;have:=congrArg UInt8.toNat h;simp at this;omega
variable {js:List Nat}
theorem LInv.get{m:Mk}(h:LInv m js){t:Tok}(ht:m.toks[n]?=some t):(qfW++js.map qzp)[n]?=some (core t):=by rw[<- h.toks,List.getElem?_map,ht];rfl
theorem LInv.len{m:Mk}(h:LInv m js):m.toks.length=3+js.length:=by have:=congrArg List.length h.toks;simp at this;omega
theorem LInv.tok_in{m:Mk}(h:LInv m js)(hj:j∈js):0<=V3 m.toks (QC j):=by
 obtain ⟨i,hi,he⟩:=List.getElem_of_mem hj;have hl:=h.len;have h3:m.toks[3+i]?=some (m.toks[3+i]' o_):=ge_ o_;have hg:=h.get h3;rw[List.getElem?_append_right (by simp),show 3+i - qfW.length=i by simp,List.getElem?_map,ge_ hi,he]at hg;simp only[Option.map_some,Option.some.injEq,Prod.mk.injEq]at hg;refine qaf (n:=2+i) (t:=m.toks[3+i]' o_) ?_ hg.1.symm ?_ o_
 . rw[List.getElem?_drop,show 1+(2+i)=3+i by omega];exact h3
 . rw[<- hg.2.1]
theorem LInv.tok_out{m:Mk}(h:LInv m js)(hj:j ∉ js)(hj4:j<4):V3 m.toks (QC j)= -1:=by
 refine XF λn t ht=>?_;rw[List.getElem?_drop]at ht;have hg:=h.get ht;rintro ⟨h1,h2,h3⟩
 match n,hg with
 |0,hg=>simp at hg;rw[hg.2.1]at h2;cases h2
 |1,hg=>exact absurd rfl h3
 | n +2,hg=>
   rw[List.getElem?_append_right so_,List.getElem?_map]at hg;cases hq:js[1+(n+2) - qfW.length]? with
   |none=>rw[hq]at hg;cases hg
   | some q=>
     rw[hq]at hg;simp only[Option.map_some,Option.some.injEq,Prod.mk.injEq]at hg;have hqm:=List.mem_of_getElem? hq;have:=qoK (h.lt q hqm) hj4 (hg.1.trans h1);subst this;exact hj hqm
theorem LInv.own{m:Mk}(h:LInv m js)(hj:j ∉ js)(hj4:j<4):qlR m.toks (qgo (QC j))= -1:=by
 refine KG λt ht e=>?_;obtain ⟨n,hn⟩:=List.getElem?_of_mem ht;rw[List.getElem?_drop]at hn;have hg:=h.get hn;rw[List.getElem?_append_right (by simp),List.getElem?_map]at hg;cases hq:js[3+n - qfW.length]? with
 |none=>rw[hq]at hg;cases hg
 | some q=>
   rw[hq]at hg;simp only[Option.map_some,Option.some.injEq,Prod.mk.injEq]at hg;have hqm:=List.mem_of_getElem? hq;have h4:=h.lt q hqm;have:=(jq h4).2;have:=(jq hj4).2
   have:q=j:=o_
   subst this;exact hj hqm
theorem Yt(k:Int):QC k=QC ((k % 4).toNat:Nat):=by have h1:=Int.emod_nonneg k (show (4:Int)≠0 by omega);unfold QC;rw[Int.toNat_of_nonneg h1,Int.emod_emod_of_dvd k (Int.dvd_refl 4)]
theorem LInv.put{m:Mk}(h:LInv m js)(k:Int):∃js',LInv (Jk m (QC k)).1 js'/\(∀j∈js,j∈js')/\∀j∈js',j∈js\/j=(k % 4).toNat:=by
 have h1:=Int.emod_nonneg k (show (4:Int)≠0 by omega);have h2:=Int.emod_lt_of_pos k (show (0:Int)<4 by omega);rw[Yt k];obtain ⟨j,hj⟩:∃j:Nat,(k % 4).toNat=j:=⟨_,rfl⟩;have hj4:j<4:=o_;rw[hj];unfold Jk;by_cases hm:j∈js
 . rw[if_pos (h.tok_in hm)];exact⟨js,h,λ_ a=>a,λ_ a=>Or.inl a⟩
 . rw[if_neg (by rw[h.tok_out hm hj4];omega)];dsimp only;rw[if_neg (by rw[h.own hm hj4];rintro ⟨_,e⟩;omega)];refine⟨js++[j],⟨h.e,?_,?_,λq hq=>?_⟩,λq hq=>List.mem_append_left _ hq,λq hq=>?_⟩
   . dsimp only;rw[List.map_append,h.toks,List.map_append,List.append_assoc];rfl
   . rw[List.nodup_append];exact⟨h.nd,by simp,λa ha b hb e=>by rw[List.mem_singleton]at hb;subst hb;subst e;exact hm ha⟩
   . rcases List.mem_append.1 hq with hq|hq
     . exact h.lt q hq
     . rw[List.mem_singleton]at hq;subst hq;exact hj4
   . rcases List.mem_append.1 hq with hq|hq
     . exact Or.inl hq
     . rw[List.mem_singleton]at hq;exact Or.inr hq
theorem LInv.non{m:Mk}(h:LInv m js)(hk:k<4):V3 m.toks {name:=qb2 k}= -1:=by
 refine XF λn t ht=>?_;rw[List.getElem?_drop]at ht;have hg:=h.get ht;rintro ⟨h1,h2,h3⟩
 match n,hg with
 | 0,hg=>
   simp at hg;rw[<- hg.1]at h1;have:=congrArg List.length h1;simp[qvo]at this
 |1,hg=>exact absurd rfl h3
 | n +2,hg=>
   rw[List.getElem?_append_right so_,List.getElem?_map]at hg;cases hq:js[1+(n+2) - qfW.length]? with
   |none=>rw[hq]at hg;cases hg
   | some q=>
     rw[hq]at hg;simp only[Option.map_some,Option.some.injEq,Prod.mk.injEq]at hg;rw[<- hg.2.1]at h2;cases h2
def qdE(d:Decl)(is:List Nat):Prop:=(2<=d.kind/\d.kind<=4)/\d.tag=[]/\d.syms=(is.map λi:Nat=>QC i)/\is≠[]
theorem LInv.level{m:Mk}(h:LInv m js)(n:Int):LInv {m with level:=n} js:=⟨h.e,h.toks,h.nd,h.lt⟩
theorem qag(l:List Int):∀n,n<=4->∃iss:List (List Nat),(jb l n).length=iss.length/\(∀(k:Nat) d is,(jb l n)[k]?=some d->iss[k]?=some is->qdE d is)/\iss.flatten.Nodup/\∀i∈iss.flatten,i<n:=by
 intro n
 induction n with
 |zero=>intro _;exact⟨[],rfl,λk d is h=>by simp[jb]at h,by simp,λi h=>by simp at h⟩
 | succ n ih =>
   intro hn;obtain ⟨iss,h1,h2,h3,h4⟩:=ih o_;have hx1:=Int.emod_nonneg (l.getD n 0) (show (8:Int)≠0 by omega);have hx2:=Int.emod_lt_of_pos (l.getD n 0) (show (0:Int)<8 by omega);have hnn:n ∉ iss.flatten:=λh=>by have:=h4 n h;omega
   show ∃iss:List (List Nat),(yM n (l.getD n 0) (jb l n)).length=iss.length/\(∀(k:Nat) d is,(yM n (l.getD n 0) (jb l n))[k]?=some d->iss[k]?=some is->qdE d is)/\iss.flatten.Nodup/\∀i∈iss.flatten,i<n+1;unfold yM;split
   . exact⟨iss,h1,h2,h3,λi hi=>by have:=h4 i hi;omega⟩
   . rename_i hq;split
     . rename_i hc;obtain ⟨o,d,ho⟩:∃o d,jb l n=o++[d]:=⟨_,_,(List.dropLast_concat_getLast hc.2).symm⟩;have hie:iss≠[]:=λe=>by rw[e,ho]at h1;simp at h1
       obtain ⟨t,u,ht⟩:∃t u,iss=t++[u]:=⟨_,_,(List.dropLast_concat_getLast hie).symm⟩;have hot:o.length=t.length:=(by rw[ho,ht]at h1;simpa using h1);refine⟨t++[u++[n]],?_,λk e is a b=>?_,?_,λi hi=>?_⟩
       . rw[ho,QZ];simp[hot]
       . rw [ho,QZ]at a;by_cases hk:k<o.length
         . rw[List.getElem?_append_left hk]at a;rw[List.getElem?_append_left o_]at b;exact h2 k e is (by rw[ho,List.getElem?_append_left hk];exact a) (by rw[ht,List.getElem?_append_left o_];exact b)
         . by_cases hk2:k=o.length
           . subst hk2;rw[List.getElem?_append_right (Nat.le_refl _)]at a;rw[hot,List.getElem?_append_right (Nat.le_refl _)]at b;simp at a b;subst a b;obtain ⟨q1,q2,q3,q4⟩:=h2 o.length d u (by rw[ho];simp) (by rw[ht,hot];simp);exact⟨q1,q2,by dsimp only;rw[q3,List.map_append];rfl,by simp⟩
           . rw[List.getElem?_eq_none so_]at a;cases a
       . rw[ht]at h3 hnn;simp only[List.flatten_append,List.flatten_cons,List.flatten_nil,List.append_nil,<- List.append_assoc]at h3 hnn ⊢;rw[List.nodup_append];exact⟨h3,by simp,λa ha b hb e=>by rw[List.mem_singleton]at hb;subst hb;subst e;exact hnn ha⟩
       . simp only[List.flatten_append,List.flatten_cons,List.flatten_nil,List.append_nil,<- List.append_assoc]at hi;rcases List.mem_append.1 hi with hi|hi
         . have hlt:=h4 i (by rw[ht];simpa using hi);omega
         . rw[List.mem_singleton]at hi;omega
     . refine⟨iss++[[n]],by simp[h1],λk e is a b=>?_,?_,λi hi=>?_⟩
       . by_cases hk:k<(jb l n).length
         . rw[List.getElem?_append_left hk]at a;rw[List.getElem?_append_left o_]at b;exact h2 k e is a b
         . by_cases hk2:k=(jb l n).length
           . subst hk2;rw[List.getElem?_append_right (Nat.le_refl _)]at a;rw[h1,List.getElem?_append_right (Nat.le_refl _)]at b;simp only[Nat.sub_self,List.getElem?_cons_zero,Option.some.injEq]at a b;subst a b;have hb:2<=1+l.getD n 0 % 8 % 4/\1+l.getD n 0 % 8 % 4<=4:=o_;exact⟨hb,rfl,rfl,by simp⟩
           . rw[List.getElem?_eq_none so_]at a;cases a
       . rw[List.flatten_append];simp only[List.flatten_cons,List.flatten_nil,List.append_nil];rw[List.nodup_append];exact⟨h3,by simp,λa ha b hb e=>by rw[List.mem_singleton]at hb;subst hb;subst e;exact hnn ha⟩
       . rw[List.flatten_append]at hi;rcases List.mem_append.1 hi with hi|hi
         . have:=h4 i hi;omega
         . simp at hi;omega

def qiw(lefts:List (List UInt8))(x:Sym):Prop:=(∃k:Int,x=QC k)\/(x.lit=false/\x.name∈lefts)\/x={name:=qvo}
def Vz:List Part->Nat
 |[]=>0
 |w::r=>(if w.code≠[]/\r≠[]then 1 else 0)+Vz r
def qnf(lefts:List (List UInt8))(a:Alt):Prop:=(∀w∈a.parts,w.code≠[]\/qiw lefts w.sym)/\a.prec={}/\Vz a.parts<=1/\a.parts.length<=6
theorem Zq:∀(n:Nat) (l:List Nat),l.Nodup->(∀x∈l,x<n)->l.length<=n
 | 0,l,_,h=>by
   cases l with
   |nil=>simp
   |cons a r=>have:=h a (by simp);omega
 | n +1,l,hn,h=>by
   by_cases hm:n∈l
   . have h1:=Zq n (l.erase n) (hn.erase n) (λx hx=>by
      have:=h x (List.mem_of_mem_erase hx);have hne:x≠n:=λe=>by subst e;exact(List.Nodup.mem_erase_iff hn).1 hx |>.1 rfl
      omega)
     rw[List.length_erase_of_mem hm]at h1;omega
   . have h1:=Zq n l hn (λx hx=>by
      have:=h x hx;have hne:x≠n:=λe=>by subst e;exact hm hx
      omega)
     omega

theorem qeN(x:GrI):1<=QB x/\QB x<=4:=by unfold QB;omega
def xg(l:List Part):Nat:=(l.filter λw=> !decide (w.code=[])).length
theorem K4(l m:List Part):xg (l++m)=xg l+xg m:=by simp[xg]
theorem qcH:∀(l:List Part),Vz l<=xg l
 |[]=>Nat.le_refl _
 | w::r=>by
   have:=qcH r;have e:xg (w::r)=(if w.code=[]then 0 else 1)+xg r:=by unfold xg;rw[List.filter_cons];by_cases h:w.code=[]<;>simp[h];omega
   unfold Vz;rw[e];by_cases h:w.code=[]
   . simp[h];exact this
   . rw[if_neg h];split<;>omega
theorem Yv:∀(l:List Part) (w:Part),Vz (l++[w])<=xg l
 |[],w=>by simp[Vz]
 | v::r,w=>by
   have:=Yv r w;have e:xg (v::r)=(if v.code=[]then 0 else 1)+xg r:=by unfold xg;rw[List.filter_cons];by_cases h:v.code=[]<;>simp[h];omega
   show (if v.code≠[]/\(r++[w])≠[]then 1 else 0)+Vz (r++[w])<=_;rw[e];by_cases h:v.code=[]
   . simp[h];exact this
   . rw[if_neg h];split<;>omega
theorem qcM(l:List Int)(n:Nat)(mid:Bool)(j:Nat):xg (xI l n mid j)<=1/\(xI l n mid j).length<=j+1/\(j=0->xI l n mid j=[]):=by
 induction j with
 |zero=>exact⟨by simp[xI,xg],by simp[xI],λ_=>rfl⟩
 | succ j ih=>
   obtain ⟨h1,h2,h3⟩:=ih;unfold xI;refine⟨?_,?_,λh=>o_⟩
   . rw[K4,K4];have e1:xg [({sym:=qlb l n (j+1)}:Part)]=0:=(by simp[xg]);rw[e1];by_cases hj:j=0
     . rw[h3 hj];split<;>simp[xg,Jd]
     . rw[if_neg (λe=>hj e.1)];simp[xg]at h1 ⊢;exact h1
   . rw[List.length_append,List.length_append];by_cases hj:j=0
     . rw[h3 hj];split<;>simp[hj]
     . rw[if_neg (λe=>hj e.1)];simp;exact h2
theorem KC{l:List Int}{n:Nat}{mid:Bool}{w:Part}:∀{j:Nat},w∈xI l n mid j->(∃y:Int,w={sym:=Kl y n})\/w={code:=Jd}
 |0,h=>by cases h
 | j +1,h=>by
   unfold xI at h;rcases List.mem_append.1 h with h|h
   . rcases List.mem_append.1 h with h|h
     . exact KC h
     . rw[List.mem_singleton]at h;exact Or.inl ⟨_,h⟩
   . split at h
     . rw[List.mem_singleton]at h;exact Or.inr h
     . cases h
theorem qbe{l inner:List Int}{w:Part}(h:w∈(qfC l n inner i).parts):(∃y:Int,w={sym:=Kl y n})\/w={code:=Jd}\/w={code:=YC}:=by
 unfold qfC at h;dsimp only at h;rcases List.mem_append.1 h with h|h
 . rcases KC h with h|h
   . exact Or.inl h
   . exact Or.inr (Or.inl h)
 . split at h
   . rw[List.mem_singleton]at h;exact Or.inr (Or.inr h)
   . cases h
variable {lefts:List (List UInt8)}
theorem qhZ(hn:0<n)(hl:∀k:Nat,k<n->qb2 k∈lefts)(y:Int):qiw lefts (Kl y n):=by
 have e1:=Int.emod_nonneg y (show (14:Int)≠0 by omega);have e3:=Int.emod_lt_of_pos (y % 14) (show (0:Int)<n by omega);have e4:=Int.emod_nonneg (y % 14) (show (n:Int)≠0 by omega);unfold Kl;split
 . have:=hl (y % 14 % n).toNat o_;rw[Int.toNat_of_nonneg e4]at this;exact Or.inr (Or.inl ⟨rfl,this⟩)
 . split
   . exact Or.inr (Or.inr rfl)
   . exact Or.inl ⟨_,rfl⟩
theorem qbx(hn:0<n)(hl:∀k:Nat,k<n->qb2 k∈lefts)(l inner:List Int)(i:Nat):qnf lefts (qfC l n inner i):=by
 obtain ⟨h1,h2,_⟩:=qcM l n (qgu inner i) (min 4 (l.length - 1));refine⟨λw hw=>?_,rfl,?_,?_⟩
 . rcases qbe hw with ⟨y,rfl⟩|rfl|rfl
   . exact Or.inr (qhZ hn hl y)
   . exact Or.inl (by simp[Jd])
   . exact Or.inl (by simp[YC])
 . unfold qfC;dsimp only;split
   . exact Nat.le_trans (Yv _ _) h1
   . rw[List.append_nil];exact Nat.le_trans (qcH _) h1
 . unfold qfC;dsimp only;rw[List.length_append];split<;>simp<;>omega
theorem kL{x:GrI}{n:Nat}:∀{i k:Nat} {a:Alt},a∈(zO x n i).1 k->∃l j,a=qfC l n x.inner j
 |0,k,a,h=>by cases h
 | i + 1,k,a,h=>by
   unfold zO Za at h;dsimp only at h;split at h
   . exact kL h
   . unfold qI at h;dsimp only at h;split at h
     . rcases List.mem_append.1 h with h|h
       . exact kL h
       . rw[List.mem_singleton]at h;exact⟨_,_,h⟩
     . exact kL h
theorem qd8{a:Alt}(h:a∈Vb x.bare (zO x n i) k):(∃l j,a=qfC l n x.inner j)\/a={parts:=[{sym:=QC k}]}:=by
 unfold Vb at h;split at h
 . rcases List.mem_append.1 h with h|h
   . exact Or.inl (kL h)
   . rw[List.mem_singleton]at h;exact Or.inr h
 . exact Or.inl (kL h)
theorem qke(hn:0<n)(hn4:n<=4)(y:Int):qcS (Kl y n) false true=true:=by
 have e1:=Int.emod_nonneg y (show (14:Int)≠0 by omega);have e3:=Int.emod_lt_of_pos (y % 14) (show (0:Int)<n by omega);have e4:=Int.emod_nonneg (y % 14) (show (n:Int)≠0 by omega);have hN:∀k:Nat,k<4->qcS {name:=qb2 k} false true=true:=dc_
 have hL:∀k:Nat,k<4->qcS (QC k) false true=true:=dc_
 unfold Kl;split
 . have:=hN (y % 14 % n).toNat o_;rw[Int.toNat_of_nonneg e4]at this;exact this
 . split
   . decide
   . rw[Yt];exact hL _ o_
theorem XE:∀{iss:List (List Nat)},iss.flatten.Nodup->∀is∈iss,is.Nodup
 |[],_,is,h=>by cases h
 | a::r,hn,is,h=>by
   rw[List.flatten_cons,List.nodup_append]at hn;rcases List.mem_cons.1 h with rfl|h
   . exact hn.1
   . exact XE hn.2.1 is h
theorem XI(x:GrI):(zP x).Fits:=by
 obtain ⟨h1,h2⟩:=qeN x;obtain ⟨iss,d1,d2,d3,d4⟩:=qag x.levels (min 4 x.levels.length) o_;have hlen:(Qq x.levels).length<=4:=by
  have h5:iss.length<=iss.flatten.length:=by
   have hne:∀is∈iss,is≠[]:=λis hi=>by obtain ⟨k,hk⟩:=List.getElem?_of_mem hi;obtain ⟨d,hd⟩:∃d,(jb x.levels (min 4 x.levels.length))[k]?=some d:=⟨_,ge_ (by have:=(List.getElem?_eq_some_iff.1 hk).1;omega)⟩;exact(d2 k d is hd hk).2.2.2
   clear d1 d2 d3 d4
   induction iss with
   |nil=>simp
   | cons a r ih=>
     have:=ih λis hi=>hne is (List.mem_cons_of_mem _ hi);have ha:=List.length_pos_iff.2 (hne a (by simp));rw[List.flatten_cons,List.length_append,List.length_cons];omega
  have h6:=Zq (min 4 x.levels.length) _ d3 d4
  show (jb x.levels (min 4 x.levels.length)).length<=4;omega
 refine⟨by simp[zP],by simp[zP],by show (Qq x.levels).length<=_;omega,λd hd=>?_,by simp[zP];omega,λr hr=>?_⟩
 . obtain ⟨k,hk⟩:=List.getElem?_of_mem hd;have hki:k<iss.length:=(by have h3:=(List.getElem?_eq_some_iff.1 hk).1;unfold zP Qq at h3;dsimp only at h3;omega);obtain ⟨q1,q2,q3,q4⟩:=d2 k d iss[k] hk (ge_ hki);have h6:iss[k].length<=4:=Zq 4 _ (XE d3 _ (List.getElem_mem hki)) (λi hi=>by have:=d4 i (List.mem_flatten.2 ⟨_,List.getElem_mem hki,hi⟩);omega);refine⟨by simp[q2],by rw[q3,List.length_map];omega,λy hy=>?_⟩;rw[q3]at hy;obtain ⟨i,hi,rfl⟩:=List.mem_map.1 hy;have hi4:=d4 i (List.mem_flatten.2 ⟨_,List.getElem_mem hki,hi⟩);rw[(jq (show i<4 by omega)).1];simp
 . obtain ⟨k,hk,rfl⟩:=List.mem_map.1 hr;have hkn:=List.mem_range.1 hk;have hfl:(Vb x.bare (zO x (QB x) (min 9 x.rules.length)) k).length<=20:=by
    have:=Zi x (QB x) (min 9 x.rules.length) k;unfold Vb;split<;>simp<;>omega
   have hsn:∀y:Int,(Kl y (QB x)).name.length<=5:=λy=>by
    have hg:=qke (n:=QB x) o_ o_ y;unfold Kl;split
    . simp
    . split
      . simp
      . rw[Yt,(jq (show ((y % 14 - 5) % 4).toNat<4 by omega)).1];simp
   refine⟨by simp,d_,λa ha=>?_⟩;rcases qd8 ha with ⟨l,j,rfl⟩|rfl
   . obtain ⟨_,_,_,g4⟩:=qbx (lefts:=(List.range (QB x)).map λk:Nat=>qb2 k) (n:=QB x) o_ (λk hk=>List.mem_map.2 ⟨k,List.mem_range.2 hk,rfl⟩) l x.inner j;refine⟨o_,λw hw=>?_,by simp[qfC]⟩;rcases qbe hw with ⟨y,rfl⟩|rfl|rfl
     . exact⟨by have:=hsn y;dsimp only;omega,by simp⟩
     . exact⟨by simp,by simp[Jd]⟩
     . exact⟨by simp,by simp[YC]⟩
   . refine⟨by simp,λw hw=>?_,by simp⟩;rw[List.mem_singleton]at hw;subst hw;rw[Part.Fits,(jq (show k<4 by omega)).1];simp
theorem qao(x:GrI):Small (zP x):=by
 obtain ⟨h1,h2⟩:=qeN x;obtain ⟨f1,f2,f3,f4,f5,f6⟩:=XI x;obtain ⟨iss,d1,d2,d3,d4⟩:=qag x.levels (min 4 x.levels.length) o_;have hd:∀d∈(zP x).decls,∃is:List Nat,qdE d is/\is.length<=4/\∀i∈is,i<4:=λd hd=>by
  obtain ⟨k,hk⟩:=List.getElem?_of_mem hd;have hki:k<iss.length:=by have h3:=(List.getElem?_eq_some_iff.1 hk).1;unfold zP Qq at h3;dsimp only at h3;omega
  have hi4:∀i∈iss[k],i<4:=λi hi=>by have:=d4 i (List.mem_flatten.2 ⟨_,List.getElem_mem hki,hi⟩);omega
  exact⟨iss[k],d2 k d iss[k] hk (ge_ hki),Zq 4 _ (XE d3 _ (List.getElem_mem hki)) hi4,hi4⟩
 have hlen:(zP x).decls.length<=4:=by
  have h5:iss.length<=iss.flatten.length:=by
   have hne:∀is∈iss,is≠[]:=λis hi=>by obtain ⟨k,hk⟩:=List.getElem?_of_mem hi;obtain ⟨d,hd⟩:∃d,(jb x.levels (min 4 x.levels.length))[k]?=some d:=⟨_,ge_ (by have:=(List.getElem?_eq_some_iff.1 hk).1;omega)⟩;exact(d2 k d is hd hk).2.2.2
   clear d1 d2 d3 d4
   induction iss with
   |nil=>simp
   | cons a r ih=>
     have:=ih λis hi=>hne is (List.mem_cons_of_mem _ hi);have ha:=List.length_pos_iff.2 (hne a (by simp));rw[List.flatten_cons,List.length_append,List.length_cons];omega
  have h6:=Zq (min 4 x.levels.length) _ d3 d4
  show (jb x.levels (min 4 x.levels.length)).length<=4;omega
 have hsn:∀y:Int,(Kl y (QB x)).lit=true->(Kl y (QB x)).name≠[]:=λy=>by
  unfold Kl;split
  . intro e;cases e
  . split
    . intro e;cases e
    . intro _;rw[Yt,(jq (show ((y % 14 - 5) % 4).toNat<4 by omega)).1];simp
 have ha:∀r∈(zP x).rules,r.alts.length<=20/\∀a∈r.alts,a.parts.length<=6/\a.prec={}/\∀w∈a.parts,w.sym.lit=true->w.sym.name≠[]:=λr hr=>by
  obtain ⟨k,hk,rfl⟩:=List.mem_map.1 hr;have hkn:=List.mem_range.1 hk;refine⟨?_,λa ha=>?_⟩
  . have:=Zi x (QB x) (min 9 x.rules.length) k;dsimp only;unfold Vb;split<;>simp<;>omega
  . rcases qd8 ha with ⟨l,j,rfl⟩|rfl
    . obtain ⟨_,g2,_,g4⟩:=qbx (lefts:=(List.range (QB x)).map λk:Nat=>qb2 k) (n:=QB x) o_ (λk hk=>List.mem_map.2 ⟨k,List.mem_range.2 hk,rfl⟩) l x.inner j;refine⟨g4,g2,λw hw=>?_⟩;rcases qbe hw with ⟨y,rfl⟩|rfl|rfl
      . exact hsn y
      . intro e;cases e
      . intro e;cases e
    . refine⟨by simp,rfl,λw hw _=>?_⟩;rw[List.mem_singleton]at hw;subst hw;rw[(jq (show k<4 by omega)).1];simp
 refine⟨o_,λd h=>?_,λd h=>?_,λd h y hy _=>?_,?_,λr hr=>?_,λr hr a h=>?_,λr hr a h w hw=>?_,λr hr a h e=>?_⟩
 . obtain ⟨is,⟨q1,q2,q3,q4⟩,h5,h6⟩:=hd d h;rw[q3,List.length_map];omega
 . obtain ⟨is,⟨q1,q2,q3,q4⟩,h5,h6⟩:=hd d h;omega
 . obtain ⟨is,⟨q1,q2,q3,q4⟩,h5,h6⟩:=hd d h;rw[q3]at hy;obtain ⟨i,hi,rfl⟩:=List.mem_map.1 hy;rw[(jq (h6 i hi)).1];simp
 . simp[zP];omega
 . have:=(ha r hr).1;omega
 . have:=((ha r hr).2 a h).1;omega
 . exact((ha r hr).2 a h).2.2 w hw
 . rw[((ha r hr).2 a h).2.1]at e;cases e
end Go.Proofs
