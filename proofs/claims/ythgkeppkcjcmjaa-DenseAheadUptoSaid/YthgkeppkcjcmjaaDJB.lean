/- Part of a proof that a law of the given program answers true. -/
import Derived.Test.YthgkeppkcjcmjaaDJA
set_option linter.unusedSimpArgs false
set_option linter.unusedVariables false
set_option maxHeartbeats 4000000
namespace Go.Proofs
open Go.E
@[reducible] def qPB (vA:Nat→V) (k:Nat):V:= .agg [.str (K7 k),vA k,vi 0]
def qcz (n:Nat) (vA:Nat→V):List V:=(List.range n).map (qPB vA)
theorem Qt (n:Nat) (vA:Nat→V):(qcz n vA).length=n:=by simp[qcz]
theorem x9 {n k:Nat} {vA:Nat→V} (h:k<n):(qcz n vA)[k]?=some (.agg [.str (K7 k),vA k,vi 0]):=by simp[qcz,h]
theorem qcN {n k:Nat} {vA:Nat→V} {v:V} (h:k<n):(qcz n vA).set k (.agg [.str (K7 k),v,vi 0])=qcz n (qN vA k v):=by
 refine List.ext_getElem? fun i=>?_
 rw[List.getElem?_set]
 by_cases hi:i<n
 · rw[x9 hi,Qt,x9 hi]
   by_cases e:k=i
   · subst e;simp[hi,qN]
   · simp[e,qN,Ne.symm e]
 · rw[List.getElem?_eq_none (by rw[Qt];omega),List.getElem?_eq_none (by rw[Qt];omega)]
   rw[Qt];simp;omega
theorem qeU (n:Nat) (vA:Nat→V):qcz (n+1) vA=qcz n vA++[qPB vA n]:=by unfold qcz;rw[List.range_succ,List.map_append];rfl
def JJ (n:Nat) (h:Nat→Bool):List V:=(List.range n).map fun k=>V.bool (h k)
theorem vF (n:Nat) (h:Nat→Bool):(JJ n h).length=n:=by simp[JJ]
theorem Zy {n k:Nat} {h:Nat→Bool} (hk:k<n):(JJ n h)[k]?=some (.bool (h k)):=by simp[JJ,hk]
theorem qgB {n k:Nat} {h:Nat→Bool} {v:Bool} (hk:k<n):(JJ n h).set k (.bool v)=JJ n (qN h k v):=by
 refine List.ext_getElem? fun i=>?_
 rw[List.getElem?_set]
 by_cases hi:i<n
 · rw[Zy hi,vF,Zy hi]
   by_cases e:k=i
   · subst e;simp[hi,qN]
   · simp[e,qN,Ne.symm e]
 · rw[List.getElem?_eq_none (by rw[vF];omega),List.getElem?_eq_none (by rw[vF];omega)]
   rw[vF];simp;omega
theorem qiA (n:Nat):List.replicate n (V.bool false)=JJ n (fun _=>false):=by
 refine List.ext_getElem? fun i=>?_
 by_cases h:i<n
 · rw[Zy h];simp[h]
 · rw[List.getElem?_eq_none (by simp;omega),List.getElem?_eq_none (by rw[vF];omega)]
theorem ldB {K:V→Prop} {nn k:Nat} {S:Nat→Bool} {ro:Bool} (h:k<nn) (hk:K (.bool (S k))):onS (ldQ (some (.own 1 (JJ nn S) ro)) false 1 k 0) K:=by
 have e:ldQ (some (.own 1 (JJ nn S) ro)) false 1 k 0=some (.bool (S k)):=by simp[ldQ,Zy h,jH,V.isAgg]
 rw[e];exact hk
theorem stB {K:St→Prop} {s:St} {nn k id:Nat} {x:Bool} {S:Nat→Bool} (h:k<nn) (hk:K (s.setO id (some (.own 1 (JJ nn (qN S k x)) false)))):onS (stQ s (some (.own 1 (JJ nn S) false)) 1 id k 0 (.bool x)) K:=by
 have e:stQ s (some (.own 1 (JJ nn S) false)) 1 id k 0 (.bool x)=some (s.setO id (some (.own 1 (JJ nn (qN S k x)) false))):=by
  rw[← qgB h]
  simp[stQ,Zy h,V.cells,V.okCell,jm,V.isAgg]
 rw[e];exact hk
structure RW (H:Nat→Option MObj) (next rid n:Nat) (vA:Nat→V) (als:Nat→List V) (alts:Nat→List Alt):Prop where
 ho:H rid=some (.own 3 (qcz n vA) false)
 lr:rid<next
 gr: ∀k,k<n→Gr H next 6 (als k) (vA k)
 ep: ∀k,k<n→QG (als k) ((alts k).map Alt.V)
 sep: ∀j k,j<n→k<n→j≠k→Sep (vA j) (vA k)
 len: ∀k,k<n→(als k).length≤100
theorem RW.mono {H H':Nat→Option MObj} {next next' rid n:Nat} {vA:Nat→V} {als:Nat→List V} {alts:Nat→List Alt} (h:RW H next rid n vA als alts) (hn:next≤next') (hr:H' rid=H rid) (hH: ∀k,k<n→ ∀j,gid (vA k)=some j→j<next→H' j=H j):RW H' next' rid n vA als alts:=
 ⟨by rw[hr];exact h.ho,by have:=h.lr;omega,fun k hk=>(h.gr k hk).mono hn (hH k hk),h.ep,h.sep,h.len⟩
theorem RW.ne {H:Nat→Option MObj} {next rid n:Nat} {vA:Nat→V} {als:Nat→List V} {alts:Nat→List Alt} (h:RW H next rid n vA als alts) {j:Nat} (hj: ∀f,H j≠some (.tok f)) {k:Nat} (hk:k<n):gid (vA k)≠some j:=(h.gr k hk).ne hj
theorem RW.put {H H':Nat→Option MObj} {next next' rid n k id:Nat} {vA:Nat→V} {als:Nat→List V} {alts:Nat→List Alt} {v:V} {a:Alt} (h:RW H next rid n vA als alts) (hk:k<n) (hv:ErP v a.V)
 (hl:(als k).length<100) (hid:next≤id) (hid2:id<next') (hr:H' rid=some (.own 3 (qcz n (qN vA k (.asl id ((als k).length+1) 6 (als k++[v])))) false)) (ht:H' id=some (.tok ((als k).length+1)))
 (hH: ∀q,q<n→q≠k→ ∀j,gid (vA q)=some j→j<next→H' j=H j):
 RW H' next' rid n (qN vA k (.asl id ((als k).length+1) 6 (als k++[v]))) (qN als k (als k++[v])) (qN alts k (alts k++[a])):=by
 refine⟨hr,by have:=h.lr;omega,fun q hq=>?_,fun q hq=>?_,fun j q hj hq hjq=>?_,fun q hq=>?_⟩
 · unfold qN
   by_cases e:q=k
   · subst e;simp only[if_true];exact Gr.tok ht hid2
   · simp only[if_neg e];exact(h.gr q hq).mono (by omega) (hH q hq e)
 · unfold qN
   by_cases e:q=k
   · subst e;simp only[if_true];rw[List.map_append];exact(h.ep q hq).snoc hv
   · simp only[if_neg e];exact h.ep q hq
 · unfold qN
   by_cases e:j=k
   · subst e;simp only[if_true,if_neg (Ne.symm hjq)];exact Sep.newL (h.gr q hq) hid
   · by_cases e2:q=k
     · subst e2;simp only[if_true,if_neg hjq];exact Sep.newR (h.gr j hj) hid
     · simp only[if_neg e,if_neg e2];exact h.sep j q hj hq hjq
 · unfold qN
   by_cases e:q=k
   · subst e;simp only[if_true,List.length_append,List.length_cons,List.length_nil];omega
   · simp only[if_neg e];exact h.len q hq
def kR (x:GrI) (n:Nat) (i:Nat) (q:(Nat→List Alt)×(Nat→Bool)):(Nat→List Alt)×(Nat→Bool):=
 let l:=x.rules.getD i []
 if l=[]then q else
  let k:=(l.getD 0 0 % n).toNat
  (qN q.1 k (q.1 k++[qdz l n x.inner i]),qN q.2 k (q.2 k || qaP l n))
def zG (x:GrI) (n:Nat):Nat→(Nat→List Alt)×(Nat→Bool)
 |0=>(fun _=>[],fun _=>false)
 |i+1=>kR x n i (zG x n i)
def X0 (bare:Bool) (q:(Nat→List Alt)×(Nat→Bool)) (k:Nat):List Alt:=if q.1 k=[]∨(q.2 k=false∧bare=false)then q.1 k++[{parts:=[{sym:=kG k}]}]else q.1 k
def kI (x:GrI):Nat:=(1+x.nons % 4).toNat
def qC (x:GrI):Source:=
 {decls:=ko x.levels,rules:=(List.range (kI x)).map fun(k:Nat)=>{left:=K7 k,alts:=X0 x.bare (zG x (kI x) (min 9 x.rules.length)) k}}

theorem qhg {α:Type} {f:Nat→List α} {k q:Nat} {l:List α} {b:Nat} (h: ∀k,(f k).length≤b) (hl:l.length≤b+1):(qN f k l q).length≤b+1:=by
 unfold qN;split
 · exact hl
 · have:=h q;omega
theorem Qj (x:GrI) (n:Nat) (i:Nat): ∀k,((zG x n i).1 k).length≤i:=by
 induction i with
 |zero=>intro k;simp[zG]
 | succ i ih=>
   intro k
   unfold zG kR
   dsimp only
   split
   · have:=ih k;omega
   · refine qhg ih ?_
     rw[List.length_append];have:=ih ((x.rules.getD i []).getD 0 0 % (n:Int)).toNat
     simp only[List.length_cons,List.length_nil];omega
abbrev qPC:V:= .agg [.str [],.sl 4 true [],.sl 3 true [],.str []]
structure SrcAt (s:St) (x:GrI) (n xb rb sb hb rid:Nat) (dV:V) (vA:Nat→V) (als:Nat→List V) (q:(Nat→List Alt)×(Nat→Bool)):Prop where
 f1:s.f 1=.ptr xb 0 0
 f2:s.f 2=.ptr rb 0 0
 f3:s.f 3=vi n
 f4:s.f 4=.ptr sb 0 0
 f5:s.f 5=.msl hb 1 0 n
 hx:s.H xb=some (.own 5 [x.V] false)
 hr:s.H rb=some (.own 4 [qPC] false)
 hs:s.H sb=some (.own 4 [.agg [.str [],dV,.msl rid 3 0 n,.str []]] false)
 hh:s.H hb=some (.own 1 (JJ n q.2) false)
 rw:RW s.H s.next rid n vA als q.1
 o1:xb<rb
 o2:rb<sb
 o3:sb<hb
 o4:hb<rid
theorem SrcAt.mono {s s':St} {x:GrI} {n xb rb sb hb rid:Nat} {dV:V} {vA:Nat→V} {als:Nat→List V} {q:(Nat→List Alt)×(Nat→Bool)} (h:SrcAt s x n xb rb sb hb rid dV vA als q)
 (hf: ∀t,1≤t→t≤5→s'.f t=s.f t) (hn:s.next≤s'.next) (hH: ∀j,j<s.next→s'.H j=s.H j):SrcAt s' x n xb rb sb hb rid dV vA als q:=by
 have:=h.rw.lr;have o1:=h.o1;have o2:=h.o2;have o3:=h.o3;have o4:=h.o4
 exact⟨by rw[hf 1 (by omega) (by omega)];exact h.f1,by rw[hf 2 (by omega) (by omega)];exact h.f2,by rw[hf 3 (by omega) (by omega)];exact h.f3,by rw[hf 4 (by omega) (by omega)];exact h.f4,by rw[hf 5 (by omega) (by omega)];exact h.f5,
  by rw[hH _ (by omega)];exact h.hx,by rw[hH _ (by omega)];exact h.hr,by rw[hH _ (by omega)];exact h.hs,by rw[hH _ (by omega)];exact h.hh,h.rw.mono hn (hH _ (by omega)) (fun k _ j _ hj=>hH j hj),o1,o2,o3,o4⟩
theorem qAt {s0:St} {x:GrI} {n xb rb sb hb rid:Nat} {dV:V} {vA:Nat→V} {als:Nat→List V} {Q:Exit→St→Prop} {E:EC} (hn:0<n) (hn4:n≤4) (hb1:x.rules.length≤1099511627776) (hb2: ∀l∈x.rules,l.length≤1099511627776) (hib:x.inner.length≤1099511627776)
 (h:SrcAt s0 x n xb rb sb hb rid dV vA als (zG x n 0))
 (hQ: ∀s' vA' als',SrcAt s' x n xb rb sb hb rid dV vA' als' (zG x n (min 9 x.rules.length))→ewp Try.prog E Q s'):ewp Try.prog (.seq KX E) Q s0:=by
 have f1:=h.f1;have f2:=h.f2;have f3:=h.f3;have f4:=h.f4;have f5:=h.f5
 repeat' with_reducible first
  |refine s_ ?_
  |simp only[wZZ,seval,f1,f2,f3,f4,f5]
 refine qd ?nx2 (fun(p:Nat×(Nat→V)×(Nat→List V)) s=>s.f 1=?v2_1∧s.f 2=?v2_2∧s.f 3=?v2_3∧s.f 4=?v2_4∧s.f 5=?v2_5∧s.f 7=vi p.1∧(p.1≤x.rules.length)∧(p.1≤9)∧(SrcAt s x n xb rb sb hb rid dV p.2.1 p.2.2 (zG x n p.1))) (fun p=>x.rules.length - p.1) ((0,vA,als)) wj_ (by refine⟨?_,?_,?_,?_,?_,?_,wo_,wo_,(by exact h.mono (fun t h1 h2=>by simp only[wL];rw[if_neg (by omega)]) (by((try simp only[wN])<;>omega)) (fun j hj=>by simp only[wM]))⟩<;>first|(simp only[wL,wM,wN,wX,seval,Option.some.injEq]<;>exact wt_)|rfl|exact⟨_,rfl⟩) ?_
 intro p s hnx ⟨g1,g2,g3,g4,g5,g7,k2_0,k2_1,k2_2⟩
 obtain ⟨i,vB,bls⟩:=p
 dsimp only at *
 have hS:=k2_2
 obtain ⟨q1,q2,q3,q4,q5,hx,hr,hs,hh,hW,o1,o2,o3,o4⟩:=hS
 have lr:=hW.lr
 have hzi:=w1_ i
 have hrl:=Qj x n i
 have hst:zG x n (i+1)=kR x n i (zG x n i):=rfl
 unfold kR at hst
 by_cases hi:i<x.rules.length∧i<9
 · have hg:=getD_some (d:=[]) hi.1
   have hmem:(x.rules.getD i [])∈x.rules:=List.mem_of_getElem? hg
   have hlb:=hb2 _ hmem
   by_cases hl0:x.rules.getD i []=[]
   · rw[hl0]at hg
     simp only[if_pos hl0]at hst
     repeat' with_reducible first
      |refine s_ ?_
      |simp only[wZZ,seval,g1,g2,g3,g4,g5,g7,f1,f2,f3,f4,f5,hx,hzi]
      |(first|apply qa|apply qh|apply qg)<;>intro h h_<;>(try simp only[wD,reduceCtorEq]at h_)<;>(try exact wb_)<;>(try simp only[h])
      |refine t_ ?_
     refine⟨wk_,(i+1,vB,bls),(by omega),?_⟩
     refine⟨?_,?_,?_,?_,?_,?_,?_,?_,?_⟩
     iterate 6 (focus(first|(simp only[wL,wM,wN,wX,seval,Option.some.injEq,g1,g2,g3,g4,g5,g7]<;>exact wt_)|rfl|exact⟨_,rfl⟩))
     all_goals try omega
     rw[hst]
     exact k2_2.mono (fun t h1 h2=>by simp only[wL];(repeat first|rw[if_pos rfl]|rw[if_neg (by omega)])) (by((try simp only[wN])<;>omega)) (fun j hj=>by simp only[wM])
   · simp only[if_neg hl0]at hst
     have tail:=fun s0 x n i a xb Q=> @qQe s0 x n i a xb qcJ Q
     show ewp _ (.seq qii (.seq (.block 3 (.seq qjd (.seq (.reg qjt) (.seq (.reg qiG) (.seq (.reg qh1) (.seq qcm (.seq qb0 qcJ))))))) (.reg qiB))) _ _
     generalize (EC.seq qcm (.seq qb0 qcJ))=F at tail
     have hl1:0<(x.rules.getD i []).length:=List.length_pos_iff.2 hl0
     have hg0:=getD_some (d:=(0:Int)) hl1
     obtain ⟨k,hk⟩: ∃k:Nat,(x.rules.getD i []).getD 0 0 % (n:Int)=k:=⟨((x.rules.getD i []).getD 0 0 % (n:Int)).toNat,by have:=Int.emod_nonneg ((x.rules.getD i []).getD 0 0) (show (n:Int)≠0 by omega);omega⟩
     have hkn:k<n:=by have:=Int.emod_lt_of_pos ((x.rules.getD i []).getD 0 0) (show (0:Int)<n by omega);omega
     rw[hk,Int.toNat_natCast]at hst
     repeat' with_reducible first
      |refine s_ ?_
      |simp only[wZZ,seval,g1,g2,g3,g4,g5,g7,f1,f2,f3,f4,f5,hx,hzi,hk]
      |(first|apply qa|apply qh|apply qg)<;>intro h h_<;>(try simp only[wD,reduceCtorEq]at h_)<;>(try exact wb_)<;>(try simp only[h])
      |refine t_ ?_
      |refine jA we_ we_ (qB wf_ wf_) ?_
     have hne6: ∀j,j<s.next→j≠s.next+26:=fun j hj=>by omega
     refine tail _ x n i (s.next+26) xb _ hn hn4 hi.1 hi.2 hl0 hlb hib (by(simp only[wL,seval,q1])) (by(simp only[wL,seval,q3])) (by(simp only[wL,seval,g7])) (by(simp only[wL,seval])) (by(simp only[wL,seval])) (by(simp only[wM];(repeat first|rw[if_pos trivial]|rw[if_pos rfl]|rw[if_neg (by omega)]));exact hx) wc_ (by((try simp only[wN])<;>omega)) (by((try simp only[wN])<;>omega)) (by omega) (fun s2 hA=>?_)
     obtain ⟨⟨vP,es,oA,GP,eP,hfr⟩,hpl,hfl,hhp,hnx2⟩:=hA
     simp only[wN]at hnx2 hfr
     have hhp2: ∀j,j<s.next→s2.H j=s.H j:=fun j hj=>by
      rw[hhp j wh_ (by omega)]
      (simp only[wM];(repeat first|rw[if_pos trivial]|rw[if_pos rfl]|rw[if_neg (by omega)]))
     have r1:s2.f 1=.ptr xb 0 0:=by rw[hfl 1 (by omega)];(simp only[wL,seval,q1])
     have r2:s2.f 2=.ptr rb 0 0:=by rw[hfl 2 (by omega)];(simp only[wL,seval,q2])
     have r3:s2.f 3=vi n:=by rw[hfl 3 (by omega)];(simp only[wL,seval,q3])
     have r4:s2.f 4=.ptr sb 0 0:=by rw[hfl 4 (by omega)];(simp only[wL,seval,q4])
     have r5:s2.f 5=.msl hb 1 0 n:=by rw[hfl 5 (by omega)];(simp only[wL,seval,q5])
     have r7:s2.f 7=vi i:=by rw[hfl 7 (by omega)];(simp only[wL,seval,g7])
     have r8:s2.f 8=vi k:=by rw[hfl 8 (by omega)];(simp only[wL,seval])
     have r9:s2.f 9=.ptr (s.next+26) 0 0:=by rw[hfl 9 (by omega)];(simp only[wL,seval])
     have hx2:=hx;rw[← hhp2 xb (by omega)]at hx2
     have hr2:=hr;rw[← hhp2 rb (by omega)]at hr2
     have hs2:=hs;rw[← hhp2 sb (by omega)]at hs2
     have hh2:=hh;rw[← hhp2 hb (by omega)]at hh2
     have hW2:RW s2.H s2.next rid n vB bls (zG x n i).1:=hW.mono (by omega) (hhp2 _ lr) (fun q _ j _ hj=>hhp2 j hj)
     have hR2:=hW2.ho
     have hG2:=hW2.gr k hkn
     have n1:=hW2.ne (fun f e=>by rw[hR2]at e;cases e) hkn (j:=rid)
     have n2:=hW2.ne (fun f e=>by rw[hs2]at e;cases e) hkn (j:=sb)
     have n3:=hW2.ne (fun f e=>by rw[hh2]at e;cases e) hkn (j:=hb)
     have n4:=hW2.ne (fun f e=>by rw[oA]at e;cases e) hkn (j:=s.next+26)
     have n5:=hW2.ne (fun f e=>by rw[hx2]at e;cases e) hkn (j:=xb)
     have n6:=hW2.ne (fun f e=>by rw[hr2]at e;cases e) hkn (j:=rb)
     have hll:=(hW.ep k hkn).len
     rw[List.length_map]at hll
     have hrk:=hrl k
     generalize qaP (x.rules.getD i []) n=pl at *
     repeat' with_reducible first
      |refine s_ ?_
      |simp only[wZZ,seval,g1,g2,g3,g4,g5,g7,r1,r2,r3,r4,r5,r7,r8,r9,hpl,hx2,hs2,hh2,hR2,oA,hzi,qc n1,qc n2,qc n3,qc n4]
      |(first|apply qh|apply qg)<;>intro h h_<;>(try simp only[wD,reduceCtorEq]at h_)<;>(try exact wb_)<;>(try simp only[h])
      |(refine ldB hkn ?_)
      |(refine stB hkn ?_)
      |apply qQ rfl (hG2.mono (Nat.le_refl _) (fun id h1 h2=>by(try simp only[wM]);rw[if_neg (fun e=>absurd h1 (by rw[e];exact n3))]));exact qI.sl;(focus(simp only[wZ]<;>omega));(focus(unfold maxLen;simp only[wZ]<;>omega))
      |(refine qaC (x9 hkn) rfl ?_)
      |apply qaw (x9 hkn);exact wu_;exact wu_;exact wu_;(focus(simp only[wZ]<;>omega))
      |refine t_ ?_
      |simp(disch:=omega) only[w64,if_neg]
     all_goals
      refine⟨by((try simp only[wN])<;>omega),(i+1,qN vB k (.asl (s2.next+11+11) ((bls k).length+1) 6 (bls k++[.agg [vP,.str [],.bool false,vi 0,vi 0,vi 0]])),qN bls k (bls k++[.agg [vP,.str [],.bool false,vi 0,vi 0,vi 0]])),by dsimp only;omega,?_⟩
      dsimp only
      have e2:zG x n (i+1)=(qN (zG x n i).1 k ((zG x n i).1 k++[qdz (x.rules.getD i []) n x.inner i]),qN (zG x n i).2 k ((zG x n i).2 k || pl)):=hst
      rw[e2]
      refine⟨trivial,trivial,trivial,trivial,trivial,rfl,by omega,by omega,⟨by(simp only[wL,seval,r1]),by(simp only[wL,seval,r2]),by(simp only[wL,seval,r3]),by(simp only[wL,seval,r4]),by(simp only[wL,seval,r5]),?_,?_,?_,?_,?_,o1,o2,o3,o4⟩⟩
      · ((try simp only[wM]);(repeat first|rw[if_pos trivial]|rw[if_pos rfl]|rw[if_neg (by omega)]|rw[qc n1]|rw[qc n2]|rw[qc n3]|rw[qc n4]|rw[qc n5]|rw[qc n6]|simp only[wM]));exact hx2
      · ((try simp only[wM]);(repeat first|rw[if_pos trivial]|rw[if_pos rfl]|rw[if_neg (by omega)]|rw[qc n1]|rw[qc n2]|rw[qc n3]|rw[qc n4]|rw[qc n5]|rw[qc n6]|simp only[wM]));exact hr2
      · ((try simp only[wM]);(repeat first|rw[if_pos trivial]|rw[if_pos rfl]|rw[if_neg (by omega)]|rw[qc n1]|rw[qc n2]|rw[qc n3]|rw[qc n4]|rw[qc n5]|rw[qc n6]|simp only[wM]));exact hs2
      · ((try simp only[wM]);(repeat first|rw[if_pos trivial]|rw[if_pos rfl]|rw[if_neg (by omega)]|rw[qc n1]|rw[qc n2]|rw[qc n3]|rw[qc n4]|rw[qc n5]|rw[qc n6]|simp only[wM]))
        refine congrArg some (congrArg (fun c=>MObj.own 1 (JJ n (qN (zG x n i).2 k c)) false) ?_)
        simp[*]
      · refine hW2.put hkn (ErL.agg (.cons (GP.erL eP.up) (.cons (.str _) (.cons (.bool _) (.cons (.int _ _) (.cons (.int _ _) (.cons (.int _ _) .nil))))))) (by omega) (by omega) (by((try simp only[wN])<;>omega)) ?_ ?_ (fun q hq hqk j h1 h2=>?_)
        · ((try simp only[wM]);(repeat first|rw[if_pos trivial]|rw[if_pos rfl]|rw[if_neg (by omega)]|rw[qc n1]|rw[qc n2]|rw[qc n3]|rw[qc n4]|rw[qc n5]|rw[qc n6]|simp only[wM]))
          rw[qcN hkn]
        · ((try simp only[wM]);(repeat first|rw[if_pos trivial]|rw[if_pos rfl]|rw[if_neg (by omega)]|rw[qc n1]|rw[qc n2]|rw[qc n3]|rw[qc n4]|rw[qc n5]|rw[qc n6]|simp only[wM]))
        · have p1:j≠rid:=fun e=>by subst e;exact hW2.ne (fun f e=>by rw[hR2]at e;cases e) hq h1
          have p2:j≠hb:=fun e=>by subst e;exact hW2.ne (fun f e=>by rw[hh2]at e;cases e) hq h1
          have p3:gid (vB k)≠some j:=fun e=>hW2.sep q k hq hkn hqk j h1 e
          (try simp only[wM])
          repeat first|rw[if_pos trivial]|rw[if_pos rfl]|rw[if_neg (by omega)]|rw[qc p3]|simp only[wM]
 · have e:i=min 9 x.rules.length:=by omega
   rw[e]at k2_2
   repeat' with_reducible first
    |refine s_ ?_
    |simp only[wZZ,seval,g1,g2,g3,g4,g5,g7,f1,f2,f3,f4,f5,hx]
    |(first|apply qa|apply qh|apply qg)<;>intro h h_<;>(try simp only[wD,reduceCtorEq]at h_)<;>(try exact wb_)<;>(try simp only[h])
    |refine t_ ?_
   all_goals exact hQ _ vB bls (k2_2.mono (fun t h1 h2=>by simp only[wL];(repeat first|rw[if_pos rfl]|rw[if_neg (by omega)])) (by((try simp only[wN])<;>omega)) (fun j hj=>by simp only[wM]))
end Go.Proofs
