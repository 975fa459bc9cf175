/- Part of a proof that a law of the given program answers true. -/
import Derived.Test.YtkcegflhobejmaaGreatDoorBZC
set_option maxRecDepth 20000
set_option linter.unusedSimpArgs false
set_option linter.unusedVariables false
set_option maxHeartbeats 4000000
namespace Go.Proofs
open Go.E
theorem ErL.set {b:Bool} {H:Nat→Option MObj} {l l':List V} (h:ErL b H l l') {v v':V} (hv:Er b H v v'): ∀i,ErL b H (l.set i v) (l'.set i v'):=by
 induction h with
 |nil=>intro i;exact .nil
 | cons h hl ih=>
   intro i
   cases i with
   |zero=>exact .cons hv hl
   |succ i=>exact .cons h (ih i)
abbrev qwu (es:List V) (m:List Sta) (i:Nat):Prop:=Ze es (m.map Sta.V)∧ ∀j,i≤j→j<m.length→ ∃q vK,m[j]?=some q∧es[j]?=some (.agg [vK,.sl 2 true []])∧ErP vK (.sl 2 false (q.ker.map itV))∧q.mov=[]
abbrev qaW (H:Nat→Option MObj) (next:Nat) (es:List V) (m:List Sta) (i:Nat) (vK vM:V) (q:Sta):Prop:=Ze es (m.map Sta.V)∧m[i]?=some q∧es[i]?=some (.agg [vK,vM])∧ErP vK (.sl 2 false (q.ker.map itV))∧Gr H next 2 (q.mov.map prV) vM∧ ∀j,i<j→j<m.length→ ∃q vK,m[j]?=some q∧es[j]?=some (.agg [vK,.sl 2 true []])∧ErP vK (.sl 2 false (q.ker.map itV))∧q.mov=[]
theorem qwu.start {H:Nat→Option MObj} {next i:Nat} {es:List V} {m:List Sta} (h:qwu es m i) (hi:i<m.length): ∃vK q,qaW H next es m i vK (.sl 2 true []) q∧q.mov=[]:=by
 obtain ⟨q,vK,h1,h2,h3,h4⟩:=h.2 i (Nat.le_refl _) hi
 exact⟨vK,q,⟨h.1,h1,h2,h3,by rw[h4];exact Gr.nil,fun j hj hm=>h.2 j o_ hm⟩,h4⟩
theorem qaW.done {H:Nat→Option MObj} {next i:Nat} {es:List V} {m:List Sta} {vK vM:V} {q:Sta} (h:qaW H next es m i vK vM q):qwu es m (i+1):=
 ⟨h.1,fun j hj hm=>h.2.2.2.2.2 j o_ hm⟩
theorem qaW.mono {H H':Nat→Option MObj} {next next' i:Nat} {es:List V} {m:List Sta} {vK vM:V} {q:Sta} (h:qaW H next es m i vK vM q) (hn:next≤next') (hH: ∀id,gid vM=some id→id<next→H' id=H id):qaW H' next' es m i vK vM q:=
 ⟨h.1,h.2.1,h.2.2.1,h.2.2.2.1,h.2.2.2.2.1.mono hn hH,h.2.2.2.2.2⟩
theorem qaW.snoc {H H':Nat→Option MObj} {next next' i:Nat} {es:List V} {m:List Sta} {vK vM vO:V} {q:Sta} {o:List Int} (h:qaW H next es m i vK vM q) (ho:ErP vO (.sl 2 false (o.map itV))) (hn:next≤next') (hH: ∀id,gid vM=some id→id<next→H' id=H id):qaW H' next' (es++[.agg [vO,.sl 2 true []]]) (m++[⟨o,[]⟩]) i vK vM q:=by
 obtain ⟨h1,h2,h3,h4,h5,h6⟩:=h
 have hl:es.length=m.length:=by have:=h1.len;rw[List.length_map]at this;exact this.symm
 have hi:=(List.getElem?_eq_some_iff.1 h2).1
 refine⟨?_,by rw[List.getElem?_append_left hi];exact h2,by rw[List.getElem?_append_left o_];exact h3,h4,h5.mono hn hH,fun j hj hm=>?_⟩
 · rw[List.map_append]
   exact h1.snoc (ErL.agg (.cons ho (.cons zS .nil)))
 · by_cases e:j<m.length
   · obtain ⟨q',vK',g1,g2,g3,g4⟩:=h6 j hj e
     exact⟨q',vK',by rw[List.getElem?_append_left e];exact g1,by rw[List.getElem?_append_left o_];exact g2,g3,g4⟩
   · have e2:j=m.length:=by simp at hm;omega
     subst e2
     refine⟨⟨o,[]⟩,vO,?_,?_,ho,rfl⟩
     · rw[List.getElem?_append_right (Nat.le_refl _),Nat.sub_self];rfl
     · rw[← hl,List.getElem?_append_right (Nat.le_refl _),Nat.sub_self];rfl
theorem qaW.add {H H':Nat→Option MObj} {next next' i:Nat} {es:List V} {m:List Sta} {vK vM vN:V} {q:Sta} {s t:Int} (h:qaW H next es m i vK vM q) (hN:Gr H' next' 2 ((q.mov++[(s,t)]).map prV) vN):qaW H' next' (es.set i (.agg [vK,vN])) (xY m i s t) i vK vN {q with mov:=q.mov++[(s,t)]}:=by
 obtain ⟨h1,h2,h3,h4,h5,h6⟩:=h
 have hl:es.length=m.length:=by have:=h1.len;rw[List.length_map]at this;exact this.symm
 have hi:=(List.getElem?_eq_some_iff.1 h2).1
 rw[jD h2]
 refine⟨?_,by rw[List.getElem?_set,if_pos rfl,if_pos hi],by rw[List.getElem?_set,if_pos rfl,if_pos o_],h4,hN,fun j hj hm=>?_⟩
 · rw[List.map_set]
   exact ErL.set h1 (ErL.agg (.cons h4 (.cons (hN.er rfl) .nil))) i
 · rw[List.length_set]at hm
   obtain ⟨q',vK',g1,g2,g3,g4⟩:=h6 j hj hm
   exact⟨q',vK',by rw[List.getElem?_set,if_neg o_];exact g1,by rw[List.getElem?_set,if_neg o_];exact g2,g3,g4⟩
theorem qx2:qwu [.agg [.sl 2 true [.agg [.int .i64 0,.int .i64 0]],.sl 2 true []]] [⟨[0],[]⟩] 0:=by
 have hk:ErP (.sl 2 true [.agg [.int .i64 0,.int .i64 0]]) (.sl 2 false (([0]:List Int).map itV)):=ErL.sl (.cons (ErL.agg (.cons (.int _ _) (.cons (.int _ _) .nil))) .nil)
 refine⟨.cons (ErL.agg (.cons hk (.cons zS .nil))) .nil,fun j hj hm=>?_⟩
 have:j=0:=by simp at hm;omega
 subst this
 exact⟨_,_,rfl,rfl,hk,rfl⟩
theorem qaM {H:Nat→Option MObj} {g:Option Nat} {j:Nat} {o:Option MObj} (h: ∀x,g=some x→x≠j) (hj:H j=o):QB H g j=o:=by
 unfold QB
 rw[if_neg (fun e=>h j e rfl)];exact hj
def qQt:Option (List Sta)→V
 |some m=>.tup [.sl 2 false (m.map Sta.V),vi 0]
 |none=>.tup [.sl 2 false [],vi 4]
theorem QN (g:Grammar) (i:Nat) (a:List Int): ∀l:List Int,l.foldl (vE g i a) none=none
 |[]=>rfl
 | _::l=>QN g i a l

theorem qbT {g:Grammar} (hg:GOk g) {i:Nat} {A:List Int} {k:Nat} {s:Int} {m m':List Sta} (hI:AutI g m i k) (hi:i<m.length) (hs:kX g.toks.length g.nons.length s)
 (h:vE g i A (some m) s=some m'):AutI g m' i (k+1)∧i<m'.length:=by
 have hq:m[i]?=some m[i]:=ge_ hi
 have hqm:=List.getElem_mem hi
 have hk:JX m i=m[i].ker:=by unfold JX;rw[hq];rfl
 have hS:vE g i A (some m) s=if s∈A then(if Zv m (XB g m[i].ker s)<0 then(if m.length=150 then none else some (xY (m++[⟨XB g m[i].ker s,[]⟩]) i s m.length))else some (xY m i s (Zv m (XB g m[i].ker s))))else some m:=by rw[← hk];rfl
 rw[hS]at h
 obtain ⟨hoR,hoI⟩:=qcG (s:=s) hg (hI.ki _ hqm) (hI.kr _ hqm)
 by_cases hc:s∈A
 · rw [if_pos hc]at h
   rcases Jy (k:=XB g m[i].ker s) m with hf|⟨t,hf,q,hqt,hqk⟩
   · rw[if_pos o_]at h
     by_cases hm:m.length=150
     · rw[if_pos hm]at h;cases h
     · rw[if_neg hm]at h
       cases h
       have hml:=hI.len
       have hq':(m++[(⟨XB g m[i].ker s,[]⟩:Sta)])[i]?=some m[i]:=by rw[List.getElem?_append_left hi];exact hq
       exact⟨(hI.snoc hi o_ hoR hoI).add hq' hs (by simp),by rw[jD hq',List.length_set,List.length_append];omega⟩
   · rw[if_neg o_,hf]at h
     cases h
     exact⟨hI.add hq hs (List.getElem?_eq_some_iff.1 hqt).1,by rw[jD hq,List.length_set];exact hi⟩
 · rw[if_neg hc]at h
   cases h
   exact⟨hI.skip,hi⟩
theorem qam {g:Grammar} (hg:GOk g) {i:Nat} {A:List Int}: ∀(r:List Int) (k:Nat) (m m':List Sta),AutI g m i k→i<m.length→(∀s∈r,kX g.toks.length g.nons.length s)→
 r.foldl (vE g i A) (some m)=some m'→AutI g m' i (k+r.length)∧i<m'.length
 |[],d,m,m',hI,hi,_,h=>by cases h;exact⟨hI,hi⟩
 | s ::r,k,m,m',hI,hi,hs,h=>by
   rw[List.foldl_cons]at h
   cases h1:vE g i A (some m) s with
   |none=>rw[h1,QN]at h;cases h
   | some m1=>
     rw[h1]at h
     obtain ⟨a,c⟩:=qbT hg hI hi (hs s (by simp)) h1
     have:=qam hg r (k+1) m1 m' a c (fun x hx=>hs x (List.mem_cons_of_mem _ hx)) h
     rw[List.length_cons,← Nat.add_assoc,Nat.add_right_comm];exact this
theorem VD {g:Grammar} (hg:GOk g): ∀(n:Nat) (m:List Sta) (i:Nat) (m':List Sta),AutI g m i 0→151≤n+i→Xn g n m i=some m'→MOk g m'
 | 0,m,i,m',hI,hn,h=>by
   have:=hI.len
   cases h
   exact hI.mok o_
 | n + 1,m,i,m',hI,hn,h=>by
   unfold Xn at h
   by_cases hi:i<m.length
   · rw[if_pos hi]at h
     cases h1:(jK g).foldl (vE g i (qdg g (yt g (JX m i)))) (some m)with
     |none=>rw[h1]at h;cases h
     | some m1=>
       rw[h1]at h
       obtain ⟨a,c⟩:=qam hg (jK g) 0 m m1 hI hi VF h1
       rw[Nat.zero_add]at a
       have hsl:=Vg hg
       exact VD hg n m1 (i+1) m' (a.next hsl) o_ h
   · rw[if_neg hi]at h
     cases h
     exact hI.mok o_
theorem qe7 {g:Grammar} (hg:GOk g) {m:List Sta} (h:YI g=some m):MOk g m:=VD hg 151 _ 0 m (qhA hg) o_ h

set_option maxHeartbeats 8000000
abbrev qex (g:Grammar):List Int→Int→List Int:=fun a x=>if 0≤nxt g x then vF a (nxt g x)else a
theorem qff (g:Grammar) (l:List Int): ∀b:List Int,(l.foldl (qex g) b).length≤b.length+l.length:=by
 induction l with
 |nil=>intro b;exact Nat.le_refl _
 | cons p l ih=>
   intro b
   have h1:(qex g b p).length≤b.length+1:=by
    unfold qex;split
    · exact qaP _ _
    · omega
   have:=ih (qex g b p)
   rw[List.foldl_cons,List.length_cons];omega
theorem jG {g :Grammar} (hg:GOk g):Pure Tryz.prog 50 [g.V] (qQt (YI g)):=by
 refine pure_intro Tryz.func50 nm_ qgc (by show 1≤106;decide) ?_
 show ewp _ qgt _ _
 have hsm:=qG hg
 have hsl:=Vg hg
 have hss:=VF (g:=g)
 obtain ⟨R,hR⟩: ∃R,R=YI g:=⟨_,rfl⟩
 have hR0:Xn g 151 [⟨[0],[]⟩] 0=R:=hR.symm
 rw[← hR]
 have hA0:=qhA hg
 have hsy:jK g=jK g:=rfl
 repeat' with_reducible first
  |refine s_ ?_
  |refine s_ ?_
  |simp -implicitDefEqProofs only[wS,wT,wU,wV,wW,wX,wY,wC,wF,wG,wL,wM,wN,seval,Int.cast_ofNat_Int,Int.reduceLT,Int.reduceLE,Int.reduceEq,Int.reduceToNat,decide_true,decide_false,Bool.false_eq_true]
  |(refine qa (fun h h_=>?_) (fun h h_=>?_)<;>(try simp only[wD,reduceCtorEq]at h_)<;>(try(exfalso;first|omega|exact absurd (Eq.trans (Eq.symm h_) (by assumption):false=true) (by decide)|exact absurd (Eq.trans (Eq.symm h_) (by assumption):true=false) (by decide)|(refine absurd ?_ h_;focus assumption)|(refine absurd h_ ?_;focus assumption)))<;>(try simp only[h]))
  |refine cq1 hsm qj ?_
  |refine t_ ?_
  |apply qo;omega;exact wd_
  |apply qW;(focus(first|exact qc.sl|exact qc.asl|exact qc.str));exact wf_;(focus(unfold maxLen;first|omega|(simp only[wZ]<;>omega)))
  |(refine qI ?_;simp -implicitDefEqProofs only[wM,wN,seval];apply za;(focus(first|exact qc.sl|exact qc.asl|exact qc.str));(exact wf_);(focus(unfold maxLen;first|omega|(simp only[wZ]<;>omega))))
  |apply qB;(focus(first|omega|(simp only[wZ]<;>omega)))
  |apply qf;exact wu_;exact wu_;(focus((try simp -implicitDefEqProofs only[wE,Nat.reduceAdd]);rfl))
  |apply qg;exact wd_;exact wu_
  |apply qh;exact wu_
  |apply qR;exact wf_;exact wu_;exact wu_;(focus(intro _;with_unfolding_all rfl))
  |apply qO;exact wu_;exact wu_;exact wu_
  |refine zf we_ (qG wf_) ?_
  |refine qA we_ we_ (qC wf_ wf_ wf_ wf_) ?_
  |refine qA we_ we_ (qw wf_ wf_ wf_) ?_
  |refine zu we_ we_ we_ (qP wf_ wf_ wf_ wf_) ?_
  |refine qA we_ we_ (qQ wf_ wf_ wf_) ?_
  |simp -implicitDefEqProofs (disch:=omega) only[w64,if_neg]
 refine qi ?nx1 (fun(p:Nat×List Sta) s=>s.f 1=?v1_1∧s.f 5=?v1_5∧s.H 0=some (.own 5 [g.V] false)∧s.f 6=vi p.1∧(p.1≤p.2.length)∧(AutI g p.2 p.1 0)∧(Xn g (151 - p.1) p.2 p.1=R)∧((∃id es,s.f 4=.msl id 2 0 p.2.length∧s.H id=some (.own 2 es false)∧1≤id∧id<s.next∧qwu es p.2 p.1))) (fun p=>151 - p.1) ((0,[⟨[0],[]⟩])) wj_ (by refine⟨?_,?_,?_,?_,wo_,(by exact hA0),(by exact hR0),(by exact⟨6,_,(by(simp -implicitDefEqProofs only[wL,seval])<;>rfl),(by(simp only[wM];(repeat first|rw[if_pos trivial]|rw[if_pos rfl]|rw[if_neg o_]))<;>rfl),o_,wg_,qx2⟩)⟩<;>first|(simp -implicitDefEqProofs only[wL,wM,wN,wX,seval,Option.some.injEq]<;>exact wt_)|rfl|exact⟨_,rfl⟩) ?_
 intro p s hnx ⟨g1,g5,o0,g6,k1_0,k1_1,k1_2,k1_3⟩
 obtain ⟨i,m⟩:=p
 dsimp only at *
 obtain ⟨id,es,g4,oo,hid1,hid2,hT⟩:=k1_3
 have hml:=k1_1.len
 have hz:=w1_ i
 by_cases hi:i<m.length
 · rw [show 151 - i=(150 - i)+1 by omega]at k1_2
   unfold Xn at k1_2
   rw[if_pos hi]at k1_2
   obtain ⟨vK,q,hU,hq0⟩:=hT.start (H:=s.H) (next:=s.next) hi
   have hqm:=hU.2.1
   have hes:=hU.2.2.1
   have hK:=hU.2.2.2.1
   have hmem:=List.mem_of_getElem? hqm
   have hkl:=k1_1.kl hg.pl2 _ hmem
   have hkr:=k1_1.kr _ hmem;have hki:=k1_1.ki _ hmem
   have hcl:=qC hki hkr o_ hg
   have hkA:JX m i=q.ker:=by unfold JX;rw[hqm];rfl
   obtain ⟨_,hok,hcb⟩:=JR hg hki hkr
   have hdA:qdg g (yt g q.ker)=(yt g q.ker).foldl (qex g) []:=rfl
   rw[hkA,hdA]at k1_2
   generalize yt g q.ker=C at *
   repeat' with_reducible first
    |refine s_ ?_
    |refine s_ ?_
    |simp -implicitDefEqProofs only[wS,wT,wU,wV,wW,wX,wY,wC,wF,wG,wL,wM,wN,seval,Int.cast_ofNat_Int,Int.reduceLT,Int.reduceLE,Int.reduceEq,Int.reduceToNat,decide_true,decide_false,Bool.false_eq_true,g1,g5,g6,o0,g4]
    |(refine qa (fun h h_=>?_) (fun h h_=>?_)<;>(try simp only[wD,reduceCtorEq]at h_)<;>(try(exfalso;first|omega|exact absurd (Eq.trans (Eq.symm h_) (by assumption):false=true) (by decide)|exact absurd (Eq.trans (Eq.symm h_) (by assumption):true=false) (by decide)|(refine absurd ?_ h_;focus assumption)|(refine absurd h_ ?_;focus assumption)))<;>(try simp only[h]))
    |apply JW;omega;(focus(rw[Int.toNat_natCast];exact hi))
    |(rw[oo];refine Z9 rfl hes wu_ ?_)
    |refine cq2 hcl qj hK.er ?_
    |refine t_ ?_
    |apply qo;omega;exact wd_
    |apply qW;(focus(first|exact qc.sl|exact qc.asl|exact qc.str));exact wf_;(focus(unfold maxLen;first|omega|(simp only[wZ]<;>omega)))
    |(refine qI ?_;simp -implicitDefEqProofs only[wM,wN,seval,g1,g5,g6,o0,g4];apply za;(focus(first|exact qc.sl|exact qc.asl|exact qc.str));(exact wf_);(focus(unfold maxLen;first|omega|(simp only[wZ]<;>omega))))
    |apply qB;(focus(first|omega|(simp only[wZ]<;>omega)))
    |apply qf;exact wu_;exact wu_;(focus((try simp -implicitDefEqProofs only[wE,Nat.reduceAdd]);rfl))
    |apply qg;exact wd_;exact wu_
    |apply qh;exact wu_
    |apply qR;exact wf_;exact wu_;exact wu_;(focus(intro _;with_unfolding_all rfl))
    |apply qO;exact wu_;exact wu_;exact wu_
    |refine zf we_ (qG wf_) ?_
    |refine qA we_ we_ (qC wf_ wf_ wf_ wf_) ?_
    |refine qA we_ we_ (qw wf_ wf_ wf_) ?_
    |refine zu we_ we_ we_ (qP wf_ wf_ wf_ wf_) ?_
    |refine qA we_ we_ (qQ wf_ wf_ wf_) ?_
    |simp -implicitDefEqProofs (disch:=omega) only[w64,if_neg]
   refine qi ?nx2 (fun(k:Nat) s=>s.f 1=?v2_1∧s.f 5=?v2_5∧s.f 6=?v2_6∧s.f 7=?v2_7∧s.H 0=some (.own 5 [g.V] false)∧(∃c,s.f 8=.sl 1 c (((C.take k).foldl (qex g) []).map (V.int .i64)))∧s.f 9=vi k∧(k≤C.length)∧(id<s.next)∧((s.H id=some (.own 2 es false)))∧(s.f 4=.msl id 2 0 m.length)) (fun k=>C.length - k) (0) wj_ (by refine⟨?_,?_,?_,?_,?_,?_,?_,wo_,wg_,(by((try simp only[wM]);(repeat first|rw[if_pos trivial]|rw[if_pos rfl]|rw[if_neg o_]));exact oo),(by(try simp -implicitDefEqProofs only[wL,wM,wN,seval,g1,g5,g6,o0]);first|done|rfl|exact g4)⟩<;>first|(simp -implicitDefEqProofs only[wL,wM,wN,wX,seval,Option.some.injEq,g1,g5,g6,o0]<;>exact wt_)|rfl|exact⟨_,rfl⟩) ?_
   intro k s hnx ⟨g1,g5,g6,g7,o0,⟨c8,g8⟩,g9,k2_0,k2_1,k2_2,g4⟩
   have hzk:=w1_ k
   have hln:=qff g (C.take k) []
   rw[List.length_take,List.length_nil]at hln
   by_cases hk:k<C.length
   · have hgk:C[k]?=some C[k]:=ge_ hk
     have hst:=XM (qex g) [] hgk
     have hxo:=hok _ (List.getElem_mem hk)
     have hnx:=qw hxo hg.pl2 hg.rlen
     have hbd:=qcm hg hxo
     generalize (C.take k).foldl (qex g) []=A at *
     have hput:=Yu (l:=A) (x:=nxt g C[k]) o_
     simp only[qex]at hst
     generalize C[k]=x at *
     generalize nxt g x=nx at *
     by_cases hc:0≤nx
     · rw[if_pos hc]at hst
       repeat' with_reducible first
        |refine s_ ?_
        |refine s_ ?_
        |simp -implicitDefEqProofs only[wS,wT,wU,wV,wW,wX,wY,wC,wF,wG,wL,wM,wN,seval,Int.cast_ofNat_Int,Int.reduceLT,Int.reduceLE,Int.reduceEq,Int.reduceToNat,decide_true,decide_false,Bool.false_eq_true,g1,g5,g6,g7,g8,g9,g4,o0,hzk]
        |(refine qa (fun h h_=>?_) (fun h h_=>?_)<;>(try simp only[wD,reduceCtorEq]at h_)<;>(try(exfalso;first|omega|exact absurd (Eq.trans (Eq.symm h_) (by assumption):false=true) (by decide)|exact absurd (Eq.trans (Eq.symm h_) (by assumption):true=false) (by decide)|(refine absurd ?_ h_;focus assumption)|(refine absurd h_ ?_;focus assumption)))<;>(try simp only[h]))
        |refine t_ ?_
        |refine cq2 hnx qj qj ?_
        |refine cq2 hput zS qj ?_
        |apply qo;omega;exact wd_
        |apply qW;(focus(first|exact qc.sl|exact qc.asl|exact qc.str));exact wf_;(focus(unfold maxLen;first|omega|(simp only[wZ]<;>omega)))
        |(refine qI ?_;simp -implicitDefEqProofs only[wM,wN,seval,g1,g5,g6,g7,g8,g9,g4,o0,hzk];apply za;(focus(first|exact qc.sl|exact qc.asl|exact qc.str));(exact wf_);(focus(unfold maxLen;first|omega|(simp only[wZ]<;>omega))))
        |apply qB;(focus(first|omega|(simp only[wZ]<;>omega)))
        |apply qf;exact wu_;exact wu_;(focus((try simp -implicitDefEqProofs only[wE,Nat.reduceAdd]);rfl))
        |apply qg;exact wd_;exact wu_
        |apply qh;exact wu_
        |apply qR;exact wf_;exact wu_;exact wu_;(focus(intro _;with_unfolding_all rfl))
        |apply qO;exact wu_;exact wu_;exact wu_
        |refine zf we_ (qG wf_) ?_
        |refine qA we_ we_ (qC wf_ wf_ wf_ wf_) ?_
        |refine qA we_ we_ (qw wf_ wf_ wf_) ?_
        |refine zu we_ we_ we_ (qP wf_ wf_ wf_ wf_) ?_
        |refine qA we_ we_ (qQ wf_ wf_ wf_) ?_
        |simp -implicitDefEqProofs (disch:=omega) only[w64,if_neg]
       exact⟨wg_,k+1,o_,trivial,trivial,trivial,trivial,trivial,⟨_,by rw[hst]⟩,rfl,o_,wg_,k2_2,trivial⟩
     · rw[if_neg hc]at hst
       repeat' with_reducible first
        |refine s_ ?_
        |refine s_ ?_
        |simp -implicitDefEqProofs only[wS,wT,wU,wV,wW,wX,wY,wC,wF,wG,wL,wM,wN,seval,Int.cast_ofNat_Int,Int.reduceLT,Int.reduceLE,Int.reduceEq,Int.reduceToNat,decide_true,decide_false,Bool.false_eq_true,g1,g5,g6,g7,g8,g9,g4,o0,hzk]
        |(refine qa (fun h h_=>?_) (fun h h_=>?_)<;>(try simp only[wD,reduceCtorEq]at h_)<;>(try(exfalso;first|omega|exact absurd (Eq.trans (Eq.symm h_) (by assumption):false=true) (by decide)|exact absurd (Eq.trans (Eq.symm h_) (by assumption):true=false) (by decide)|(refine absurd ?_ h_;focus assumption)|(refine absurd h_ ?_;focus assumption)))<;>(try simp only[h]))
        |refine t_ ?_
        |refine cq2 hnx qj qj ?_
        |apply qo;omega;exact wd_
        |apply qW;(focus(first|exact qc.sl|exact qc.asl|exact qc.str));exact wf_;(focus(unfold maxLen;first|omega|(simp only[wZ]<;>omega)))
        |(refine qI ?_;simp -implicitDefEqProofs only[wM,wN,seval,g1,g5,g6,g7,g8,g9,g4,o0,hzk];apply za;(focus(first|exact qc.sl|exact qc.asl|exact qc.str));(exact wf_);(focus(unfold maxLen;first|omega|(simp only[wZ]<;>omega))))
        |apply qB;(focus(first|omega|(simp only[wZ]<;>omega)))
        |apply qf;exact wu_;exact wu_;(focus((try simp -implicitDefEqProofs only[wE,Nat.reduceAdd]);rfl))
        |apply qg;exact wd_;exact wu_
        |apply qh;exact wu_
        |apply qR;exact wf_;exact wu_;exact wu_;(focus(intro _;with_unfolding_all rfl))
        |apply qO;exact wu_;exact wu_;exact wu_
        |refine zf we_ (qG wf_) ?_
        |refine qA we_ we_ (qC wf_ wf_ wf_ wf_) ?_
        |refine qA we_ we_ (qw wf_ wf_ wf_) ?_
        |refine zu we_ we_ we_ (qP wf_ wf_ wf_ wf_) ?_
        |refine qA we_ we_ (qQ wf_ wf_ wf_) ?_
        |simp -implicitDefEqProofs (disch:=omega) only[w64,if_neg]
       exact⟨wg_,k+1,o_,trivial,trivial,trivial,trivial,trivial,⟨_,by rw[hst]⟩,rfl,o_,wg_,k2_2,trivial⟩
   · have e : C.take k=C:=List.take_of_length_le o_
     rw[e]at g8 hln
     generalize C.foldl (qex g) []=A at *
     repeat' with_reducible first
      |refine s_ ?_
      |refine s_ ?_
      |simp -implicitDefEqProofs only[wS,wT,wU,wV,wW,wX,wY,wC,wF,wG,wL,wM,wN,seval,Int.cast_ofNat_Int,Int.reduceLT,Int.reduceLE,Int.reduceEq,Int.reduceToNat,decide_true,decide_false,Bool.false_eq_true,g1,g5,g6,g7,g8,g9,g4,o0,hz]
      |(refine qa (fun h h_=>?_) (fun h h_=>?_)<;>(try simp only[wD,reduceCtorEq]at h_)<;>(try(exfalso;first|omega|exact absurd (Eq.trans (Eq.symm h_) (by assumption):false=true) (by decide)|exact absurd (Eq.trans (Eq.symm h_) (by assumption):true=false) (by decide)|(refine absurd ?_ h_;focus assumption)|(refine absurd h_ ?_;focus assumption)))<;>(try simp only[h]))
      |refine t_ ?_
      |apply qo;omega;exact wd_
      |apply qW;(focus(first|exact qc.sl|exact qc.asl|exact qc.str));exact wf_;(focus(unfold maxLen;first|omega|(simp only[wZ]<;>omega)))
      |(refine qI ?_;simp -implicitDefEqProofs only[wM,wN,seval,g1,g5,g6,g7,g8,g9,g4,o0,hz];apply za;(focus(first|exact qc.sl|exact qc.asl|exact qc.str));(exact wf_);(focus(unfold maxLen;first|omega|(simp only[wZ]<;>omega))))
      |apply qB;(focus(first|omega|(simp only[wZ]<;>omega)))
      |apply qf;exact wu_;exact wu_;(focus((try simp -implicitDefEqProofs only[wE,Nat.reduceAdd]);rfl))
      |apply qg;exact wd_;exact wu_
      |apply qh;exact wu_
      |apply qR;exact wf_;exact wu_;exact wu_;(focus(intro _;with_unfolding_all rfl))
      |apply qO;exact wu_;exact wu_;exact wu_
      |refine zf we_ (qG wf_) ?_
      |refine qA we_ we_ (qC wf_ wf_ wf_ wf_) ?_
      |refine qA we_ we_ (qw wf_ wf_ wf_) ?_
      |refine zu we_ we_ we_ (qP wf_ wf_ wf_ wf_) ?_
      |refine qA we_ we_ (qQ wf_ wf_ wf_) ?_
      |simp -implicitDefEqProofs (disch:=omega) only[w64,if_neg]
     skip
     refine qi ?nx3 (fun(r:Nat×List Sta) s=>s.f 1=?v3_1∧s.f 5=?v3_5∧s.f 6=?v3_6∧s.H 0=some (.own 5 [g.V] false)∧s.f 11=vi r.1∧(r.1≤(jK g).length)∧(AutI g r.2 i r.1)∧((i<r.2.length))∧(((jK g).take r.1).foldl (vE g i A) (some m)=some r.2)∧((∃id es vK vM q,s.f 4=.msl id 2 0 r.2.length∧s.H id=some (.own 2 es false)∧1≤id∧id<s.next∧qaW s.H s.next es r.2 i vK vM q))∧(s.f 8=.sl 1 c8 (A.map (V.int .i64)))) (fun r=>(jK g).length - r.1) ((0,m)) wj_ (by refine⟨?_,?_,?_,?_,?_,wo_,(by exact k1_1),(by exact hi),(by rfl),(by exact⟨id,es,vK,_,q,(by(simp -implicitDefEqProofs only[wL,seval]);assumption),k2_2,o_,wg_,hU.1,hU.2.1,hU.2.2.1,hU.2.2.2.1,(by rw[hq0];exact Gr.nil),hU.2.2.2.2.2⟩),(by(try simp -implicitDefEqProofs only[wL,wM,wN,seval,g1,g5,g6,o0]);first|done|rfl|exact g8)⟩<;>first|(simp -implicitDefEqProofs only[wL,wM,wN,wX,seval,Option.some.injEq,g1,g5,g6,o0]<;>exact wt_)|rfl|exact⟨_,rfl⟩) ?_
     intro r s hnx ⟨g1,g5,g6,o0,g11,k3_0,k3_1,k3_2,k3_3,k3_4,g8⟩
     obtain ⟨k,m'⟩:=r
     dsimp only at *
     obtain ⟨id2,es2,vK2,vM2,q2,h4,oo2,hid3,hid4,hU2⟩:=k3_4
     have hzk:=w1_ k
     have hml':=k3_1.len
     by_cases hk:k<(jK g).length
     · have hgk:(jK g)[k]?=some (jK g)[k]:=ge_ hk
       have hsi:=hss _ (List.getElem_mem hk)
       have hst:=XM (vE g i A) (some m) hgk
       rw[k3_3]at hst
       generalize (jK g)[k]=sy at *
       have hhas:=Yq (a:=A) (x:=sy) o_
       have hqm2:=hU2.2.1
       have hes2:=hU2.2.2.1
       have hK2:=hU2.2.2.2.1
       have hG2:=hU2.2.2.2.2.1
       have hmem2:=List.mem_of_getElem? hqm2
       have hkr2:=k3_1.kr _ hmem2;have hki2:=k3_1.ki _ hmem2
       have hkl2:=k3_1.kl hg.pl2
       have hql:q2.mov.length≤64:=by have:=k3_1.mvl i q2 hqm2;rw[if_neg o_,if_pos rfl]at this;omega
       have hkA2:JX m' i=q2.ker:=by unfold JX;rw[hqm2];rfl
       have hsS:vE g i A (some m') sy=if sy∈A then(if Zv m' (XB g q2.ker sy)<0 then(if m'.length=150 then none else some (xY (m'++[⟨XB g q2.ker sy,[]⟩]) i sy m'.length))else some (xY m' i sy (Zv m' (XB g q2.ker sy))))else some m':=by rw[← hkA2];rfl
       rw[hsS]at hst
       obtain ⟨hoR,hoI⟩:=qcG (s:=sy) hg hki2 hkr2
       have hol:(XB g q2.ker sy).length≤960:=kT (a:=0) hoR fun x hx=>by
        obtain ⟨h0,p,hp,_⟩:=hoI x hx
        have:=(List.getElem?_eq_some_iff.1 hp).1
        have:=hg.pl2
        omega
       have hov:=qP (sy:=sy) hki2 hkr2 (by have:=hkl2 _ hmem2;omega) hg
       have hfi:=qQ (m:=m') (k:=XB g q2.ker sy) o_ o_ (fun q h=>by have:=hkl2 q h;omega)
       have hfc:=Jy (k:=XB g q2.ker sy) m'
       generalize XB g q2.ker sy=O at *
       generalize Zv m' O=fn at *
       have hEr: ∀H':Nat→Option MObj,H'=s.H→Er true H' (.msl id2 2 0 m'.length) (.sl 2 false (m'.map Sta.V)):=fun H' e=>by
        subst e
        refine YG (ro:=false) oo2 hU2.1.up ?_
        have:=hU2.1.len;rw[List.length_map]at this;exact this.symm
       have hlt2:1<[vK2,vM2].length:=by simp
       by_cases hc:sy∈A
       · rw [if_pos hc]at hst
         rw[decide_eq_true hc]at hhas
         rcases hfc with hf|⟨t,hf,q3,hq3,_⟩
         · rw [if_pos o_]at hst
           subst hf
           by_cases hm:m'.length=150
           · rw[if_pos hm]at hst
             repeat' with_reducible first
              |refine s_ ?_
              |refine s_ ?_
              |simp -implicitDefEqProofs only[wS,wT,wU,wV,wW,wX,wY,wC,wF,wG,wL,wM,wN,seval,Int.cast_ofNat_Int,Int.reduceLT,Int.reduceLE,Int.reduceEq,Int.reduceToNat,decide_true,decide_false,Bool.false_eq_true,g1,g5,g6,g11,g8,o0,hzk,h4]
              |(refine qa (fun h h_=>?_) (fun h h_=>?_)<;>(try simp only[wD,reduceCtorEq]at h_)<;>(try(exfalso;first|omega|exact absurd (Eq.trans (Eq.symm h_) (by assumption):false=true) (by decide)|exact absurd (Eq.trans (Eq.symm h_) (by assumption):true=false) (by decide)|(refine absurd ?_ h_;focus assumption)|(refine absurd h_ ?_;focus assumption)))<;>(try simp only[h]))
              |refine t_ ?_
              |apply JW;omega;(focus(rw[Int.toNat_natCast];exact k3_2))
              |(rw[oo2];refine Z9 rfl hes2 wu_ ?_)
              |refine cq2 hhas zS qj ?_
              |refine cq3 hov qj hK2.er qj ?_
              |apply zn (hp:=hfi);(focus(refine hEr _ ?_;first|rfl|(simp only[wM];done)));exact qj;exact wu_;exact Flat.int _ _
              |apply qo;omega;exact wd_
              |apply qW;(focus(first|exact qc.sl|exact qc.asl|exact qc.str));exact wf_;(focus(unfold maxLen;first|omega|(simp only[wZ]<;>omega)))
              |(refine qI ?_;simp -implicitDefEqProofs only[wM,wN,seval,g1,g5,g6,g11,g8,o0,hzk,h4];apply za;(focus(first|exact qc.sl|exact qc.asl|exact qc.str));(exact wf_);(focus(unfold maxLen;first|omega|(simp only[wZ]<;>omega))))
              |apply qB;(focus(first|omega|(simp only[wZ]<;>omega)))
              |apply qf;exact wu_;exact wu_;(focus((try simp -implicitDefEqProofs only[wE,Nat.reduceAdd]);rfl))
              |apply qg;exact wd_;exact wu_
              |apply qh;exact wu_
              |apply qR;exact wf_;exact wu_;exact wu_;(focus(intro _;with_unfolding_all rfl))
              |apply qO;exact wu_;exact wu_;exact wu_
              |refine zf we_ (qG wf_) ?_
              |refine qA we_ we_ (qC wf_ wf_ wf_ wf_) ?_
              |refine qA we_ we_ (qw wf_ wf_ wf_) ?_
              |refine zu we_ we_ we_ (qP wf_ wf_ wf_ wf_) ?_
              |refine qA we_ we_ (qQ wf_ wf_ wf_) ?_
              |simp -implicitDefEqProofs (disch:=omega) only[w64,if_neg]
             have hRn:R=none:=by
              rw[← k1_2]
              have e1:(jK g).foldl (vE g i A) (some m)=((jK g).drop (k+1)).foldl (vE g i A) (((jK g).take (k+1)).foldl (vE g i A) (some m)):=by rw[← List.foldl_append,List.take_append_drop]
              rw[e1,hst,QN];rfl
             subst hRn
             refine qi7 rfl (Or.inr rfl) ?_
             (simp -implicitDefEqProofs only[wL,seval])
             exact ErL.tup (.cons (ErL.sl .nil) (.cons (.int _ _) .nil))
           · rw[if_neg hm]at hst
             have hlm:(q2.mov.map prV).length=q2.mov.length:=List.length_map _
             have hnl:m'.length=es2.length:=by have:=hU2.1.len;rw[List.length_map]at this;exact this
             have hne:=fun x h=>Gr.ne hG2 oo2 (x:=x) h
             have hi3:i<es2.length+[V.agg [V.sl 2 false (O.map itV),.sl 2 true []]].length:=by rw[List.length_singleton];omega
             have hes3:(es2++[V.agg [V.sl 2 false (O.map itV),.sl 2 true []]])[i]?=some (.agg [vK2,vM2]):=by rw[List.getElem?_append_left o_];exact hes2
             repeat' with_reducible first
              |refine s_ ?_
              |refine s_ ?_
              |simp -implicitDefEqProofs only[wS,wT,wU,wV,wW,wX,wY,wC,wF,wG,wL,wM,wN,seval,Int.cast_ofNat_Int,Int.reduceLT,Int.reduceLE,Int.reduceEq,Int.reduceToNat,decide_true,decide_false,Bool.false_eq_true,g1,g5,g6,g11,g8,o0,hzk,h4]
              |(refine qa (fun h h_=>?_) (fun h h_=>?_)<;>(try simp only[wD,reduceCtorEq]at h_)<;>(try(exfalso;first|omega|exact absurd (Eq.trans (Eq.symm h_) (by assumption):false=true) (by decide)|exact absurd (Eq.trans (Eq.symm h_) (by assumption):true=false) (by decide)|(refine absurd ?_ h_;focus assumption)|(refine absurd h_ ?_;focus assumption)))<;>(try simp only[h]))
              |refine t_ ?_
              |apply JW;omega;(focus(rw[Int.toNat_natCast];first|exact k3_2|exact hi3))
              |(rw[oo2];refine Z9 rfl hes2 wu_ ?_)
              |refine cq2 hhas zS qj ?_
              |refine cq3 hov qj hK2.er qj ?_
              |apply zn (hp:=hfi);(focus(refine hEr _ ?_;first|rfl|(simp only[wM];done)));exact qj;exact wu_;exact Flat.int _ _
              |(refine Qu rfl (by first|exact oo2|(simp only[wM];exact oo2)) hnl qc.sl (by simp only[wZ]<;>omega) (by unfold maxLen;simp only[wZ]<;>omega) ?_)
              |(refine Z9 rfl hes3 wu_ ?_)
              |apply qX rfl (hG2.mono (Nat.le_refl _) (fun x h1 h2=>by have:=hne x h1;(try simp only[wM]);(repeat rw[if_neg o_])));exact qc.sl;(focus(simp only[wZ,hlm];omega));(focus(unfold maxLen;simp only[wZ,hlm];omega))
              |(refine qbI (qaM (fun x h=>by have:=hG2.lt h;omega) (by(try simp only[wM]);(repeat first|rw[if_pos trivial]|rw[if_pos rfl]|rw[if_neg o_]))) hes3 wu_ wu_ wu_ hlt2 ?_)
              |apply qo;omega;exact wd_
              |apply qW;(focus(first|exact qc.sl|exact qc.asl|exact qc.str));exact wf_;(focus(unfold maxLen;first|omega|(simp only[wZ]<;>omega)))
              |(refine qI ?_;simp -implicitDefEqProofs only[wM,wN,seval,g1,g5,g6,g11,g8,o0,hzk,h4];apply za;(focus(first|exact qc.sl|exact qc.asl|exact qc.str));(exact wf_);(focus(unfold maxLen;first|omega|(simp only[wZ]<;>omega))))
              |apply qB;(focus(first|omega|(simp only[wZ]<;>omega)))
              |apply qf;exact wu_;exact wu_;(focus((try simp -implicitDefEqProofs only[wE,Nat.reduceAdd]);rfl))
              |apply qg;exact wd_;exact wu_
              |apply qh;exact wu_
              |apply qR;exact wf_;exact wu_;exact wu_;(focus(intro _;with_unfolding_all rfl))
              |apply qO;exact wu_;exact wu_;exact wu_
              |refine zf we_ (qG wf_) ?_
              |refine qA we_ we_ (qC wf_ wf_ wf_ wf_) ?_
              |refine qA we_ we_ (qw wf_ wf_ wf_) ?_
              |refine zu we_ we_ we_ (qP wf_ wf_ wf_ wf_) ?_
              |refine qA we_ we_ (qQ wf_ wf_ wf_) ?_
              |simp -implicitDefEqProofs (disch:=omega) only[w64,if_neg]
             have hq':(m'++[(⟨O,[]⟩:Sta)])[i]?=some q2:=by rw[List.getElem?_append_left k3_2];exact hqm2
             have hU3:=hU2.snoc (o:=O) (vO:= .sl 2 false (O.map itV)) qj (Nat.le_refl _) (fun _ _ _=>rfl)
             exact⟨wg_,(k+1,xY (m'++[⟨O,[]⟩]) i sy m'.length),by dsimp only;omega,trivial,trivial,trivial,qaM (fun x h=>Gr.ne hG2 o0 h) (by((try simp only[wM]);(repeat first|rw[if_pos trivial]|rw[if_pos rfl]|rw[if_neg o_]));exact o0),rfl,by dsimp only;omega,(k3_1.snoc k3_2 o_ hoR hoI).add hq' hsi (by simp),by dsimp only;rw[jD hq',List.length_set,List.length_append];omega,hst,⟨_,_,vK2,_,_,by dsimp only;rw[jD hq',List.length_set,List.length_append,hnl];rfl,if_pos rfl,o_,wg_,hU3.add (by rw[List.map_append];exact Gr.tok hh_ wg_)⟩,trivial⟩
         · rw[if_neg o_]at hst
           subst hf
           have ht:=(List.getElem?_eq_some_iff.1 hq3).1
           have hlm:(q2.mov.map prV).length=q2.mov.length:=List.length_map _
           repeat' with_reducible first
            |refine s_ ?_
            |refine s_ ?_
            |simp -implicitDefEqProofs only[wS,wT,wU,wV,wW,wX,wY,wC,wF,wG,wL,wM,wN,seval,Int.cast_ofNat_Int,Int.reduceLT,Int.reduceLE,Int.reduceEq,Int.reduceToNat,decide_true,decide_false,Bool.false_eq_true,g1,g5,g6,g11,g8,o0,hzk,h4]
            |(refine qa (fun h h_=>?_) (fun h h_=>?_)<;>(try simp only[wD,reduceCtorEq]at h_)<;>(try(exfalso;first|omega|exact absurd (Eq.trans (Eq.symm h_) (by assumption):false=true) (by decide)|exact absurd (Eq.trans (Eq.symm h_) (by assumption):true=false) (by decide)|(refine absurd ?_ h_;focus assumption)|(refine absurd h_ ?_;focus assumption)))<;>(try simp only[h]))
            |refine t_ ?_
            |apply JW;omega;(focus(rw[Int.toNat_natCast];exact k3_2))
            |(rw[oo2];refine Z9 rfl hes2 wu_ ?_)
            |refine cq2 hhas zS qj ?_
            |refine cq3 hov qj hK2.er qj ?_
            |apply zn (hp:=hfi);(focus(refine hEr _ ?_;first|rfl|(simp only[wM];done)));exact qj;exact wu_;exact Flat.int _ _
            |apply qX rfl (hG2.mono (Nat.le_refl _) (fun id h1 h2=>by(try simp only[wM]);(repeat rw[if_neg o_])));(focus(first|exact qc.sl|exact qc.asl));(focus(simp only[wZ,hlm];omega));(focus(unfold maxLen;simp only[wZ,hlm];omega))
            |(refine qbI (hG2.dropO oo2) hes2 wu_ wu_ wu_ hlt2 ?_)
            |apply qo;omega;exact wd_
            |apply qW;(focus(first|exact qc.sl|exact qc.asl|exact qc.str));exact wf_;(focus(unfold maxLen;first|omega|(simp only[wZ]<;>omega)))
            |(refine qI ?_;simp -implicitDefEqProofs only[wM,wN,seval,g1,g5,g6,g11,g8,o0,hzk,h4];apply za;(focus(first|exact qc.sl|exact qc.asl|exact qc.str));(exact wf_);(focus(unfold maxLen;first|omega|(simp only[wZ]<;>omega))))
            |apply qB;(focus(first|omega|(simp only[wZ]<;>omega)))
            |apply qf;exact wu_;exact wu_;(focus((try simp -implicitDefEqProofs only[wE,Nat.reduceAdd]);rfl))
            |apply qg;exact wd_;exact wu_
            |apply qh;exact wu_
            |apply qR;exact wf_;exact wu_;exact wu_;(focus(intro _;with_unfolding_all rfl))
            |apply qO;exact wu_;exact wu_;exact wu_
            |refine zf we_ (qG wf_) ?_
            |refine qA we_ we_ (qC wf_ wf_ wf_ wf_) ?_
            |refine qA we_ we_ (qw wf_ wf_ wf_) ?_
            |refine zu we_ we_ we_ (qP wf_ wf_ wf_ wf_) ?_
            |refine qA we_ we_ (qQ wf_ wf_ wf_) ?_
            |simp -implicitDefEqProofs (disch:=omega) only[w64,if_neg]
           exact⟨wg_,(k+1,xY m' i sy t),by dsimp only;omega,trivial,trivial,trivial,hG2.dropO o0,rfl,by dsimp only;omega,k3_1.add hqm2 hsi ht,by dsimp only;rw[jD hqm2,List.length_set];exact k3_2,hst,⟨id2,_,vK2,_,_,by dsimp only;rw[jD hqm2,List.length_set],if_pos rfl,hid3,wg_,hU2.add (by rw[List.map_append];exact Gr.tok hh_ wg_)⟩,trivial⟩
       · rw[if_neg hc]at hst
         rw[decide_eq_false hc]at hhas
         repeat' with_reducible first
          |refine s_ ?_
          |refine s_ ?_
          |simp -implicitDefEqProofs only[wS,wT,wU,wV,wW,wX,wY,wC,wF,wG,wL,wM,wN,seval,Int.cast_ofNat_Int,Int.reduceLT,Int.reduceLE,Int.reduceEq,Int.reduceToNat,decide_true,decide_false,Bool.false_eq_true,g1,g5,g6,g11,g8,o0,hzk,h4]
          |(refine qa (fun h h_=>?_) (fun h h_=>?_)<;>(try simp only[wD,reduceCtorEq]at h_)<;>(try(exfalso;first|omega|exact absurd (Eq.trans (Eq.symm h_) (by assumption):false=true) (by decide)|exact absurd (Eq.trans (Eq.symm h_) (by assumption):true=false) (by decide)|(refine absurd ?_ h_;focus assumption)|(refine absurd h_ ?_;focus assumption)))<;>(try simp only[h]))
          |refine t_ ?_
          |refine cq2 hhas zS qj ?_
          |apply qo;omega;exact wd_
          |apply qW;(focus(first|exact qc.sl|exact qc.asl|exact qc.str));exact wf_;(focus(unfold maxLen;first|omega|(simp only[wZ]<;>omega)))
          |(refine qI ?_;simp -implicitDefEqProofs only[wM,wN,seval,g1,g5,g6,g11,g8,o0,hzk,h4];apply za;(focus(first|exact qc.sl|exact qc.asl|exact qc.str));(exact wf_);(focus(unfold maxLen;first|omega|(simp only[wZ]<;>omega))))
          |apply qB;(focus(first|omega|(simp only[wZ]<;>omega)))
          |apply qf;exact wu_;exact wu_;(focus((try simp -implicitDefEqProofs only[wE,Nat.reduceAdd]);rfl))
          |apply qg;exact wd_;exact wu_
          |apply qh;exact wu_
          |apply qR;exact wf_;exact wu_;exact wu_;(focus(intro _;with_unfolding_all rfl))
          |apply qO;exact wu_;exact wu_;exact wu_
          |refine zf we_ (qG wf_) ?_
          |refine qA we_ we_ (qC wf_ wf_ wf_ wf_) ?_
          |refine qA we_ we_ (qw wf_ wf_ wf_) ?_
          |refine zu we_ we_ we_ (qP wf_ wf_ wf_ wf_) ?_
          |refine qA we_ we_ (qQ wf_ wf_ wf_) ?_
          |simp -implicitDefEqProofs (disch:=omega) only[w64,if_neg]
         exact⟨wg_,(k+1,m'),by dsimp only;omega,trivial,trivial,trivial,trivial,rfl,by dsimp only;omega,k3_1.skip,k3_2,hst,⟨id2,es2,vK2,vM2,q2,rfl,oo2,hid3,o_,hU2.mono wg_ (fun _ _ _=>rfl)⟩,trivial⟩
     · have e:(jK g).take k=jK g:=List.take_of_length_le o_
       rw[e]at k3_3
       rw[k3_3]at k1_2
       repeat' with_reducible first
        |refine s_ ?_
        |refine s_ ?_
        |simp -implicitDefEqProofs only[wS,wT,wU,wV,wW,wX,wY,wC,wF,wG,wL,wM,wN,seval,Int.cast_ofNat_Int,Int.reduceLT,Int.reduceLE,Int.reduceEq,Int.reduceToNat,decide_true,decide_false,Bool.false_eq_true,g1,g5,g6,g11,g8,o0,hz]
        |(refine qa (fun h h_=>?_) (fun h h_=>?_)<;>(try simp only[wD,reduceCtorEq]at h_)<;>(try(exfalso;first|omega|exact absurd (Eq.trans (Eq.symm h_) (by assumption):false=true) (by decide)|exact absurd (Eq.trans (Eq.symm h_) (by assumption):true=false) (by decide)|(refine absurd ?_ h_;focus assumption)|(refine absurd h_ ?_;focus assumption)))<;>(try simp only[h]))
        |refine t_ ?_
        |apply qo;omega;exact wd_
        |apply qW;(focus(first|exact qc.sl|exact qc.asl|exact qc.str));exact wf_;(focus(unfold maxLen;first|omega|(simp only[wZ]<;>omega)))
        |(refine qI ?_;simp -implicitDefEqProofs only[wM,wN,seval,g1,g5,g6,g11,g8,o0,hz];apply za;(focus(first|exact qc.sl|exact qc.asl|exact qc.str));(exact wf_);(focus(unfold maxLen;first|omega|(simp only[wZ]<;>omega))))
        |apply qB;(focus(first|omega|(simp only[wZ]<;>omega)))
        |apply qf;exact wu_;exact wu_;(focus((try simp -implicitDefEqProofs only[wE,Nat.reduceAdd]);rfl))
        |apply qg;exact wd_;exact wu_
        |apply qh;exact wu_
        |apply qR;exact wf_;exact wu_;exact wu_;(focus(intro _;with_unfolding_all rfl))
        |apply qO;exact wu_;exact wu_;exact wu_
        |refine zf we_ (qG wf_) ?_
        |refine qA we_ we_ (qC wf_ wf_ wf_ wf_) ?_
        |refine qA we_ we_ (qw wf_ wf_ wf_) ?_
        |refine zu we_ we_ we_ (qP wf_ wf_ wf_ wf_) ?_
        |refine qA we_ we_ (qQ wf_ wf_ wf_) ?_
        |simp -implicitDefEqProofs (disch:=omega) only[w64,if_neg]
       exact⟨wg_,(i+1,m'),by dsimp only;omega,trivial,trivial,trivial,rfl,by dsimp only;omega,k3_1.next o_,by dsimp only;rw[show 151 - (i+1)=150 - i by omega];exact k1_2,id2,es2,h4,oo2,hid3,o_,hU2.done⟩
 · have e:i=m.length:=o_
   rw[show 151 - i=(150 - i)+1 by omega]at k1_2
   unfold Xn at k1_2
   rw[if_neg hi]at k1_2
   skip
   subst k1_2
   repeat' with_reducible first
    |refine s_ ?_
    |refine s_ ?_
    |simp -implicitDefEqProofs only[wS,wT,wU,wV,wW,wX,wY,wC,wF,wG,wL,wM,wN,seval,Int.cast_ofNat_Int,Int.reduceLT,Int.reduceLE,Int.reduceEq,Int.reduceToNat,decide_true,decide_false,Bool.false_eq_true,g1,g5,g6,o0,g4]
    |(refine qa (fun h h_=>?_) (fun h h_=>?_)<;>(try simp only[wD,reduceCtorEq]at h_)<;>(try(exfalso;first|omega|exact absurd (Eq.trans (Eq.symm h_) (by assumption):false=true) (by decide)|exact absurd (Eq.trans (Eq.symm h_) (by assumption):true=false) (by decide)|(refine absurd ?_ h_;focus assumption)|(refine absurd h_ ?_;focus assumption)))<;>(try simp only[h]))
    |refine t_ ?_
    |apply qo;omega;exact wd_
    |apply qW;(focus(first|exact qc.sl|exact qc.asl|exact qc.str));exact wf_;(focus(unfold maxLen;first|omega|(simp only[wZ]<;>omega)))
    |(refine qI ?_;simp -implicitDefEqProofs only[wM,wN,seval,g1,g5,g6,o0,g4];apply za;(focus(first|exact qc.sl|exact qc.asl|exact qc.str));(exact wf_);(focus(unfold maxLen;first|omega|(simp only[wZ]<;>omega))))
    |apply qB;(focus(first|omega|(simp only[wZ]<;>omega)))
    |apply qf;exact wu_;exact wu_;(focus((try simp -implicitDefEqProofs only[wE,Nat.reduceAdd]);rfl))
    |apply qg;exact wd_;exact wu_
    |apply qh;exact wu_
    |apply qR;exact wf_;exact wu_;exact wu_;(focus(intro _;with_unfolding_all rfl))
    |apply qO;exact wu_;exact wu_;exact wu_
    |refine zf we_ (qG wf_) ?_
    |refine qA we_ we_ (qC wf_ wf_ wf_ wf_) ?_
    |refine qA we_ we_ (qw wf_ wf_ wf_) ?_
    |refine zu we_ we_ we_ (qP wf_ wf_ wf_ wf_) ?_
    |refine qA we_ we_ (qQ wf_ wf_ wf_) ?_
    |simp -implicitDefEqProofs (disch:=omega) only[w64,if_neg]
   refine qi7 rfl (Or.inr rfl) ?_
   (simp -implicitDefEqProofs only[wL,seval])
   refine ErL.tup (.cons (YG (ro:=false) (by(simp only[wM];(repeat first|rw[if_pos trivial]|rw[if_pos rfl]|rw[if_neg o_]));exact oo) hT.1.up ?_) (.cons (.int _ _) .nil))
   have:=hT.1.len
   rw[List.length_map]at this;exact this.symm

set_option maxHeartbeats 4000000
structure Cel where
 st:Int:=0
 tok:Int:=0
 shift:Int:=0
 acc:Bool:=false
 prods:List Int:=[]
 deriving DecidableEq,Inhabited
abbrev Cel.V (c:Cel):V:= .agg [vi c.st,vi c.tok,vi c.shift,.bool c.acc,.sl 1 false (c.prods.map (V.int .i64))]
def V5 (src:Source):Bool:=Kv src && (YI (Qa src)).isSome
def Xe (src:Source):List Sta:=if Kv src=true then(YI (Qa src)).getD []else[]
theorem qdd {ef:EF} {t a b id:Nat} {ro:Bool} {v res:V} {e:Exit} {s:St} (he:ef.res=[.inr (t,true,5),.inl a,.inl b]) (hx:e=.normal∨e=.ret) (hp:s.f t=.ptr id 0 0) (hH:s.H id=some (.own 5 [v] ro)) (ha:v.isAgg=true)
 (h:Er true s.H (.tup [v,s.f a,s.f b]) res):ja ef res e s:=by
 have hv:zB s true 5 (s.f t)=some v:=by rw[hp];simp only[zB,hH,List.getElem?_cons_zero,jZ,ha,and_self,if_true]
 exact⟨hx,_,by rw[he];simp[qcH,qbF,hv,one],h⟩

set_option maxHeartbeats 8000000
theorem zM {src:Source} (hf:src.Fits) (hS:YR src=true→Small src) (hG:Kv src=true→GOk (Qa src)):Pure Tryz.prog 13 [src.V] (.tup [(Qa src).V,.sl 2 false ((Xe src).map Sta.V),.bool (V5 src)]):=by
 refine pure_intro Tryz.func13 nm_ qgx (by show 1≤26;decide) ?_
 show ewp _ qgl _ _
 have hgr:=Qz hf hS
 cases hb:Kv src with
 | false=>
   have e1:Xe src=[]:=by unfold Xe;rw[hb];rfl
   have e2:V5 src=false:=by unfold V5;rw[hb];rfl
   rw[hb]at hgr
   rw[e1,e2]
   generalize Qa src=g at *
   repeat' with_reducible first
    |refine s_ ?_
    |refine s_ ?_
    |simp -implicitDefEqProofs only[wS,wT,wU,wV,wW,wX,wY,wC,wF,wG,wL,wM,wN,seval,Int.cast_ofNat_Int,Int.reduceLT,Int.reduceLE,Int.reduceEq,Int.reduceToNat,decide_true,decide_false,Bool.false_eq_true]
    |(refine qa (fun h h_=>?_) (fun h h_=>?_)<;>(try simp only[wD,reduceCtorEq]at h_)<;>(try(exfalso;first|omega|exact absurd (Eq.trans (Eq.symm h_) (by assumption):false=true) (by decide)|exact absurd (Eq.trans (Eq.symm h_) (by assumption):true=false) (by decide)|(refine absurd ?_ h_;focus assumption)|(refine absurd h_ ?_;focus assumption)))<;>(try simp only[h]))
    |refine cq1 hgr (Zj src) ?_
    |apply qB;(focus(first|omega|(simp only[wZ]<;>omega)))
    |refine t_ ?_
    |apply qf;exact wu_;exact wu_;(focus((try simp -implicitDefEqProofs only[wE,Nat.reduceAdd]);rfl))
    |apply qg;exact wd_;exact wu_
    |apply qh;exact wu_
    |apply qR;exact wf_;exact wu_;exact wu_;(focus(intro _;with_unfolding_all rfl))
    |apply qO;exact wu_;exact wu_;exact wu_
    |refine zf we_ (jG wf_) ?_
    |simp -implicitDefEqProofs (disch:=omega) only[w64,if_neg]
   refine qdd (id:=1) rfl (Or.inr rfl) wl_ (by simp -implicitDefEqProofs only[wM,seval];rfl) rfl ?_
   simp -implicitDefEqProofs only[wL,seval]
   exact ErL.tup (.cons qj (.cons (ErL.sl .nil) (.cons (.bool _) .nil)))
 | true=>
   have e1:Xe src=(YI (Qa src)).getD []:=by unfold Xe;rw[hb];rfl
   have e2:V5 src=(YI (Qa src)).isSome:=by unfold V5;rw[hb];rfl
   have hau:=jG (hG hb)
   rw[hb]at hgr
   rw[e1,e2]
   generalize Qa src=g at *
   cases ha:YI g with
   | none=>
     rw[ha]at hau
     simp only[qQt]at hau
     repeat' with_reducible first
      |refine s_ ?_
      |refine s_ ?_
      |simp -implicitDefEqProofs only[wS,wT,wU,wV,wW,wX,wY,wC,wF,wG,wL,wM,wN,seval,Int.cast_ofNat_Int,Int.reduceLT,Int.reduceLE,Int.reduceEq,Int.reduceToNat,decide_true,decide_false,Bool.false_eq_true]
      |(refine qa (fun h h_=>?_) (fun h h_=>?_)<;>(try simp only[wD,reduceCtorEq]at h_)<;>(try(exfalso;first|omega|exact absurd (Eq.trans (Eq.symm h_) (by assumption):false=true) (by decide)|exact absurd (Eq.trans (Eq.symm h_) (by assumption):true=false) (by decide)|(refine absurd ?_ h_;focus assumption)|(refine absurd h_ ?_;focus assumption)))<;>(try simp only[h]))
      |refine cq1 hgr (Zj src) ?_
      |refine cq1 hau qj ?_
      |apply qB;(focus(first|omega|(simp only[wZ]<;>omega)))
      |refine t_ ?_
      |apply qf;exact wu_;exact wu_;(focus((try simp -implicitDefEqProofs only[wE,Nat.reduceAdd]);rfl))
      |apply qg;exact wd_;exact wu_
      |apply qh;exact wu_
      |apply qR;exact wf_;exact wu_;exact wu_;(focus(intro _;with_unfolding_all rfl))
      |apply qO;exact wu_;exact wu_;exact wu_
      |refine zf we_ (jG wf_) ?_
      |simp -implicitDefEqProofs (disch:=omega) only[w64,if_neg]
     refine qdd (id:=1) rfl (Or.inr rfl) wl_ (by simp -implicitDefEqProofs only[wM,seval];rfl) rfl ?_
     simp -implicitDefEqProofs only[wL,seval]
     exact ErL.tup (.cons qj (.cons (ErL.sl .nil) (.cons (.bool _) .nil)))
   | some m=>
     rw[ha]at hau
     simp only[qQt]at hau
     repeat' with_reducible first
      |refine s_ ?_
      |refine s_ ?_
      |simp -implicitDefEqProofs only[wS,wT,wU,wV,wW,wX,wY,wC,wF,wG,wL,wM,wN,seval,Int.cast_ofNat_Int,Int.reduceLT,Int.reduceLE,Int.reduceEq,Int.reduceToNat,decide_true,decide_false,Bool.false_eq_true]
      |(refine qa (fun h h_=>?_) (fun h h_=>?_)<;>(try simp only[wD,reduceCtorEq]at h_)<;>(try(exfalso;first|omega|exact absurd (Eq.trans (Eq.symm h_) (by assumption):false=true) (by decide)|exact absurd (Eq.trans (Eq.symm h_) (by assumption):true=false) (by decide)|(refine absurd ?_ h_;focus assumption)|(refine absurd h_ ?_;focus assumption)))<;>(try simp only[h]))
      |refine cq1 hgr (Zj src) ?_
      |refine cq1 hau qj ?_
      |apply qB;(focus(first|omega|(simp only[wZ]<;>omega)))
      |refine t_ ?_
      |apply qf;exact wu_;exact wu_;(focus((try simp -implicitDefEqProofs only[wE,Nat.reduceAdd]);rfl))
      |apply qg;exact wd_;exact wu_
      |apply qh;exact wu_
      |apply qR;exact wf_;exact wu_;exact wu_;(focus(intro _;with_unfolding_all rfl))
      |apply qO;exact wu_;exact wu_;exact wu_
      |refine zf we_ (jG wf_) ?_
      |simp -implicitDefEqProofs (disch:=omega) only[w64,if_neg]
     refine qdd (id:=1) rfl (Or.inr rfl) wl_ (by simp -implicitDefEqProofs only[wM,seval];rfl) rfl ?_
     simp -implicitDefEqProofs only[wL,seval]
     exact ErL.tup (.cons qj (.cons qj (.cons (.bool _) .nil)))
end Go.Proofs
