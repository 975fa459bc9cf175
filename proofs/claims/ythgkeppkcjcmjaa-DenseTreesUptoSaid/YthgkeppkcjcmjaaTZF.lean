/- Part of a proof that a law of the given program answers true. -/
import Derived.Test.YthgkeppkcjcmjaaTZE
set_option linter.unusedSimpArgs false
set_option linter.unusedVariables false
set_option maxHeartbeats 4000000
namespace Go.Proofs
open Go.E
theorem qfx {g:Grammar} {l:List Int} {s:Int} (hg:GOk g) (hx: ∀x∈l,QL g x) (hr:jO l):jO (kL g l s)∧ ∀x∈kL g l s,QL g x:=by
 obtain ⟨_,hok,_⟩:=zf hg hx hr
 unfold kL
 refine zS (fun o=>jO o∧ ∀x∈o,QL g x) _ _ _ ⟨List.Pairwise.nil,fun x h=>by cases h⟩ fun b a ha hb=>?_
 split
 · rename_i hc
   refine⟨jN hb.1,fun x hx=>(zD.1 hx).elim (hb.2 x) fun e=>?_⟩
   subst e
   have h1:=hok a ha
   obtain ⟨m,d,p,hm,hd,hp,hdl,hn⟩:=h1.nat
   have hlt:d<p.right.length:=by
    refine Classical.byContradiction fun h=>?_
    rw[List.getElem?_eq_none o_]at hn
    rw[hn]at hc
    have:=hc.1
    simp at this
   have h2:=VL hg.rlen h1
   have h0:=h1.1
   refine⟨o_,p,?_,?_⟩
   · rw[show ((a+1) / 16).toNat=m by omega];exact hp
   · rw[show ((a+1) % 16).toNat=d+1 by omega];exact hlt
 · exact hb
theorem JF {k:List Int}: ∀(m:List Sta) (n:Nat),Jr k m n= -1∨ ∃i:Nat,Jr k m n=((n+i:Nat):Int)∧ ∃q,m[i]?=some q∧q.ker=k
 |[],_=>Or.inl rfl
 | p ::m,n=>by
   unfold Jr
   split
   · rename_i e;exact Or.inr ⟨0,by simp,p,rfl,e⟩
   · rcases JF m (n+1)with h|⟨i,h1,h2⟩
     · exact Or.inl h
     · exact Or.inr ⟨i+1,by rw[h1];omega,by simpa using h2⟩
theorem YC {k:List Int} (m:List Sta):QT m k= -1∨ ∃i:Nat,QT m k=(i:Int)∧ ∃q,m[i]?=some q∧q.ker=k:=by
 rcases JF (k:=k) m 0 with h|⟨i,h1,h2⟩
 · exact Or.inl h
 · exact Or.inr ⟨i,by unfold QT;rw[h1];omega,h2⟩
theorem KT {g:Grammar} (hg:GOk g):(jl g).length≤64:=by
 have:=hg.tk2;have:=hg.nn2
 unfold jl
 simp;omega
theorem KC {g:Grammar}: ∀s∈jl g,vE g.toks.length g.nons.length s:=by
 intro s hs
 unfold jl at hs
 rw[List.mem_append,List.mem_map,List.mem_map]at hs
 rcases hs with ⟨i,hi,rfl⟩|⟨i,hi,rfl⟩
 · exact Or.inl ⟨i,rfl,List.mem_range.1 hi⟩
 · exact Or.inr ⟨i,rfl,List.mem_range.1 hi⟩
structure AutI (g:Grammar) (m:List Sta) (i k:Nat):Prop where
 len:m.length≤150
 mvl: ∀j q,m[j]?=some q→q.mov.length≤(if j<i then 64 else if j=i then k else 0)
 mv: ∀q∈m,∀p∈q.mov,vE g.toks.length g.nons.length p.1∧ ∃t:Nat,p.2=t∧t<m.length
 kr: ∀q∈m,jO q.ker
 ki: ∀q∈m,∀x∈q.ker,QL g x
theorem AutI.kl {g:Grammar} {m:List Sta} {i k:Nat} (h:AutI g m i k) (hpl:g.prods.length≤60): ∀q∈m,q.ker.length≤960:=fun q hq=>
 xR (a:=0) (h.kr q hq) fun x hx=>by
  obtain ⟨h0,p,hp,_⟩:=h.ki q hq x hx
  have:=(List.getElem?_eq_some_iff.1 hp).1
  omega
theorem AutI.next {g:Grammar} {m:List Sta} {i k:Nat} (h:AutI g m i k) (hk:k≤64):AutI g m (i+1) 0:=by
 refine⟨h.len,fun j q hq=>?_,h.mv,h.kr,h.ki⟩
 have:=h.mvl j q hq
 split at this
 · rw[if_pos o_];omega
 · split at this
   · rw[if_pos o_];omega
   · split
     · omega
     · split<;>omega
theorem AutI.skip {g:Grammar} {m:List Sta} {i k:Nat} (h:AutI g m i k):AutI g m i (k+1):=by
 refine⟨h.len,fun j q hq=>?_,h.mv,h.kr,h.ki⟩
 have:=h.mvl j q hq
 split at this
 · rename_i e;rw[if_pos e];omega
 · rename_i e
   rw[if_neg e]
   split at this
   · rename_i e2;rw[if_pos e2];omega
   · rename_i e2;rw[if_neg e2];omega
theorem AutI.snoc {g:Grammar} {m:List Sta} {i k:Nat} (h:AutI g m i k) (hi:i<m.length) (hl:m.length<150) {o:List Int} (hr:jO o) (ho: ∀x∈o,QL g x):AutI g (m++[⟨o,[]⟩]) i k:=by
 refine⟨by simp;omega,fun j q hq=>?_,fun q hq p hp=>?_,fun q hq=>?_,fun q hq=>?_⟩
 · by_cases e:j<m.length
   · rw[List.getElem?_append_left e]at hq;exact h.mvl j q hq
   · have:j=m.length:=by
      have:=(List.getElem?_eq_some_iff.1 hq).1
      simp at this;omega
     subst this
     rw[List.getElem?_append_right (Nat.le_refl _),Nat.sub_self]at hq
     cases hq
     exact Nat.zero_le _
 · rw[List.mem_append,List.mem_singleton]at hq
   rcases hq with hq|rfl
   · obtain ⟨h1,t,h2,h3⟩:=h.mv q hq p hp
     exact⟨h1,t,h2,by simp;omega⟩
   · cases hp
 · rw[List.mem_append,List.mem_singleton]at hq
   rcases hq with hq|rfl
   · exact h.kr q hq
   · exact hr
 · rw[List.mem_append,List.mem_singleton]at hq
   rcases hq with hq|rfl
   · exact h.ki q hq
   · exact ho
theorem zh {m:List Sta} {i:Nat} {s t:Int} {q:Sta} (h:m[i]?=some q):xJ m i s t=m.set i {q with mov:=q.mov++[(s,t)]}:=Qd _ h
theorem AutI.add {g:Grammar} {m:List Sta} {i k t:Nat} {s:Int} (h:AutI g m i k) {q:Sta} (hq:m[i]?=some q) (hs:vE g.toks.length g.nons.length s) (ht:t<m.length):AutI g (xJ m i s t) i (k+1):=by
 rw[zh hq]
 have hqm:=List.mem_of_getElem? hq
 refine⟨by rw[List.length_set];exact h.len,fun j x hx=>?_,fun x hx p hp=>?_,fun x hx=>?_,fun x hx=>?_⟩
 · rw[List.getElem?_set]at hx
   have hi:=(List.getElem?_eq_some_iff.1 hq).1
   by_cases e:i=j
   · subst e
     rw[if_pos rfl,if_pos hi]at hx
     cases hx
     have:=h.mvl i q hq
     rw[if_neg o_,if_pos rfl]at this ⊢
     simp;omega
   · rw[if_neg e]at hx
     have:=h.mvl j x hx
     split at this
     · rename_i e1;rw[if_pos e1];omega
     · rename_i e1;rw[if_neg e1];rw[if_neg o_]at this ⊢;exact this
 · rw[List.length_set]
   rcases List.mem_or_eq_of_mem_set hx with hx|rfl
   · exact h.mv x hx p hp
   · rw[List.mem_append,List.mem_singleton]at hp
     rcases hp with hp|rfl
     · exact h.mv q hqm p hp
     · exact⟨hs,t,rfl,ht⟩
 · rcases List.mem_or_eq_of_mem_set hx with hx|rfl
   · exact h.kr x hx
   · exact h.kr q hqm
 · rcases List.mem_or_eq_of_mem_set hx with hx|rfl
   · exact h.ki x hx
   · exact h.ki q hqm
theorem AutI.mok {g:Grammar} {m:List Sta} {i:Nat} (h:AutI g m i 0) (hi:m.length≤i):MOk g m:=
 ⟨h.len,fun q hq=>by
  obtain ⟨j,hj,rfl⟩:=List.getElem_of_mem hq
  have:=h.mvl j _ (ge_ hj)
  rw[if_pos o_]at this;exact this,h.mv,h.kr,h.ki⟩
theorem qjj {g:Grammar} (hg:GOk g):AutI g [⟨[0],[]⟩] 0 0:=by
 refine⟨by simp,fun j q hq=>?_,fun q hq p hp=>?_,fun q hq=>?_,fun q hq x hx=>?_⟩
 · cases j with
   |zero=>simp at hq;subst hq;simp
   |succ j=>simp at hq
 · rw[List.mem_singleton]at hq;subst hq;cases hp
 · rw[List.mem_singleton]at hq;subst hq;exact List.pairwise_singleton _ _
 · rw[List.mem_singleton]at hq;subst hq
   rw[List.mem_singleton]at hx;subst hx
   have h1:=hg.pl
   exact⟨Int.le_refl _,g.prods[0],by simp,Nat.zero_le _⟩

theorem ErL.set {b:Bool} {H:Nat→Option MObj} {l l':List V} (h:ErL b H l l') {v v':V} (hv:Er b H v v'): ∀i,ErL b H (l.set i v) (l'.set i v'):=by
 induction h with
 |nil=>intro i;exact .nil
 | cons h hl ih=>
   intro i
   cases i with
   |zero=>exact .cons hv hl
   |succ i=>exact .cons h (ih i)
abbrev qxM (es:List V) (m:List Sta) (i:Nat):Prop:=QM es (m.map Sta.V)∧ ∀j,i≤j→j<m.length→ ∃q vK,m[j]?=some q∧es[j]?=some (.agg [vK,.sl 2 true []])∧ErP vK (.sl 2 false (q.ker.map itV))∧q.mov=[]
abbrev qdk (H:Nat→Option MObj) (next:Nat) (es:List V) (m:List Sta) (i:Nat) (vK vM:V) (q:Sta):Prop:=QM es (m.map Sta.V)∧m[i]?=some q∧es[i]?=some (.agg [vK,vM])∧ErP vK (.sl 2 false (q.ker.map itV))∧Gr H next 2 (q.mov.map prV) vM∧ ∀j,i<j→j<m.length→ ∃q vK,m[j]?=some q∧es[j]?=some (.agg [vK,.sl 2 true []])∧ErP vK (.sl 2 false (q.ker.map itV))∧q.mov=[]
theorem qxM.start {H:Nat→Option MObj} {next i:Nat} {es:List V} {m:List Sta} (h:qxM es m i) (hi:i<m.length): ∃vK q,qdk H next es m i vK (.sl 2 true []) q∧q.mov=[]:=by
 obtain ⟨q,vK,h1,h2,h3,h4⟩:=h.2 i (Nat.le_refl _) hi
 exact⟨vK,q,⟨h.1,h1,h2,h3,by rw[h4];exact Gr.nil,fun j hj hm=>h.2 j o_ hm⟩,h4⟩
theorem qdk.done {H:Nat→Option MObj} {next i:Nat} {es:List V} {m:List Sta} {vK vM:V} {q:Sta} (h:qdk H next es m i vK vM q):qxM es m (i+1):=
 ⟨h.1,fun j hj hm=>h.2.2.2.2.2 j o_ hm⟩
theorem qdk.mono {H H':Nat→Option MObj} {next next' i:Nat} {es:List V} {m:List Sta} {vK vM:V} {q:Sta} (h:qdk H next es m i vK vM q) (hn:next≤next') (hH: ∀id,gid vM=some id→id<next→H' id=H id):qdk H' next' es m i vK vM q:=
 ⟨h.1,h.2.1,h.2.2.1,h.2.2.2.1,h.2.2.2.2.1.mono hn hH,h.2.2.2.2.2⟩
theorem qdk.snoc {H H':Nat→Option MObj} {next next' i:Nat} {es:List V} {m:List Sta} {vK vM vO:V} {q:Sta} {o:List Int} (h:qdk H next es m i vK vM q) (ho:ErP vO (.sl 2 false (o.map itV))) (hn:next≤next') (hH: ∀id,gid vM=some id→id<next→H' id=H id):qdk H' next' (es++[.agg [vO,.sl 2 true []]]) (m++[⟨o,[]⟩]) i vK vM q:=by
 obtain ⟨h1,h2,h3,h4,h5,h6⟩:=h
 have hl:es.length=m.length:=by have:=h1.len;rw[List.length_map]at this;exact this.symm
 have hi:=(List.getElem?_eq_some_iff.1 h2).1
 refine⟨?_,by rw[List.getElem?_append_left hi];exact h2,by rw[List.getElem?_append_left o_];exact h3,h4,h5.mono hn hH,fun j hj hm=>?_⟩
 · rw[List.map_append]
   exact h1.snoc (ErL.agg (.cons ho (.cons jA .nil)))
 · by_cases e:j<m.length
   · obtain ⟨q',vK',g1,g2,g3,g4⟩:=h6 j hj e
     exact⟨q',vK',by rw[List.getElem?_append_left e];exact g1,by rw[List.getElem?_append_left o_];exact g2,g3,g4⟩
   · have e2:j=m.length:=by simp at hm;omega
     subst e2
     refine⟨⟨o,[]⟩,vO,?_,?_,ho,rfl⟩
     · rw[List.getElem?_append_right (Nat.le_refl _),Nat.sub_self];rfl
     · rw[← hl,List.getElem?_append_right (Nat.le_refl _),Nat.sub_self];rfl
theorem qdk.add {H H':Nat→Option MObj} {next next' i:Nat} {es:List V} {m:List Sta} {vK vM vN:V} {q:Sta} {s t:Int} (h:qdk H next es m i vK vM q) (hN:Gr H' next' 2 ((q.mov++[(s,t)]).map prV) vN):qdk H' next' (es.set i (.agg [vK,vN])) (xJ m i s t) i vK vN {q with mov:=q.mov++[(s,t)]}:=by
 obtain ⟨h1,h2,h3,h4,h5,h6⟩:=h
 have hl:es.length=m.length:=by have:=h1.len;rw[List.length_map]at this;exact this.symm
 have hi:=(List.getElem?_eq_some_iff.1 h2).1
 rw[zh h2]
 refine⟨?_,by rw[List.getElem?_set,if_pos rfl,if_pos hi],by rw[List.getElem?_set,if_pos rfl,if_pos o_],h4,hN,fun j hj hm=>?_⟩
 · rw[List.map_set]
   exact ErL.set h1 (ErL.agg (.cons h4 (.cons (hN.er rfl) .nil))) i
 · rw[List.length_set]at hm
   obtain ⟨q',vK',g1,g2,g3,g4⟩:=h6 j hj hm
   exact⟨q',vK',by rw[List.getElem?_set,if_neg o_];exact g1,by rw[List.getElem?_set,if_neg o_];exact g2,g3,g4⟩
theorem qGv:qxM [.agg [.sl 2 true [.agg [.int .i64 0,.int .i64 0]],.sl 2 true []]] [⟨[0],[]⟩] 0:=by
 have hk:ErP (.sl 2 true [.agg [.int .i64 0,.int .i64 0]]) (.sl 2 false (([0]:List Int).map itV)):=ErL.sl (.cons (ErL.agg (.cons (.int _ _) (.cons (.int _ _) .nil))) .nil)
 refine⟨.cons (ErL.agg (.cons hk (.cons jA .nil))) .nil,fun j hj hm=>?_⟩
 have:j=0:=by simp at hm;omega
 subst this
 exact⟨_,_,rfl,rfl,hk,rfl⟩
theorem qI {H:Nat→Option MObj} {g:Option Nat} {j:Nat} {o:Option MObj} (h: ∀x,g=some x→x≠j) (hj:H j=o):kS H g j=o:=by
 unfold kS
 rw[if_neg (fun e=>h j e rfl)];exact hj
def qQt:Option (List Sta)→V
 |some m=>.tup [.sl 2 false (m.map Sta.V),vi 0]
 |none=>.tup [.sl 2 false [],vi 4]
theorem Qc (g:Grammar) (i:Nat) (a:List Int): ∀l:List Int,l.foldl (vH g i a) none=none
 |[]=>rfl
 | _::l=>Qc g i a l

set_option maxHeartbeats 8000000
abbrev qcs (g:Grammar):List Int→Int→List Int:=fun a x=>if 0≤nxt g x then jm a (nxt g x)else a
theorem qhi (g:Grammar) (l:List Int): ∀b:List Int,(l.foldl (qcs g) b).length≤b.length+l.length:=by
 induction l with
 |nil=>intro b;exact Nat.le_refl _
 | cons p l ih=>
   intro b
   have h1:(qcs g b p).length≤b.length+1:=by
    unfold qcs;split
    · exact QW _ _
    · omega
   have:=ih (qcs g b p)
   rw[List.foldl_cons,List.length_cons];omega
theorem Ya {g :Grammar} (hg:GOk g):Pure Try.prog 53 [g.V] (qQt (Kl g)):=by
 refine pure_intro Try.func53 nm_ qvi (by show 1≤106;decide) ?_
 show ewp _ qjD _ _
 have hsm:=Zk hg
 have hsl:=KT hg
 have hss:=KC (g:=g)
 obtain ⟨R,hR⟩: ∃R,R=Kl g:=⟨_,rfl⟩
 have hR0:YL g 151 [⟨[0],[]⟩] 0=R:=hR.symm
 rw[← hR]
 have hA0:=qjj hg
 have hsy:jl g=jl g:=rfl
 repeat' with_reducible first
  |refine s_ ?_
  |simp only[wZZ,seval]
  |refine cq1 hsm qc ?_
  |refine t_ ?_
 refine qb ?nx1 (fun(p:Nat×List Sta) s=>s.f 1=?v1_1∧s.f 5=?v1_5∧s.H 0=some (.own 5 [g.V] false)∧s.f 6=vi p.1∧(p.1≤p.2.length)∧(AutI g p.2 p.1 0)∧(YL g (151 - p.1) p.2 p.1=R)∧((∃id es,s.f 4=.msl id 2 0 p.2.length∧s.H id=some (.own 2 es false)∧1≤id∧id<s.next∧qxM es p.2 p.1))) (fun p=>151 - p.1) ((0,[⟨[0],[]⟩])) wj_ (by refine⟨?_,?_,?_,?_,wo_,(by exact hA0),(by exact hR0),(by exact⟨6,_,(by(simp only[wL,seval])<;>rfl),(by(simp only[wM];(repeat first|rw[if_pos trivial]|rw[if_pos rfl]|rw[if_neg o_]))<;>rfl),o_,wg_,qGv⟩)⟩<;>first|(simp only[wL,wM,wN,wX,seval,Option.some.injEq]<;>exact wt_)|rfl|exact⟨_,rfl⟩) ?_
 intro p s hnx ⟨g1,g5,o0,g6,k1_0,k1_1,k1_2,k1_3⟩
 obtain ⟨i,m⟩:=p
 dsimp only at *
 obtain ⟨id,es,g4,oo,hid1,hid2,hT⟩:=k1_3
 have hml:=k1_1.len
 have hz:=w1_ i
 by_cases hi:i<m.length
 · rw [show 151 - i=(150 - i)+1 by omega]at k1_2
   unfold YL at k1_2
   rw[if_pos hi]at k1_2
   obtain ⟨vK,q,hU,hq0⟩:=hT.start (H:=s.H) (next:=s.next) hi
   have hqm:=hU.2.1
   have hes:=hU.2.2.1
   have hK:=hU.2.2.2.1
   have hmem:=List.mem_of_getElem? hqm
   have hkl:=k1_1.kl hg.pl2 _ hmem
   have hkr:=k1_1.kr _ hmem;have hki:=k1_1.ki _ hmem
   have hcl:=jQ hki hkr o_ hg
   have hkA:qF m i=q.ker:=by unfold qF;rw[hqm];rfl
   obtain ⟨_,hok,hcb⟩:=zf hg hki hkr
   have hdA:qaq g (zy g q.ker)=(zy g q.ker).foldl (qcs g) []:=rfl
   rw[hkA,hdA]at k1_2
   generalize zy g q.ker=C at *
   repeat' with_reducible first
    |refine s_ ?_
    |simp only[wZZ,seval,g1,g5,g6,o0,g4]
    |apply qa<;>intro h h_<;>(try simp only[wD,reduceCtorEq]at h_)<;>(try exact wb_)<;>(try simp only[h])
    |apply zm;omega;(focus(rw[Int.toNat_natCast];exact hi))
    |(rw[oo];refine X3 rfl hes wu_ ?_)
    |refine cq2 hcl qc hK.er ?_
    |refine t_ ?_
   refine qb ?nx2 (fun(k:Nat) s=>s.f 1=?v2_1∧s.f 5=?v2_5∧s.f 6=?v2_6∧s.f 7=?v2_7∧s.H 0=some (.own 5 [g.V] false)∧(∃c,s.f 8=.sl 1 c (((C.take k).foldl (qcs g) []).map (V.int .i64)))∧s.f 9=vi k∧(k≤C.length)∧(id<s.next)∧((s.H id=some (.own 2 es false)))∧(s.f 4=.msl id 2 0 m.length)) (fun k=>C.length - k) (0) wj_ (by refine⟨?_,?_,?_,?_,?_,?_,?_,wo_,wg_,(by((try simp only[wM]);(repeat first|rw[if_pos trivial]|rw[if_pos rfl]|rw[if_neg o_]));exact oo),(by(try simp only[wL,wM,wN,seval,g1,g5,g6,o0]);first|done|rfl|exact g4)⟩<;>first|(simp only[wL,wM,wN,wX,seval,Option.some.injEq,g1,g5,g6,o0]<;>exact wt_)|rfl|exact⟨_,rfl⟩) ?_
   intro k s hnx ⟨g1,g5,g6,g7,o0,⟨c8,g8⟩,g9,k2_0,k2_1,k2_2,g4⟩
   have hzk:=w1_ k
   have hln:=qhi g (C.take k) []
   rw[List.length_take,List.length_nil]at hln
   by_cases hk:k<C.length
   · have hgk:C[k]?=some C[k]:=ge_ hk
     have hst:=zY (qcs g) [] hgk
     have hxo:=hok _ (List.getElem_mem hk)
     have hnx:=xK hxo hg.pl2 hg.rlen
     have hbd:=qeu hg hxo
     generalize (C.take k).foldl (qcs g) []=A at *
     have hput:=zM (l:=A) (x:=nxt g C[k]) o_
     simp only[qcs]at hst
     generalize C[k]=x at *
     generalize nxt g x=nx at *
     by_cases hc:0≤nx
     · rw[if_pos hc]at hst
       repeat' with_reducible first
        |refine s_ ?_
        |simp only[wZZ,seval,g1,g5,g6,g7,g8,g9,g4,o0,hzk]
        |apply qa<;>intro h h_<;>(try simp only[wD,reduceCtorEq]at h_)<;>(try exact wb_)<;>(try simp only[h])
        |refine t_ ?_
        |refine cq2 hnx qc qc ?_
        |refine cq2 hput jA qc ?_
       exact⟨wg_,k+1,o_,trivial,trivial,trivial,trivial,trivial,⟨_,by rw[hst]⟩,rfl,o_,wg_,k2_2,trivial⟩
     · rw[if_neg hc]at hst
       repeat' with_reducible first
        |refine s_ ?_
        |simp only[wZZ,seval,g1,g5,g6,g7,g8,g9,g4,o0,hzk]
        |apply qa<;>intro h h_<;>(try simp only[wD,reduceCtorEq]at h_)<;>(try exact wb_)<;>(try simp only[h])
        |refine t_ ?_
        |refine cq2 hnx qc qc ?_
       exact⟨wg_,k+1,o_,trivial,trivial,trivial,trivial,trivial,⟨_,by rw[hst]⟩,rfl,o_,wg_,k2_2,trivial⟩
   · have e : C.take k=C:=List.take_of_length_le o_
     rw[e]at g8 hln
     generalize C.foldl (qcs g) []=A at *
     repeat' with_reducible first
      |refine s_ ?_
      |simp only[wZZ,seval,g1,g5,g6,g7,g8,g9,g4,o0,hz]
      |apply qa<;>intro h h_<;>(try simp only[wD,reduceCtorEq]at h_)<;>(try exact wb_)<;>(try simp only[h])
     skip
     refine qb ?nx3 (fun(r:Nat×List Sta) s=>s.f 1=?v3_1∧s.f 5=?v3_5∧s.f 6=?v3_6∧s.H 0=some (.own 5 [g.V] false)∧s.f 11=vi r.1∧(r.1≤(jl g).length)∧(AutI g r.2 i r.1)∧((i<r.2.length))∧(((jl g).take r.1).foldl (vH g i A) (some m)=some r.2)∧((∃id es vK vM q,s.f 4=.msl id 2 0 r.2.length∧s.H id=some (.own 2 es false)∧1≤id∧id<s.next∧qdk s.H s.next es r.2 i vK vM q))∧(s.f 8=.sl 1 c8 (A.map (V.int .i64)))) (fun r=>(jl g).length - r.1) ((0,m)) wj_ (by refine⟨?_,?_,?_,?_,?_,wo_,(by exact k1_1),(by exact hi),(by rfl),(by exact⟨id,es,vK,_,q,(by(simp only[wL,seval]);assumption),k2_2,o_,wg_,hU.1,hU.2.1,hU.2.2.1,hU.2.2.2.1,(by rw[hq0];exact Gr.nil),hU.2.2.2.2.2⟩),(by(try simp only[wL,wM,wN,seval,g1,g5,g6,o0]);first|done|rfl|exact g8)⟩<;>first|(simp only[wL,wM,wN,wX,seval,Option.some.injEq,g1,g5,g6,o0]<;>exact wt_)|rfl|exact⟨_,rfl⟩) ?_
     intro r s hnx ⟨g1,g5,g6,o0,g11,k3_0,k3_1,k3_2,k3_3,k3_4,g8⟩
     obtain ⟨k,m'⟩:=r
     dsimp only at *
     obtain ⟨id2,es2,vK2,vM2,q2,h4,oo2,hid3,hid4,hU2⟩:=k3_4
     have hzk:=w1_ k
     have hml':=k3_1.len
     by_cases hk:k<(jl g).length
     · have hgk:(jl g)[k]?=some (jl g)[k]:=ge_ hk
       have hsi:=hss _ (List.getElem_mem hk)
       have hst:=zY (vH g i A) (some m) hgk
       rw[k3_3]at hst
       generalize (jl g)[k]=sy at *
       have hhas:=j5 (a:=A) (x:=sy) o_
       have hqm2:=hU2.2.1
       have hes2:=hU2.2.2.1
       have hK2:=hU2.2.2.2.1
       have hG2:=hU2.2.2.2.2.1
       have hmem2:=List.mem_of_getElem? hqm2
       have hkr2:=k3_1.kr _ hmem2;have hki2:=k3_1.ki _ hmem2
       have hkl2:=k3_1.kl hg.pl2
       have hql:q2.mov.length≤64:=by have:=k3_1.mvl i q2 hqm2;rw[if_neg o_,if_pos rfl]at this;omega
       have hkA2:qF m' i=q2.ker:=by unfold qF;rw[hqm2];rfl
       have hsS:vH g i A (some m') sy=if sy∈A then(if QT m' (kL g q2.ker sy)<0 then(if m'.length=150 then none else some (xJ (m'++[⟨kL g q2.ker sy,[]⟩]) i sy m'.length))else some (xJ m' i sy (QT m' (kL g q2.ker sy))))else some m':=by rw[← hkA2];rfl
       rw[hsS]at hst
       obtain ⟨hoR,hoI⟩:=qfx (s:=sy) hg hki2 hkr2
       have hol:(kL g q2.ker sy).length≤960:=xR (a:=0) hoR fun x hx=>by
        obtain ⟨h0,p,hp,_⟩:=hoI x hx
        have:=(List.getElem?_eq_some_iff.1 hp).1
        have:=hg.pl2
        omega
       have hov:=XA (sy:=sy) hki2 hkr2 (by have:=hkl2 _ hmem2;omega) hg
       have hfi:=Xj (m:=m') (k:=kL g q2.ker sy) o_ o_ (fun q h=>by have:=hkl2 q h;omega)
       have hfc:=YC (k:=kL g q2.ker sy) m'
       generalize kL g q2.ker sy=O at *
       generalize QT m' O=fn at *
       have hEr: ∀H':Nat→Option MObj,H'=s.H→Er true H' (.msl id2 2 0 m'.length) (.sl 2 false (m'.map Sta.V)):=fun H' e=>by
        subst e
        refine VA (ro:=false) oo2 hU2.1.up ?_
        have:=hU2.1.len;rw[List.length_map]at this;exact this.symm
       have hlt2:1<[vK2,vM2].length:=by simp
       by_cases hc:sy∈A
       · rw [if_pos hc]at hst
         rw[decide_eq_true hc]at hhas
         rcases hfc with hf|⟨t,hf,q3,hq3,_⟩
         · rw [if_pos o_]at hst
           subst hf
           by_cases hm:m'.length=150
           · rw[if_pos hm]at hst
             repeat' with_reducible first
              |refine s_ ?_
              |simp only[wZZ,seval,g1,g5,g6,g11,g8,o0,hzk,h4]
              |apply qa<;>intro h h_<;>(try simp only[wD,reduceCtorEq]at h_)<;>(try exact wb_)<;>(try simp only[h])
              |refine t_ ?_
              |apply zm;omega;(focus(rw[Int.toNat_natCast];exact k3_2))
              |(rw[oo2];refine X3 rfl hes2 wu_ ?_)
              |refine cq2 hhas jA qc ?_
              |refine cq3 hov qc hK2.er qc ?_
              |apply ze (hp:=hfi);(focus(refine hEr _ ?_;first|rfl|(simp only[wM];done)));exact qc;exact wu_;exact Flat.int _ _
             have hRn:R=none:=by
              rw[← k1_2]
              have e1:(jl g).foldl (vH g i A) (some m)=((jl g).drop (k+1)).foldl (vH g i A) (((jl g).take (k+1)).foldl (vH g i A) (some m)):=by rw[← List.foldl_append,List.take_append_drop]
              rw[e1,hst,Qc];rfl
             subst hRn
             refine qeI rfl (Or.inr rfl) ?_
             (simp only[wL,seval])
             exact ErL.tup (.cons (ErL.sl .nil) (.cons (.int _ _) .nil))
           · rw[if_neg hm]at hst
             have hlm:(q2.mov.map prV).length=q2.mov.length:=List.length_map _
             have hnl:m'.length=es2.length:=by have:=hU2.1.len;rw[List.length_map]at this;exact this
             have hne:=fun x h=>Gr.ne hG2 oo2 (x:=x) h
             have hi3:i<es2.length+[V.agg [V.sl 2 false (O.map itV),.sl 2 true []]].length:=by rw[List.length_singleton];omega
             have hes3:(es2++[V.agg [V.sl 2 false (O.map itV),.sl 2 true []]])[i]?=some (.agg [vK2,vM2]):=by rw[List.getElem?_append_left o_];exact hes2
             repeat' with_reducible first
              |refine s_ ?_
              |simp only[wZZ,seval,g1,g5,g6,g11,g8,o0,hzk,h4]
              |apply qa<;>intro h h_<;>(try simp only[wD,reduceCtorEq]at h_)<;>(try exact wb_)<;>(try simp only[h])
              |refine t_ ?_
              |apply zm;omega;(focus(rw[Int.toNat_natCast];first|exact k3_2|exact hi3))
              |(rw[oo2];refine X3 rfl hes2 wu_ ?_)
              |refine cq2 hhas jA qc ?_
              |refine cq3 hov qc hK2.er qc ?_
              |apply ze (hp:=hfi);(focus(refine hEr _ ?_;first|rfl|(simp only[wM];done)));exact qc;exact wu_;exact Flat.int _ _
              |(refine VU rfl (by first|exact oo2|(simp only[wM];exact oo2)) hnl qU.sl (by simp only[wZ]<;>omega) (by unfold maxLen;simp only[wZ]<;>omega) ?_)
              |(refine X3 rfl hes3 wu_ ?_)
              |apply za rfl (hG2.mono (Nat.le_refl _) (fun x h1 h2=>by have:=hne x h1;(try simp only[wM]);(repeat rw[if_neg o_])));exact qU.sl;(focus(simp only[wZ,hlm];omega));(focus(unfold maxLen;simp only[wZ,hlm];omega))
              |(refine VG (qI (fun x h=>by have:=hG2.lt h;omega) (by(try simp only[wM]);(repeat first|rw[if_pos trivial]|rw[if_pos rfl]|rw[if_neg o_]))) hes3 wu_ wu_ wu_ hlt2 ?_)
              |simp(disch:=omega) only[w64,if_neg]
             have hq':(m'++[(⟨O,[]⟩:Sta)])[i]?=some q2:=by rw[List.getElem?_append_left k3_2];exact hqm2
             have hU3:=hU2.snoc (o:=O) (vO:= .sl 2 false (O.map itV)) qc (Nat.le_refl _) (fun _ _ _=>rfl)
             exact⟨wg_,(k+1,xJ (m'++[⟨O,[]⟩]) i sy m'.length),by dsimp only;omega,trivial,trivial,trivial,qI (fun x h=>Gr.ne hG2 o0 h) (by((try simp only[wM]);(repeat first|rw[if_pos trivial]|rw[if_pos rfl]|rw[if_neg o_]));exact o0),rfl,by dsimp only;omega,(k3_1.snoc k3_2 o_ hoR hoI).add hq' hsi (by simp),by dsimp only;rw[zh hq',List.length_set,List.length_append];omega,hst,⟨_,_,vK2,_,_,by dsimp only;rw[zh hq',List.length_set,List.length_append,hnl];rfl,if_pos rfl,o_,wg_,hU3.add (by rw[List.map_append];exact Gr.tok hh_ wg_)⟩,trivial⟩
         · rw[if_neg o_]at hst
           subst hf
           have ht:=(List.getElem?_eq_some_iff.1 hq3).1
           have hlm:(q2.mov.map prV).length=q2.mov.length:=List.length_map _
           repeat' with_reducible first
            |refine s_ ?_
            |simp only[wZZ,seval,g1,g5,g6,g11,g8,o0,hzk,h4]
            |apply qa<;>intro h h_<;>(try simp only[wD,reduceCtorEq]at h_)<;>(try exact wb_)<;>(try simp only[h])
            |refine t_ ?_
            |apply zm;omega;(focus(rw[Int.toNat_natCast];exact k3_2))
            |(rw[oo2];refine X3 rfl hes2 wu_ ?_)
            |refine cq2 hhas jA qc ?_
            |refine cq3 hov qc hK2.er qc ?_
            |apply ze (hp:=hfi);(focus(refine hEr _ ?_;first|rfl|(simp only[wM];done)));exact qc;exact wu_;exact Flat.int _ _
            |apply za rfl (hG2.mono (Nat.le_refl _) (fun id h1 h2=>by(try simp only[wM]);(repeat rw[if_neg o_])));(focus(first|exact qU.sl|exact qU.asl));(focus(simp only[wZ,hlm];omega));(focus(unfold maxLen;simp only[wZ,hlm];omega))
            |(refine VG (hG2.dropO oo2) hes2 wu_ wu_ wu_ hlt2 ?_)
            |simp(disch:=omega) only[w64,if_neg]
           exact⟨wg_,(k+1,xJ m' i sy t),by dsimp only;omega,trivial,trivial,trivial,hG2.dropO o0,rfl,by dsimp only;omega,k3_1.add hqm2 hsi ht,by dsimp only;rw[zh hqm2,List.length_set];exact k3_2,hst,⟨id2,_,vK2,_,_,by dsimp only;rw[zh hqm2,List.length_set],if_pos rfl,hid3,wg_,hU2.add (by rw[List.map_append];exact Gr.tok hh_ wg_)⟩,trivial⟩
       · rw[if_neg hc]at hst
         rw[decide_eq_false hc]at hhas
         repeat' with_reducible first
          |refine s_ ?_
          |simp only[wZZ,seval,g1,g5,g6,g11,g8,o0,hzk,h4]
          |apply qa<;>intro h h_<;>(try simp only[wD,reduceCtorEq]at h_)<;>(try exact wb_)<;>(try simp only[h])
          |refine t_ ?_
          |refine cq2 hhas jA qc ?_
         exact⟨wg_,(k+1,m'),by dsimp only;omega,trivial,trivial,trivial,trivial,rfl,by dsimp only;omega,k3_1.skip,k3_2,hst,⟨id2,es2,vK2,vM2,q2,rfl,oo2,hid3,o_,hU2.mono wg_ (fun _ _ _=>rfl)⟩,trivial⟩
     · have e:(jl g).take k=jl g:=List.take_of_length_le o_
       rw[e]at k3_3
       rw[k3_3]at k1_2
       repeat' with_reducible first
        |refine s_ ?_
        |simp only[wZZ,seval,g1,g5,g6,g11,g8,o0,hz]
        |apply qa<;>intro h h_<;>(try simp only[wD,reduceCtorEq]at h_)<;>(try exact wb_)<;>(try simp only[h])
       exact⟨wg_,(i+1,m'),by dsimp only;omega,trivial,trivial,trivial,rfl,by dsimp only;omega,k3_1.next o_,by dsimp only;rw[show 151 - (i+1)=150 - i by omega];exact k1_2,id2,es2,h4,oo2,hid3,o_,hU2.done⟩
 · have e:i=m.length:=o_
   rw[show 151 - i=(150 - i)+1 by omega]at k1_2
   unfold YL at k1_2
   rw[if_neg hi]at k1_2
   skip
   subst k1_2
   repeat' with_reducible first
    |refine s_ ?_
    |simp only[wZZ,seval,g1,g5,g6,o0,g4]
    |apply qa<;>intro h h_<;>(try simp only[wD,reduceCtorEq]at h_)<;>(try exact wb_)<;>(try simp only[h])
   refine qeI rfl (Or.inr rfl) ?_
   (simp only[wL,seval])
   refine ErL.tup (.cons (VA (ro:=false) (by(simp only[wM];(repeat first|rw[if_pos trivial]|rw[if_pos rfl]|rw[if_neg o_]));exact oo) hT.1.up ?_) (.cons (.int _ _) .nil))
   have:=hT.1.len
   rw[List.length_map]at this;exact this.symm
end Go.Proofs
