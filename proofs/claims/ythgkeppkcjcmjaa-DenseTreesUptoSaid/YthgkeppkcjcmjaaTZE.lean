/- Part of a proof that a law of the given program answers true. -/
import Derived.Test.YthgkeppkcjcmjaaTZD
set_option linter.unusedSimpArgs false
set_option linter.unusedVariables false
set_option maxHeartbeats 4000000
namespace Go.Proofs
open Go.E
theorem XG {m:List Sta} {B:Nat} (hq: ∀q∈m,q.mov.length≤B): ∀n,(yB m n).length≤n *B
 |0=>Nat.zero_le _
 | n+1=>by
   rw[Qz,List.length_append]
   have:=XG hq n
   have h1:=List.length_filterMap_le (trF n) (qgp m n)
   have h2:(qgp m n).length≤B:=by
    unfold qgp
    cases h:m[n]? with
    |none=>simp
    |some q=>exact hq q (List.mem_of_getElem? h)
   rw[Nat.add_mul,Nat.one_mul]
   omega
theorem MOk.trans_len {g:Grammar} {m:List Sta} (h:MOk g m):(qB m).length≤9600:=by
 have h1:=XG h.mvl m.length
 have e:qB m=yB m m.length:=rfl
 have h2:=h.len
 have h3:m.length *64≤150 *64:=Nat.mul_le_mul_right _ h2
 rw[e];omega
theorem zS {α β:Type} (P:β→Prop) (f:β→α→β): ∀(l:List α) (b:β),P b→(∀b a,a∈l→P b→P (f b a))→P (l.foldl f b)
 |[],b,h,_=>h
 |a::l,b,h,hf=>zS P f l (f b a) (hf b a List.mem_cons_self h) fun b x hx=>hf b x (List.mem_cons_of_mem _ hx)
theorem MOk.movAt_mem {g:Grammar} {m:List Sta} (h:MOk g m) {r:Nat} {p:Int×Int} (hp:p∈Xz m (r:Int)): ∃q,m[r]?=some q∧p∈q.mov:=by
 unfold Xz at hp
 rw[show ((r:Int)).toNat=r from rfl]at hp
 cases hm:m[r]? with
 |none=>rw[hm]at hp;cases hp
 |some q=>rw[hm]at hp;exact⟨q,rfl,hp⟩
theorem KL {g:Grammar} {m:List Sta} (h:MOk g m) (hg:GOk g):yJ (yR m):=by
 intro l hl
 have hdef:yR m=(qB m).map (qb2 m):=rfl
 rw[hdef,List.mem_map]at hl
 obtain ⟨t,ht,rfl⟩:=hl
 obtain ⟨r,hr,hrm⟩:=h.trans_go (q:=t.1) (s:=t.2) ht
 unfold qb2
 rw[hr]
 refine zS jS _ _ _ ?_ fun b p hp hb=>?_
 · split
   · exact⟨List.pairwise_singleton _ _,fun x hx=>by rw[List.mem_singleton]at hx;omega⟩
   · exact QO
 · unfold qaV
   split
   · rename_i h1
     obtain ⟨q,hq,hpm⟩:=h.movAt_mem hp
     have hs:=(h.mv q (List.mem_of_getElem? hq) p hpm).1
     have htk:=hg.tk2
     refine⟨jN hb.1,fun x hx=>(zD.1 hx).elim (hb.2 x) fun e=>?_⟩
     subst e
     rcases hs with ⟨t,e,ht⟩|⟨k,e,hk⟩<;>omega
   · exact hb
theorem Vj (m:List Sta):(yR m).length=(qB m).length:=by
 have hdef:yR m=(qB m).map (qb2 m):=rfl
 rw[hdef,List.length_map]
theorem qgO {g:Grammar} {m:List Sta} {E:Nat→Bool} (h:MOk g m):qlI (qB m).length (Xu E m):=by
 have hdef:Xu E m=(qB m).map (qhj E (qB m) m):=rfl
 refine⟨by rw[hdef,List.length_map],fun l hl=>?_⟩
 rw[hdef,List.mem_map]at hl
 obtain ⟨t,ht,rfl⟩:=hl
 obtain ⟨r,hr,hrm⟩:=h.trans_go (q:=t.1) (s:=t.2) ht
 unfold qhj
 rw[hr]
 constructor
 · have h1:=qct E (qB m) r (Xz m r) []
   have h2:(Xz m r).length≤64:=by
    unfold Xz
    rw[show ((r:Int)).toNat=r from rfl]
    cases hm:m[r]? with
    |none=>simp
    |some q=>exact h.mvl q (List.mem_of_getElem? hm)
   rw[List.length_nil]at h1;omega
 · refine zS (fun b=> ∀x∈b,∃k:Nat,x=(k:Int)∧k<(qB m).length) _ _ _ (fun x hx=>by cases hx) fun b p hp hb=>?_
   unfold K8
   split
   · rename_i h1
     obtain ⟨q,hq,hpm⟩:=h.movAt_mem hp
     intro x hx
     rcases zD.1 hx with hx|e
     · exact hb x hx
     · rw[e];exact qhh (KJ hq h1.1 (t:=p.2) hpm)
   · exact hb
theorem qhy {E:Nat→Bool} {m:List Sta} {i k:Nat} {q:Int} {r:List Int} {out:List (List Int)} (hi:i<(qB m).length) (h:yZ (qB m).length out):yZ (qB m).length (XB E m i q r out k):=by
 unfold XB
 dsimp only
 split
 · rename_i hc
   cases hg:out[(qaT (qB m) (xN m q (r.take k)) (r.getD k 0)).toNat]? with
   | none=>
     rw[List.modify_eq_self (by rw[List.getElem?_eq_none_iff]at hg;exact hg)];exact h
   | some l=>
     rw[Qd _ hg]
     exact h.set (yZ.put (h.2 l (List.mem_of_getElem? hg)) hi) _
 · exact h
theorem qpd {g:Grammar} {m:List Sta} {E:Nat→Bool}:yZ (qB m).length (xB g E m):=by
 unfold xB
 refine zS (yZ (qB m).length) _ _ _ (qaw _) fun b i hi hb=>?_
 refine zS (yZ (qB m).length) _ _ _ hb fun b p _ hb=>?_
 unfold qan
 split
 · exact zS (yZ (qB m).length) _ _ _ hb fun b k _ hb=>qhy (List.mem_range.1 hi) hb
 · exact hb
theorem qgX {g:Grammar} {m:List Sta} {E:Nat→Bool} (h:MOk g m):qlI (qB m).length (xB g E m):=by
 have h1:=qpd (g:=g) (m:=m) (E:=E)
 refine⟨h1.1,fun l hl=>⟨?_,(h1.2 l hl).2⟩⟩
 have:=yZ.len (h1.2 l hl)
 have:=h.trans_len
 omega
theorem Yk {g:Grammar} {m:List Sta} {E:Nat→Bool} (h:MOk g m) (hg:GOk g):yJ (xG g E m)∧(xG g E m).length=(qB m).length:=by
 unfold xG
 have h1:=J7 (rel:=Xu E m) 400000 (KL h hg)
 have h2:=J7 (rel:=xB g E m) 400000 h1.1
 exact⟨h2.1,by rw[h2.2,h1.2,Vj]⟩

set_option maxHeartbeats 8000000
theorem qdT {P:Program} [Glob P] {z id:Nat} {s:St} {K:V→St→Prop} {f:FuncId} {vs:List V} {H:Nat→Option MObj} {N:Nat} (hH:s.H=H) (hN:s.next=N)
 (h:qZ P f vs H N fun v H' n'=>qao z N n' H H'∧K v {s with H:=H',next:=n'}):vF P (.k z) id s K f vs:=by
 subst hN
 subst hH
 refine Or.inr ⟨rfl,?_⟩
 rw[List.append_nil]
 exact h
theorem Jf {g:Grammar} {m:List Sta} {E:Nat→Bool} (hM:MOk g m) (hg:GOk g) (hE:IsGrow g false E) (hne:qB m≠[]):Pure Try.prog 54 [g.V,.sl 2 false (m.map Sta.V)] (.sl 1 false ((xG g E m).map Jp)):=by
 refine pure_intro Try.func54 nm_ qAL (by show 2≤15;decide) ?_
 show ewp _ qAH _ _
 have hre:=JK hM hg hE
 have hin:=QA hM hg hE hM.trans_len
 have hdi:= @qd8
 have hdl:=Vj m
 have hrr:=qgO (E:=E) hM
 have hir:=qgX (g:=g) (E:=E) hM
 have hdo:=KL hM hg
 have htl:=hM.trans_len
 have hgo:=J7 (rel:=Xu E m) 400000 hdo
 have hne2:(qB m).length≠0:=fun e=>hne (List.eq_nil_of_length_eq_zero e)
 have lab1: ∀(es:List V) (ro:Bool),lab (.own 1 es ro)≠10:=fun es ro e=>by
  cases es with
  |nil=>cases e
  |cons a l=>unfold lab at e;dsimp only at e;split at e<;>omega
 have keepG: ∀{H H':Nat→Option MObj} {N N' D:Nat} {es es':List V},N≤N'→H D=some (.own 1 es false)→H' D=some (.own 1 es' false)→(∀j,j<N→j≠D→H' j=H j)→qao 10 N N' H H':=fun {H H' N N' D es es'} h1 h2 h3 h4=>by
  refine⟨h1,fun id h e=>?_,fun id ob h hl=>?_⟩
  · by_cases e2:id=D
    · rw[e2,h2]at e;cases e
    · rw[h4 id h e2];exact e
  · by_cases e2:id=D
    · rw[e2,h2,h3]
      constructor<;>intro e<;>cases e<;>exact absurd hl (lab1 _ _)
    · rw[h4 id h e2]
 repeat' with_reducible first
  |refine zV ?_
  |simp only[wZZ,seval]
  |refine t_ ?_
 refine qdT rfl rfl ((qd8 hM hg).mono ?_)
 rintro v1 H1 n1 ⟨q1,⟨es1,q2,q3⟩,q4⟩
 have o1:H1 0=some (.own 5 [g.V] false):=(q4 0 wg_).trans wc_
 have b1:13≤n1:=q1
 obtain ⟨D,e1,d1,d2,d3⟩: ∃D,v1=.msl D 1 0 (qB m).length∧H1 D=some (.own 1 es1 false)∧0<D∧D<n1:=(by rcases q2 with ⟨_,h⟩|⟨D,h1,h2,h3,h4⟩;{have:=q3.1;rw[‹es1=[]›,hdl]at this;exact absurd this.symm hne2};{have:=q3.1;rw[hdl]at this;rw[this]at h1;exact⟨D,h1,h2,Nat.lt_of_lt_of_le (by decide) (show 13≤D from h3),h4⟩})
 subst e1
 refine⟨⟨q1,fun id h e=>(by rw[q4 id h];exact e),fun id ob h _=>(by rw[q4 id h])⟩,?_⟩
 repeat' with_reducible first
  |simp only[wZZ,seval]
  |(rw[o1];refine And.intro rfl ?_)
  |refine cq2 hre qc qc ?_
  |refine t_ ?_
 refine qdT rfl rfl ((qvb htl d3 d1 q3 hdo hdl hrr).mono ?_)
 rintro v2 H2 n2 ⟨p1,p2,⟨es2,p3,p4⟩,p5⟩
 subst p2
 have p1:n1≤n2:=p1
 have o2:H2 0=some (.own 5 [g.V] false):=(p5 0 (show 0<n1 by omega) o_).trans o1
 refine⟨keepG p1 d1 p3 p5,?_⟩
 repeat' with_reducible first
  |simp only[wZZ,seval]
  |(rw[o2];refine And.intro rfl ?_)
  |refine cq2 hin qc qc ?_
  |refine t_ ?_
 refine qdT rfl rfl ((qvb htl (Nat.lt_of_lt_of_le d3 p1) p3 p4 hgo.1 (hgo.2.trans hdl) hir).mono ?_)
 rintro v3 H3 n3 ⟨r1,r2,⟨es3,r3,r4⟩,r5⟩
 subst r2
 refine⟨keepG r1 p3 r3 r5,?_⟩
 repeat' with_reducible first
  |refine QF ?_
 refine qA rfl (Or.inr rfl) ?_
 (simp only[wL,seval])
 exact r4.er r3 (Yk (E:=E) hM hg).2

abbrev qjN (f:List (List Int)):List Int→Int→List Int:=fun l b=>joinL l (f.getD b.toNat [])
abbrev qdU (g:Grammar) (m:List Sta) (f:List (List Int)) (q:Nat) (p:Int):Lk:={st:=q,pr:=p,tk:=(Xk g m q p).foldl (qjN f) []}
def qdI (g:Grammar) (m:List Sta) (f:List (List Int)) (n:Nat):List Lk:=(List.range n).flatMap fun(q:Nat)=>(xW g (qF m q)).map (qdU g m f q)
theorem Xo (g:Grammar) (m:List Sta) (f:List (List Int)) (n:Nat):qdI g m f (n+1)=qdI g m f n++(xW g (qF m n)).map (qdU g m f n):=by
 unfold qdI;rw[List.range_succ,List.flatMap_append];simp
theorem qa1 {f:List (List Int)} (hf:yJ f): ∀(b l:List Int),jS l→jS (b.foldl (qjN f) l)
 |[],l,h=>h
 |a::b,l,h=>qa1 hf b _ (h.join (hf.getD _))
theorem qaf {g:Grammar} (hg:GOk g) {k:List Int} (hx: ∀x∈k,QL g x) (hr:jO k): ∀p∈xW g k,∃n:Nat,p=n∧1≤n∧n<g.prods.length:=by
 intro p hp
 unfold xW at hp
 obtain ⟨_,hok,_⟩:=zf hg hx hr
 rw[List.mem_filterMap]at hp
 obtain ⟨x,h1,h2⟩:=hp
 obtain ⟨a,d,pr,ha,hd,hpr,hdl,hn⟩:=(hok x h1).nat
 split at h2
 · rename_i h3
   have hap:=(List.getElem?_eq_some_iff.1 hpr).1
   cases h2
   exact⟨a,ha,o_,hap⟩
 · cases h2
theorem qaJ {g:Grammar} (hg:GOk g) {k:List Int} (hx: ∀x∈k,QL g x) (hr:jO k):(xW g k).length≤960:=by
 obtain ⟨_,hok,hcb⟩:=zf hg hx hr
 unfold xW
 exact Nat.le_trans (List.length_filterMap_le _ _) hcb
theorem qfW {g:Grammar} {m:List Sta} {q p:Int}: ∀x∈Xk g m q p,∃n:Nat,x=n∧n<(qB m).length:=by
 intro x hx
 unfold Xk at hx
 rw[List.mem_map]at hx
 obtain ⟨n,hn,rfl⟩:=hx
 exact⟨n,rfl,List.mem_range.1 (List.mem_filter.1 hn).1⟩
theorem Gr.ne {H:Nat→Option MObj} {next z D:Nat} {es:List V} {v:V} (h:Gr H next z es v) {sz:Nat} {l:List V} {ro:Bool} (ho:H D=some (.own sz l ro)) {x:Nat} (hx:gid v=some x):x≠D:=by
 rcases h with rfl|⟨id,fin,rfl,h1,_⟩
 · cases hx
 · cases hx;intro e;rw[e,ho]at h1;cases h1
theorem X9 {g:Grammar} {m:List Sta} {E:Nat→Bool} (hM:MOk g m) (hg:GOk g) (hE:IsGrow g false E) (hne:qB m≠[]):Pure Try.prog 24 [g.V,.sl 2 false (m.map Sta.V)] (.sl 3 false ((Qv g E m).map Lk.V)):=by
 refine pure_intro Try.func24 nm_ qxe (by show 2≤87;decide) ?_
 show ewp _ qiD _ _
 have hml:=hM.len;have hmv:=hM.mvl
 have hfo:=Jf hM hg hE hne
 obtain ⟨hO,hOl⟩:=Yk (E:=E) hM hg
 have hdef:Qv g E m=qdI g m (xG g E m) m.length:=rfl
 rw[hdef]
 generalize xG g E m=f at *
 repeat' with_reducible first
  |refine s_ ?_
  |simp only[wZZ,seval]
  |refine cq2 hfo qc qc ?_
  |refine t_ ?_
 refine qb ?nx1 (fun(q:Nat) s=>s.f 1=?v1_1∧s.f 2=?v1_2∧s.f 5=?v1_5∧s.H 0=some (.own 5 [g.V] false)∧s.f 7=vi q∧(q≤m.length)∧((qdI g m f q).length≤q *960)∧((∃v es,s.f 6=v∧Gr s.H s.next 3 es v∧QM es ((qdI g m f q).map Lk.V)))) (fun q=>m.length - q) (0) wj_ (by refine⟨?_,?_,?_,?_,?_,wo_,(by exact Nat.zero_le _),(by exact⟨_,[],(by(simp only[wL,seval])<;>rfl),Gr.nil,.nil⟩)⟩<;>first|(simp only[wL,wM,wN,wX,seval,Option.some.injEq]<;>exact wt_)|rfl|exact⟨_,rfl⟩) ?_
 intro q s hnx ⟨g1,g2,g5,o0,g7,k1_0,k1_1,k1_2⟩
 obtain ⟨v6,es,g6,hG6,hE6⟩:=k1_2
 have hz:=w1_ q
 by_cases hq:q<m.length
 · have hgq:m[q]?=some m[q]:=ge_ hq
   have hqm:=List.getElem_mem hq
   have hkr:=hM.kr _ hqm;have hki:=hM.ki _ hqm;have hkl:=hM.kl hg.pl2 _ hqm
   have hen:=XO hki hkr o_ hg
   have hst:=Xo g m f q
   have hkA:qF m q=m[q].ker:=by unfold qF;rw[hgq];rfl
   have hem:=qaf hg hki hkr
   have hel:=qaJ hg hki hkr
   rw[hkA]at hst
   generalize xW g m[q].ker=U at *
   generalize m[q]=x at *
   obtain ⟨xk,xm⟩:=x
   dsimp only at hen hst
   generalize qdI g m f q=L at *
   repeat' with_reducible first
    |refine s_ ?_
    |simp only[wZZ,seval,g1,g2,g5,g7,o0,hz,g6]
    |apply qa<;>intro h h_<;>(try simp only[wD,reduceCtorEq]at h_)<;>(try exact wb_)<;>(try simp only[h])
    |refine t_ ?_
    |refine cq2 hen qc qc ?_
   refine qb ?nx2 (fun(i:Nat) s=>s.f 1=?v2_1∧s.f 2=?v2_2∧s.f 5=?v2_5∧s.f 7=?v2_7∧s.f 8=?v2_8∧s.H 0=some (.own 5 [g.V] false)∧s.f 9=vi i∧(i≤U.length)∧((∃v es,s.f 6=v∧Gr s.H s.next 3 es v∧QM es ((L++(U.take i).map (qdU g m f q)).map Lk.V)))) (fun i=>U.length - i) (0) wj_ (by refine⟨?_,?_,?_,?_,?_,?_,?_,wo_,(by exact⟨v6,es,(by(simp only[wL,seval]);exact g6),hG6.mono wg_ (fun _ _ _=>rfl),by rw[List.take_zero,List.map_nil,List.append_nil];exact hE6⟩)⟩<;>first|(simp only[wL,wM,wN,wX,seval,Option.some.injEq,g1,g2,g5,g7,o0]<;>exact wt_)|rfl|exact⟨_,rfl⟩) ?_
   intro i s hnx ⟨g1,g2,g5,g7,g8,o0,g9,k2_0,k2_1⟩
   obtain ⟨v7,es7,gg,hG7,hE7⟩:=k2_1
   have hzi:=w1_ i
   by_cases hi:i<U.length
   · have hgi:U[i]?=some U[i]:=ge_ hi
     obtain ⟨n,hn,hn1,hn2⟩:=hem _ (List.getElem_mem hi)
     have htk:(U.take (i+1)).map (qdU g m f q)=(U.take i).map (qdU g m f q)++[qdU g m f q U[i]]:=by rw[List.take_add_one,hgi,List.map_append];rfl
     have hbk:=Yo (g:=g) (m:=m) (q:=q) (n:=n) hg o_ (fun q h=>by have:=hmv q h;omega) hq hn1 hn2
     rw[hn]at hgi htk
     have hbm:=qfW (g:=g) (m:=m) (q:=q) (p:=n)
     have htl:=hM.trans_len
     have hbl:(Xk g m q n).length≤9600:=by
      unfold Xk
      rw[List.length_map]
      exact Nat.le_trans (List.length_filter_le _ _) (by rw[List.length_range];exact htl)
     have hlk:qdU g m f q n={st:=q,pr:=n,tk:=(Xk g m q n).foldl (qjN f) []}:=rfl
     rw[hlk]at htk
     generalize Xk g m q n=B at *
     obtain ⟨D,hD⟩: ∃D,D=s.next+4+6:=⟨_,rfl⟩
     repeat' with_reducible first
      |refine s_ ?_
      |simp only[wZZ,seval,g1,g2,g5,g7,g8,g9,o0,hzi,gg]
      |apply qa<;>intro h h_<;>(try simp only[wD,reduceCtorEq]at h_)<;>(try exact wb_)<;>(try simp only[h])
      |refine t_ ?_
      |refine cq4 hbk qc qc qc qc ?_
     refine qb ?nx3 (fun(k:Nat) s=>s.f 1=?v3_1∧s.f 2=?v3_2∧s.f 5=?v3_5∧s.f 7=?v3_7∧s.f 8=?v3_8∧s.f 9=?v3_9∧s.f 11=?v3_11∧s.H 0=some (.own 5 [g.V] false)∧s.f 12=vi k∧(k≤B.length)∧(D<s.next)∧(Gr s.H s.next 3 es7 v7)∧((∃c,s.H D=some (.own 3 [V.agg [vi q,vi n,.sl 1 c (((B.take k).foldl (qjN f) []).map (V.int .i64))]] false)))∧(s.f 10=.ptr D 0 0)∧(s.f 6=v7)) (fun k=>B.length - k) (0) wj_ (by refine⟨?_,?_,?_,?_,?_,?_,?_,?_,?_,wo_,wg_,(by exact hG7.mono wg_ (fun j h1 h2=>hh_)),(by exact⟨true,by rw[hD];(simp only[wM];(repeat first|rw[if_pos trivial]|rw[if_pos rfl]|rw[if_neg o_]))<;>rfl⟩),(by(try simp only[wL,wM,wN,seval,g1,g2,g5,g7,g8,g9,o0]);first|done|rw[hD]),(by(try simp only[wL,wM,wN,seval,g1,g2,g5,g7,g8,g9,o0]);first|done|rfl|exact gg)⟩<;>first|(simp only[wL,wM,wN,wX,seval,Option.some.injEq,g1,g2,g5,g7,g8,g9,o0]<;>exact wt_)|rfl|exact⟨_,rfl⟩) ?_
     intro k s hnx ⟨g1,g2,g5,g7,g8,g9,g11,o0,g12,k3_0,k3_1,k3_2,k3_3,g10,g6⟩
     obtain ⟨c3,o3⟩:=k3_3
     have hzk:=w1_ k
     by_cases hk:k<B.length
     · have hgk:B[k]?=some B[k]:=ge_ hk
       obtain ⟨b,hb,hb2⟩:=hbm _ (List.getElem_mem hk)
       have hst3:=zY (qjN f) [] hgk
       have hgf:f[b]?=some f[b]:=ge_ o_
       have hSo:=hO _ (List.mem_of_getElem? hgf)
       have hU3:=qa1 hO (B.take k) [] QO
       rw[hb]at hgk hst3
       have hfD:f.getD ((b:Int)).toNat []=f[b]:=by rw[show ((b:Int)).toNat=b from rfl,List.getD,hgf];rfl
       simp only[qjN,hfD,joinL]at hst3
       generalize f[b]=S at *
       generalize hU3e:(B.take k).foldl (qjN f) []=U3 at *
       repeat' with_reducible first
        |refine s_ ?_
        |simp only[wZZ,seval,g1,g2,g5,g7,g8,g9,g11,g12,g10,g6,o0,hzk]
        |apply qa<;>intro h h_<;>(try simp only[wD,reduceCtorEq]at h_)<;>(try exact wb_)<;>(try simp only[h])
       refine qb ?nx4 (fun(j:Nat) s=>s.f 1=?v4_1∧s.f 2=?v4_2∧s.f 5=?v4_5∧s.f 7=?v4_7∧s.f 8=?v4_8∧s.f 9=?v4_9∧s.f 10=?v4_10∧s.f 11=?v4_11∧s.f 12=?v4_12∧s.H 0=some (.own 5 [g.V] false)∧s.f 13=vi j∧(j≤S.length)∧(D<s.next)∧(Gr s.H s.next 3 es7 v7)∧((∃c,s.H D=some (.own 3 [V.agg [vi q,vi n,.sl 1 c (((S.take j).foldl jm U3).map (V.int .i64))]] false)))∧(s.f 6=v7)) (fun j=>S.length - j) (0) wj_ (by refine⟨?_,?_,?_,?_,?_,?_,?_,?_,?_,?_,?_,wo_,wg_,(by exact k3_2.mono wg_ (fun j h1 h2=>hh_)),(by exact⟨c3,by((try simp only[wM]);(repeat first|rw[if_pos trivial]|rw[if_pos rfl]|rw[if_neg o_]));exact o3⟩),(by(try simp only[wL,wM,wN,seval,g1,g2,g5,g7,g8,g9,g11,g12,g10,g6,o0]);first|done|rfl|assumption)⟩<;>first|(simp only[wL,wM,wN,wX,seval,Option.some.injEq,g1,g2,g5,g7,g8,g9,g11,g12,g10,g6,o0]<;>exact wt_)|rfl|exact⟨_,rfl⟩) ?_
       intro j s hnx ⟨g1,g2,g5,g7,g8,g9,g10,g11,g12,o0,g13,k4_0,k4_1,k4_2,k4_3,g6⟩
       obtain ⟨c4,o4⟩:=k4_3
       have hSl:=hSo.len
       have hzj:=w1_ j
       by_cases hj:j<S.length
       · have hgj:S[j]?=some S[j]:=ge_ hj
         have hst4:=zY jm U3 hgj
         have hUl:=(hU3.join (hSo.take j)).len
         generalize (S.take j).foldl jm U3=W at *
         generalize S[j]=y at *
         have hput:=zM (l:=W) (x:=y) o_
         repeat' with_reducible first
          |refine s_ ?_
          |simp only[wZZ,seval,g1,g2,g5,g7,g8,g9,g10,g11,g12,g13,g6,o0,hzj,o4]
          |apply qa<;>intro h h_<;>(try simp only[wD,reduceCtorEq]at h_)<;>(try exact wb_)<;>(try simp only[h])
          |refine t_ ?_
          |refine cq2 hput jA qc ?_
          |simp(disch:=omega) only[w64,if_neg]
         exact⟨wg_,j+1,o_,trivial,trivial,trivial,trivial,trivial,trivial,trivial,trivial,trivial,trivial,rfl,o_,wg_,k4_2.mono wg_ (fun x h1 h2=>by have:=Gr.ne k4_2 o4 h1;((try simp only[wM]);(repeat first|rw[if_pos trivial]|rw[if_pos rfl]|rw[if_neg o_]))),⟨_,by rw[hst4]⟩,trivial⟩
       · have e:S.take j=S:=List.take_of_length_le o_
         rw[e]at o4
         repeat' with_reducible first
          |refine s_ ?_
          |simp only[wZZ,seval,g1,g2,g5,g7,g8,g9,g10,g11,g12,g13,g6,o0,hzk,o4]
          |apply qa<;>intro h h_<;>(try simp only[wD,reduceCtorEq]at h_)<;>(try exact wb_)<;>(try simp only[h])
          |refine t_ ?_
         exact⟨wg_,k+1,o_,trivial,trivial,trivial,trivial,trivial,trivial,trivial,trivial,rfl,o_,wg_,k4_2.mono wg_ (fun _ _ _=>rfl),⟨c4,by rw[hst3]⟩,trivial,trivial⟩
     · have e:B.take k=B:=List.take_of_length_le o_
       rw[e]at o3
       have hel7:es7.length=_:=hE7.len.symm
       rw[List.length_map,List.length_append,List.length_map,List.length_take]at hel7
       skip
       repeat' with_reducible first
        |refine s_ ?_
        |simp only[wZZ,seval,g1,g2,g5,g7,g8,g9,g11,g12,g10,g6,o0,hzi,o3]
        |apply qa<;>intro h h_<;>(try simp only[wD,reduceCtorEq]at h_)<;>(try exact wb_)<;>(try simp only[h])
        |apply za rfl (k3_2.mono (Nat.le_refl _) (fun id h1 h2=>by(try simp only[wM]);(repeat rw[if_neg o_])));(focus(first|exact qU.sl|exact qU.asl));(focus(simp only[wZ,hel7];omega));(focus(unfold maxLen;simp only[wZ,hel7];omega))
        |refine t_ ?_
       exact⟨wg_,i+1,o_,trivial,trivial,trivial,trivial,trivial,k3_2.dropO o0,rfl,o_,_,_,rfl,Gr.tok (id:=s.next+4+3) (fin:=es7.length+1) hh_ wg_,by rw[htk,← List.append_assoc,List.map_append];exact hE7.snoc (ErL.agg (.cons (.int _ _) (.cons (.int _ _) (.cons jA .nil))))⟩
   · have e:U.take i=U:=List.take_of_length_le o_
     rw[e,← hst]at hE7
     skip
     repeat' with_reducible first
      |refine s_ ?_
      |simp only[wZZ,seval,g1,g2,g5,g7,g8,g9,o0,hz,gg]
      |apply qa<;>intro h h_<;>(try simp only[wD,reduceCtorEq]at h_)<;>(try exact wb_)<;>(try simp only[h])
     exact⟨wg_,q+1,o_,trivial,trivial,trivial,trivial,rfl,o_,by rw[hst,List.length_append,List.length_map];omega,v7,es7,rfl,hG7.mono wg_ (fun _ _ _=>rfl),hE7⟩
 · have e:q=m.length:=o_
   subst e
   skip
   repeat' with_reducible first
    |refine s_ ?_
    |simp only[wZZ,seval,g1,g2,g5,g7,o0,g6]
   refine qA rfl (Or.inr rfl) ?_
   (simp only[wL,seval])
   exact hG6.erL hE6.up
end Go.Proofs
