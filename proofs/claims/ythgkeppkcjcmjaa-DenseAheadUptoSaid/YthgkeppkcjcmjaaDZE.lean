/- Part of a proof that a law of the given program answers true. -/
import Derived.Test.YthgkeppkcjcmjaaDZD
set_option linter.unusedSimpArgs false
set_option linter.unusedVariables false
set_option maxHeartbeats 4000000
namespace Go.Proofs
open Go.E
theorem Xz {m:List Sta} {B:Nat} (hq: ∀q∈m,q.mov.length≤B): ∀n,(yT m n).length≤n *B
 |0=>Nat.zero_le _
 | n+1=>by
   rw[Za,List.length_append]
   have:=Xz hq n
   have h1:=List.length_filterMap_le (trF n) (qgk m n)
   have h2:(qgk m n).length≤B:=by
    unfold qgk
    cases h:m[n]? with
    |none=>simp
    |some q=>exact hq q (List.mem_of_getElem? h)
   rw[Nat.add_mul,Nat.one_mul]
   omega
theorem MOk.trans_len {g:Grammar} {m:List Sta} (h:MOk g m):(qx m).length≤9600:=by
 have h1:=Xz h.mvl m.length
 have e:qx m=yT m m.length:=rfl
 have h2:=h.len
 have h3:m.length *64≤150 *64:=Nat.mul_le_mul_right _ h2
 rw[e];omega
theorem zW {α β:Type} (P:β→Prop) (f:β→α→β): ∀(l:List α) (b:β),P b→(∀b a,a∈l→P b→P (f b a))→P (l.foldl f b)
 |[],b,h,_=>h
 |a::l,b,h,hf=>zW P f l (f b a) (hf b a List.mem_cons_self h) fun b x hx=>hf b x (List.mem_cons_of_mem _ hx)
theorem MOk.movAt_mem {g:Grammar} {m:List Sta} (h:MOk g m) {r:Nat} {p:Int×Int} (hp:p∈Yh m (r:Int)): ∃q,m[r]?=some q∧p∈q.mov:=by
 unfold Yh at hp
 rw[show ((r:Int)).toNat=r from rfl]at hp
 cases hm:m[r]? with
 |none=>rw[hm]at hp;cases hp
 |some q=>rw[hm]at hp;exact⟨q,rfl,hp⟩
theorem qaM {g:Grammar} {m:List Sta} (h:MOk g m) (hg:GOk g):yX (vJ m):=by
 intro l hl
 have hdef:vJ m=(qx m).map (qbW m):=rfl
 rw[hdef,List.mem_map]at hl
 obtain ⟨t,ht,rfl⟩:=hl
 obtain ⟨r,hr,hrm⟩:=h.trans_go (q:=t.1) (s:=t.2) ht
 unfold qbW
 rw[hr]
 refine zW j4 _ _ _ ?_ fun b p hp hb=>?_
 · split
   · exact⟨List.pairwise_singleton _ _,fun x hx=>by rw[List.mem_singleton]at hx;omega⟩
   · exact Jd
 · unfold qa6
   split
   · rename_i h1
     obtain ⟨q,hq,hpm⟩:=h.movAt_mem hp
     have hs:=(h.mv q (List.mem_of_getElem? hq) p hpm).1
     have htk:=hg.tk2
     refine⟨jS hb.1,fun x hx=>(zo.1 hx).elim (hb.2 x) fun e=>?_⟩
     subst e
     rcases hs with ⟨t,e,ht⟩|⟨k,e,hk⟩<;>omega
   · exact hb
theorem VD (m:List Sta):(vJ m).length=(qx m).length:=by
 have hdef:vJ m=(qx m).map (qbW m):=rfl
 rw[hdef,List.length_map]
theorem qgG {g:Grammar} {m:List Sta} {E:Nat→Bool} (h:MOk g m):qk2 (qx m).length (Yu E m):=by
 have hdef:Yu E m=(qx m).map (qha E (qx m) m):=rfl
 refine⟨by rw[hdef,List.length_map],fun l hl=>?_⟩
 rw[hdef,List.mem_map]at hl
 obtain ⟨t,ht,rfl⟩:=hl
 obtain ⟨r,hr,hrm⟩:=h.trans_go (q:=t.1) (s:=t.2) ht
 unfold qha
 rw[hr]
 constructor
 · have h1:=qcM E (qx m) r (Yh m r) []
   have h2:(Yh m r).length≤64:=by
    unfold Yh
    rw[show ((r:Int)).toNat=r from rfl]
    cases hm:m[r]? with
    |none=>simp
    |some q=>exact h.mvl q (List.mem_of_getElem? hm)
   rw[List.length_nil]at h1;omega
 · refine zW (fun b=> ∀x∈b,∃k:Nat,x=(k:Int)∧k<(qx m).length) _ _ _ (fun x hx=>by cases hx) fun b p hp hb=>?_
   unfold qai
   split
   · rename_i h1
     obtain ⟨q,hq,hpm⟩:=h.movAt_mem hp
     intro x hx
     rcases zo.1 hx with hx|e
     · exact hb x hx
     · rw[e];exact qhj (qab hq h1.1 (t:=p.2) hpm)
   · exact hb
theorem qhb {E:Nat→Bool} {m:List Sta} {i k:Nat} {q:Int} {r:List Int} {out:List (List Int)} (hi:i<(qx m).length) (h:vQ (qx m).length out):vQ (qx m).length (Yx E m i q r out k):=by
 unfold Yx
 dsimp only
 split
 · rename_i hc
   cases hg:out[(qa7 (qx m) (xB m q (r.take k)) (r.getD k 0)).toNat]? with
   | none=>
     rw[List.modify_eq_self (by rw[List.getElem?_eq_none_iff]at hg;exact hg)];exact h
   | some l=>
     rw[Qk _ hg]
     exact h.set (vQ.put (h.2 l (List.mem_of_getElem? hg)) hi) _
 · exact h
theorem qrp {g:Grammar} {m:List Sta} {E:Nat→Bool}:vQ (qx m).length (xK g E m):=by
 unfold xK
 refine zW (vQ (qx m).length) _ _ _ (KU _) fun b i hi hb=>?_
 refine zW (vQ (qx m).length) _ _ _ hb fun b p _ hb=>?_
 unfold qa0
 split
 · exact zW (vQ (qx m).length) _ _ _ hb fun b k _ hb=>qhb (List.mem_range.1 hi) hb
 · exact hb
theorem qg9 {g:Grammar} {m:List Sta} {E:Nat→Bool} (h:MOk g m):qk2 (qx m).length (xK g E m):=by
 have h1:=qrp (g:=g) (m:=m) (E:=E)
 refine⟨h1.1,fun l hl=>⟨?_,(h1.2 l hl).2⟩⟩
 have:=vQ.len (h1.2 l hl)
 have:=h.trans_len
 omega
theorem Yq {g:Grammar} {m:List Sta} {E:Nat→Bool} (h:MOk g m) (hg:GOk g):yX (xI g E m)∧(xI g E m).length=(qx m).length:=by
 unfold xI
 have h1:=Xm (rel:=Yu E m) 400000 (qaM h hg)
 have h2:=Xm (rel:=xK g E m) 400000 h1.1
 exact⟨h2.1,by rw[h2.2,h1.2,VD]⟩

set_option maxHeartbeats 8000000
theorem qfM {P:Program} [Glob P] {z id:Nat} {s:St} {K:V→St→Prop} {f:FuncId} {vs:List V} {H:Nat→Option MObj} {N:Nat} (hH:s.H=H) (hN:s.next=N)
 (h:xh P f vs H N fun v H' n'=>qaz z N n' H H'∧K v {s with H:=H',next:=n'}):kF P (.k z) id s K f vs:=by
 subst hN
 subst hH
 refine Or.inr ⟨rfl,?_⟩
 rw[List.append_nil]
 exact h
theorem Jl {g:Grammar} {m:List Sta} {E:Nat→Bool} (hM:MOk g m) (hg:GOk g) (hE:IsGrow g false E) (hne:qx m≠[]):Pure Try.prog 54 [g.V,.sl 2 false (m.map Sta.V)] (.sl 1 false ((xI g E m).map YZ)):=by
 refine pure_intro Try.func54 qIf qxL (by show 2≤15;decide) ?_
 show ewp _ qBk _ _
 have hre:=J8 hM hg hE
 have hin:=QV hM hg hE hM.trans_len
 have hdi:= @qfv
 have hdl:=VD m
 have hrr:=qgG (E:=E) hM
 have hir:=qg9 (g:=g) (E:=E) hM
 have hdo:=qaM hM hg
 have htl:=hM.trans_len
 have hgo:=Xm (rel:=Yu E m) 400000 hdo
 have hne2:(qx m).length≠0:=fun e=>hne (List.eq_nil_of_length_eq_zero e)
 have lab1: ∀(es:List V) (ro:Bool),lab (.own 1 es ro)≠10:=fun es ro e=>by
  cases es with
  |nil=>cases e
  |cons a l=>unfold lab at e;dsimp only at e;split at e<;>omega
 have keepG: ∀{H H':Nat→Option MObj} {N N' D:Nat} {es es':List V},N≤N'→H D=some (.own 1 es false)→H' D=some (.own 1 es' false)→(∀j,j<N→j≠D→H' j=H j)→qaz 10 N N' H H':=fun {H H' N N' D es es'} h1 h2 h3 h4=>by
  refine⟨h1,fun id h e=>?_,fun id ob h hl=>?_⟩
  · by_cases e2:id=D
    · rw[e2,h2]at e;cases e
    · rw[h4 id h e2];exact e
  · by_cases e2:id=D
    · rw[e2,h2,h3]
      constructor<;>intro e<;>cases e<;>exact absurd hl (lab1 _ _)
    · rw[h4 id h e2]
 repeat' with_reducible first
  |refine jO ?_
  |simp only[wZZ,seval]
  |refine t_ ?_
 refine qfM rfl rfl ((qfv hM hg).mono ?_)
 rintro v1 H1 n1 ⟨q1,⟨es1,q2,q3⟩,q4⟩
 have o1:H1 0=some (.own 5 [g.V] false):=(q4 0 (by((try simp only[wN])<;>omega))).trans wc_
 have b1:13≤n1:=q1
 obtain ⟨D,e1,d1,d2,d3⟩: ∃D,v1=.msl D 1 0 (qx m).length∧H1 D=some (.own 1 es1 false)∧0<D∧D<n1:=(by rcases q2 with ⟨_,h⟩|⟨D,h1,h2,h3,h4⟩;{have:=q3.1;rw[‹es1=[]›,hdl]at this;exact absurd this.symm hne2};{have:=q3.1;rw[hdl]at this;rw[this]at h1;exact⟨D,h1,h2,Nat.lt_of_lt_of_le (by decide) (show 13≤D from h3),h4⟩})
 subst e1
 refine⟨⟨q1,fun id h e=>(by rw[q4 id h];exact e),fun id ob h _=>(by rw[q4 id h])⟩,?_⟩
 repeat' with_reducible first
  |simp only[wZZ,seval]
  |(rw[o1];refine And.intro rfl ?_)
  |refine cq2 hre qb qb ?_
  |refine t_ ?_
 refine qfM rfl rfl ((qwQ htl d3 d1 q3 hdo hdl hrr).mono ?_)
 rintro v2 H2 n2 ⟨p1,p2,⟨es2,p3,p4⟩,p5⟩
 subst p2
 have p1:n1≤n2:=p1
 have o2:H2 0=some (.own 5 [g.V] false):=(p5 0 (show 0<n1 by omega) (by omega)).trans o1
 refine⟨keepG p1 d1 p3 p5,?_⟩
 repeat' with_reducible first
  |simp only[wZZ,seval]
  |(rw[o2];refine And.intro rfl ?_)
  |refine cq2 hin qb qb ?_
  |refine t_ ?_
 refine qfM rfl rfl ((qwQ htl (Nat.lt_of_lt_of_le d3 p1) p3 p4 hgo.1 (hgo.2.trans hdl) hir).mono ?_)
 rintro v3 H3 n3 ⟨r1,r2,⟨es3,r3,r4⟩,r5⟩
 subst r2
 refine⟨keepG r1 p3 r3 r5,?_⟩
 repeat' with_reducible first
  |refine qe3 ?_
 refine qw rfl (Or.inr rfl) ?_
 (simp only[wL,seval])
 exact r4.er r3 (Yq (E:=E) hM hg).2

abbrev qjl (f:List (List Int)):List Int→Int→List Int:=fun l b=>joinL l (f.getD b.toNat [])
abbrev qdT (g:Grammar) (m:List Sta) (f:List (List Int)) (q:Nat) (p:Int):Lk:={st:=q,pr:=p,tk:=(XY g m q p).foldl (qjl f) []}
def qdM (g:Grammar) (m:List Sta) (f:List (List Int)) (n:Nat):List Lk:=(List.range n).flatMap fun(q:Nat)=>(yF g (qJ m q)).map (qdT g m f q)
theorem YK (g:Grammar) (m:List Sta) (f:List (List Int)) (n:Nat):qdM g m f (n+1)=qdM g m f n++(yF g (qJ m n)).map (qdT g m f n):=by
 unfold qdM;rw[List.range_succ,List.flatMap_append];simp
theorem qbQ {f:List (List Int)} (hf:yX f): ∀(b l:List Int),j4 l→j4 (b.foldl (qjl f) l)
 |[],l,h=>h
 |a::b,l,h=>qbQ hf b _ (h.join (hf.getD _))
theorem qa2 {g:Grammar} (hg:GOk g) {k:List Int} (hx: ∀x∈k,Zb g x) (hr:jU k): ∀p∈yF g k,∃n:Nat,p=n∧1≤n∧n<g.prods.length:=by
 intro p hp
 unfold yF at hp
 obtain ⟨_,hok,_⟩:=zJ hg hx hr
 rw[List.mem_filterMap]at hp
 obtain ⟨x,h1,h2⟩:=hp
 obtain ⟨a,d,pr,ha,hd,hpr,hdl,hn⟩:=(hok x h1).nat
 split at h2
 · rename_i h3
   have hap:=(List.getElem?_eq_some_iff.1 hpr).1
   cases h2
   exact⟨a,ha,by omega,hap⟩
 · cases h2
theorem qaX {g:Grammar} (hg:GOk g) {k:List Int} (hx: ∀x∈k,Zb g x) (hr:jU k):(yF g k).length≤960:=by
 obtain ⟨_,hok,hcb⟩:=zJ hg hx hr
 unfold yF
 exact Nat.le_trans (List.length_filterMap_le _ _) hcb
theorem qfF {g:Grammar} {m:List Sta} {q p:Int}: ∀x∈XY g m q p,∃n:Nat,x=n∧n<(qx m).length:=by
 intro x hx
 unfold XY at hx
 rw[List.mem_map]at hx
 obtain ⟨n,hn,rfl⟩:=hx
 exact⟨n,rfl,List.mem_range.1 (List.mem_filter.1 hn).1⟩
theorem Gr.ne {H:Nat→Option MObj} {next z D:Nat} {es:List V} {v:V} (h:Gr H next z es v) {sz:Nat} {l:List V} {ro:Bool} (ho:H D=some (.own sz l ro)) {x:Nat} (hx:gid v=some x):x≠D:=by
 rcases h with rfl|⟨id,fin,rfl,h1,_⟩
 · cases hx
 · cases hx;intro e;rw[e,ho]at h1;cases h1
theorem Yd {g:Grammar} {m:List Sta} {E:Nat→Bool} (hM:MOk g m) (hg:GOk g) (hE:IsGrow g false E) (hne:qx m≠[]):Pure Try.prog 24 [g.V,.sl 2 false (m.map Sta.V)] (.sl 3 false ((Q7 g E m).map Lk.V)):=by
 refine pure_intro Try.func24 qEb qBO (by show 2≤87;decide) ?_
 show ewp _ qja _ _
 have hml:=hM.len;have hmv:=hM.mvl
 have hfo:=Jl hM hg hE hne
 obtain ⟨hO,hOl⟩:=Yq (E:=E) hM hg
 have hdef:Q7 g E m=qdM g m (xI g E m) m.length:=rfl
 rw[hdef]
 generalize xI g E m=f at *
 repeat' with_reducible first
  |refine s_ ?_
  |simp only[wZZ,seval]
  |refine cq2 hfo qb qb ?_
  |refine t_ ?_
 refine qd ?nx1 (fun(q:Nat) s=>s.f 1=?v1_1∧s.f 2=?v1_2∧s.f 5=?v1_5∧s.H 0=some (.own 5 [g.V] false)∧s.f 7=vi q∧(q≤m.length)∧((qdM g m f q).length≤q *960)∧((∃v es,s.f 6=v∧Gr s.H s.next 3 es v∧QG es ((qdM g m f q).map Lk.V)))) (fun q=>m.length - q) (0) wj_ (by refine⟨?_,?_,?_,?_,?_,wo_,(by exact Nat.zero_le _),(by exact⟨_,[],(by(simp only[wL,seval])<;>rfl),Gr.nil,.nil⟩)⟩<;>first|(simp only[wL,wM,wN,wX,seval,Option.some.injEq]<;>exact wt_)|rfl|exact⟨_,rfl⟩) ?_
 intro q s hnx ⟨g1,g2,g5,o0,g7,k1_0,k1_1,k1_2⟩
 obtain ⟨v6,es,g6,hG6,hE6⟩:=k1_2
 have hz:=w1_ q
 by_cases hq:q<m.length
 · have hgq:m[q]?=some m[q]:=ge_ hq
   have hqm:=List.getElem_mem hq
   have hkr:=hM.kr _ hqm;have hki:=hM.ki _ hqm;have hkl:=hM.kl hg.pl2 _ hqm
   have hen:=Ye hki hkr (by omega) hg
   have hst:=YK g m f q
   have hkA:qJ m q=m[q].ker:=by unfold qJ;rw[hgq];rfl
   have hem:=qa2 hg hki hkr
   have hel:=qaX hg hki hkr
   rw[hkA]at hst
   generalize yF g m[q].ker=U at *
   generalize m[q]=x at *
   obtain ⟨xk,xm⟩:=x
   dsimp only at hen hst
   generalize qdM g m f q=L at *
   repeat' with_reducible first
    |refine s_ ?_
    |simp only[wZZ,seval,g1,g2,g5,g7,o0,hz,g6]
    |apply qa<;>intro h h_<;>(try simp only[wD,reduceCtorEq]at h_)<;>(try exact wb_)<;>(try simp only[h])
    |refine t_ ?_
    |refine cq2 hen qb qb ?_
   refine qd ?nx2 (fun(i:Nat) s=>s.f 1=?v2_1∧s.f 2=?v2_2∧s.f 5=?v2_5∧s.f 7=?v2_7∧s.f 8=?v2_8∧s.H 0=some (.own 5 [g.V] false)∧s.f 9=vi i∧(i≤U.length)∧((∃v es,s.f 6=v∧Gr s.H s.next 3 es v∧QG es ((L++(U.take i).map (qdT g m f q)).map Lk.V)))) (fun i=>U.length - i) (0) wj_ (by refine⟨?_,?_,?_,?_,?_,?_,?_,wo_,(by exact⟨v6,es,(by(simp only[wL,seval]);exact g6),hG6.mono (by((try simp only[wN])<;>omega)) (fun _ _ _=>rfl),by rw[List.take_zero,List.map_nil,List.append_nil];exact hE6⟩)⟩<;>first|(simp only[wL,wM,wN,wX,seval,Option.some.injEq,g1,g2,g5,g7,o0]<;>exact wt_)|rfl|exact⟨_,rfl⟩) ?_
   intro i s hnx ⟨g1,g2,g5,g7,g8,o0,g9,k2_0,k2_1⟩
   obtain ⟨v7,es7,gg,hG7,hE7⟩:=k2_1
   have hzi:=w1_ i
   by_cases hi:i<U.length
   · have hgi:U[i]?=some U[i]:=ge_ hi
     obtain ⟨n,hn,hn1,hn2⟩:=hem _ (List.getElem_mem hi)
     have htk:(U.take (i+1)).map (qdT g m f q)=(U.take i).map (qdT g m f q)++[qdT g m f q U[i]]:=by rw[List.take_add_one,hgi,List.map_append];rfl
     have hbk:=XP (g:=g) (m:=m) (q:=q) (n:=n) hg (by omega) (fun q h=>by have:=hmv q h;omega) hq hn1 hn2
     rw[hn]at hgi htk
     have hbm:=qfF (g:=g) (m:=m) (q:=q) (p:=n)
     have htl:=hM.trans_len
     have hbl:(XY g m q n).length≤9600:=by
      unfold XY
      rw[List.length_map]
      exact Nat.le_trans (List.length_filter_le _ _) (by rw[List.length_range];exact htl)
     have hlk:qdT g m f q n={st:=q,pr:=n,tk:=(XY g m q n).foldl (qjl f) []}:=rfl
     rw[hlk]at htk
     generalize XY g m q n=B at *
     obtain ⟨D,hD⟩: ∃D,D=s.next+4+6:=⟨_,rfl⟩
     repeat' with_reducible first
      |refine s_ ?_
      |simp only[wZZ,seval,g1,g2,g5,g7,g8,g9,o0,hzi,gg]
      |apply qa<;>intro h h_<;>(try simp only[wD,reduceCtorEq]at h_)<;>(try exact wb_)<;>(try simp only[h])
      |refine t_ ?_
      |refine cq4 hbk qb qb qb qb ?_
     refine qd ?nx3 (fun(k:Nat) s=>s.f 1=?v3_1∧s.f 2=?v3_2∧s.f 5=?v3_5∧s.f 7=?v3_7∧s.f 8=?v3_8∧s.f 9=?v3_9∧s.f 11=?v3_11∧s.H 0=some (.own 5 [g.V] false)∧s.f 12=vi k∧(k≤B.length)∧(D<s.next)∧(Gr s.H s.next 3 es7 v7)∧((∃c,s.H D=some (.own 3 [V.agg [vi q,vi n,.sl 1 c (((B.take k).foldl (qjl f) []).map (V.int .i64))]] false)))∧(s.f 10=.ptr D 0 0)∧(s.f 6=v7)) (fun k=>B.length - k) (0) wj_ (by refine⟨?_,?_,?_,?_,?_,?_,?_,?_,?_,wo_,(by((try simp only[wN])<;>omega)),(by exact hG7.mono (by((try simp only[wN])<;>omega)) (fun j h1 h2=>by((try simp only[wM]);(repeat first|rw[if_pos trivial]|rw[if_pos rfl]|rw[if_neg (by omega)])))),(by exact⟨true,by rw[hD];(simp only[wM];(repeat first|rw[if_pos trivial]|rw[if_pos rfl]|rw[if_neg (by omega)]))<;>rfl⟩),(by(try simp only[wL,wM,wN,seval,g1,g2,g5,g7,g8,g9,o0]);first|done|rw[hD]),(by(try simp only[wL,wM,wN,seval,g1,g2,g5,g7,g8,g9,o0]);first|done|rfl|exact gg)⟩<;>first|(simp only[wL,wM,wN,wX,seval,Option.some.injEq,g1,g2,g5,g7,g8,g9,o0]<;>exact wt_)|rfl|exact⟨_,rfl⟩) ?_
     intro k s hnx ⟨g1,g2,g5,g7,g8,g9,g11,o0,g12,k3_0,k3_1,k3_2,k3_3,g10,g6⟩
     obtain ⟨c3,o3⟩:=k3_3
     have hzk:=w1_ k
     by_cases hk:k<B.length
     · have hgk:B[k]?=some B[k]:=ge_ hk
       obtain ⟨b,hb,hb2⟩:=hbm _ (List.getElem_mem hk)
       have hst3:=zY (qjl f) [] hgk
       have hgf:f[b]?=some f[b]:=ge_ (by omega)
       have hSo:=hO _ (List.mem_of_getElem? hgf)
       have hU3:=qbQ hO (B.take k) [] Jd
       rw[hb]at hgk hst3
       have hfD:f.getD ((b:Int)).toNat []=f[b]:=by rw[show ((b:Int)).toNat=b from rfl,List.getD,hgf];rfl
       simp only[qjl,hfD,joinL]at hst3
       generalize f[b]=S at *
       generalize hU3e:(B.take k).foldl (qjl f) []=U3 at *
       repeat' with_reducible first
        |refine s_ ?_
        |simp only[wZZ,seval,g1,g2,g5,g7,g8,g9,g11,g12,g10,g6,o0,hzk]
        |apply qa<;>intro h h_<;>(try simp only[wD,reduceCtorEq]at h_)<;>(try exact wb_)<;>(try simp only[h])
       refine qd ?nx4 (fun(j:Nat) s=>s.f 1=?v4_1∧s.f 2=?v4_2∧s.f 5=?v4_5∧s.f 7=?v4_7∧s.f 8=?v4_8∧s.f 9=?v4_9∧s.f 10=?v4_10∧s.f 11=?v4_11∧s.f 12=?v4_12∧s.H 0=some (.own 5 [g.V] false)∧s.f 13=vi j∧(j≤S.length)∧(D<s.next)∧(Gr s.H s.next 3 es7 v7)∧((∃c,s.H D=some (.own 3 [V.agg [vi q,vi n,.sl 1 c (((S.take j).foldl jw U3).map (V.int .i64))]] false)))∧(s.f 6=v7)) (fun j=>S.length - j) (0) wj_ (by refine⟨?_,?_,?_,?_,?_,?_,?_,?_,?_,?_,?_,wo_,(by((try simp only[wN])<;>omega)),(by exact k3_2.mono (by((try simp only[wN])<;>omega)) (fun j h1 h2=>by((try simp only[wM]);(repeat first|rw[if_pos trivial]|rw[if_pos rfl]|rw[if_neg (by omega)])))),(by exact⟨c3,by((try simp only[wM]);(repeat first|rw[if_pos trivial]|rw[if_pos rfl]|rw[if_neg (by omega)]));exact o3⟩),(by(try simp only[wL,wM,wN,seval,g1,g2,g5,g7,g8,g9,g11,g12,g10,g6,o0]);first|done|rfl|assumption)⟩<;>first|(simp only[wL,wM,wN,wX,seval,Option.some.injEq,g1,g2,g5,g7,g8,g9,g11,g12,g10,g6,o0]<;>exact wt_)|rfl|exact⟨_,rfl⟩) ?_
       intro j s hnx ⟨g1,g2,g5,g7,g8,g9,g10,g11,g12,o0,g13,k4_0,k4_1,k4_2,k4_3,g6⟩
       obtain ⟨c4,o4⟩:=k4_3
       have hSl:=hSo.len
       have hzj:=w1_ j
       by_cases hj:j<S.length
       · have hgj:S[j]?=some S[j]:=ge_ hj
         have hst4:=zY jw U3 hgj
         have hUl:=(hU3.join (hSo.take j)).len
         generalize (S.take j).foldl jw U3=W at *
         generalize S[j]=y at *
         have hput:=zH (l:=W) (x:=y) (by omega)
         repeat' with_reducible first
          |refine s_ ?_
          |simp only[wZZ,seval,g1,g2,g5,g7,g8,g9,g10,g11,g12,g13,g6,o0,hzj,o4]
          |apply qa<;>intro h h_<;>(try simp only[wD,reduceCtorEq]at h_)<;>(try exact wb_)<;>(try simp only[h])
          |refine t_ ?_
          |refine cq2 hput jy qb ?_
          |simp(disch:=omega) only[w64,if_neg]
         exact⟨by((try simp only[wN])<;>omega),j+1,by omega,trivial,trivial,trivial,trivial,trivial,trivial,trivial,trivial,trivial,trivial,rfl,by omega,by((try simp only[wN])<;>omega),k4_2.mono (by((try simp only[wN])<;>omega)) (fun x h1 h2=>by have:=Gr.ne k4_2 o4 h1;((try simp only[wM]);(repeat first|rw[if_pos trivial]|rw[if_pos rfl]|rw[if_neg (by omega)]))),⟨_,by rw[hst4]⟩,trivial⟩
       · have e:S.take j=S:=List.take_of_length_le (by omega)
         rw[e]at o4
         repeat' with_reducible first
          |refine s_ ?_
          |simp only[wZZ,seval,g1,g2,g5,g7,g8,g9,g10,g11,g12,g13,g6,o0,hzk,o4]
          |apply qa<;>intro h h_<;>(try simp only[wD,reduceCtorEq]at h_)<;>(try exact wb_)<;>(try simp only[h])
          |refine t_ ?_
         exact⟨by((try simp only[wN])<;>omega),k+1,by omega,trivial,trivial,trivial,trivial,trivial,trivial,trivial,trivial,rfl,by omega,by((try simp only[wN])<;>omega),k4_2.mono (by((try simp only[wN])<;>omega)) (fun _ _ _=>rfl),⟨c4,by rw[hst3]⟩,trivial,trivial⟩
     · have e:B.take k=B:=List.take_of_length_le (by omega)
       rw[e]at o3
       have hel7:es7.length=_:=hE7.len.symm
       rw[List.length_map,List.length_append,List.length_map,List.length_take]at hel7
       skip
       repeat' with_reducible first
        |refine s_ ?_
        |simp only[wZZ,seval,g1,g2,g5,g7,g8,g9,g11,g12,g10,g6,o0,hzi,o3]
        |apply qa<;>intro h h_<;>(try simp only[wD,reduceCtorEq]at h_)<;>(try exact wb_)<;>(try simp only[h])
        |apply qQ rfl (k3_2.mono (Nat.le_refl _) (fun id h1 h2=>by(try simp only[wM]);(repeat rw[if_neg (by omega)])));(focus(first|exact qI.sl|exact qI.asl));(focus(simp only[wZ,hel7];omega));(focus(unfold maxLen;simp only[wZ,hel7];omega))
        |refine t_ ?_
       exact⟨by((try simp only[wN])<;>omega),i+1,by omega,trivial,trivial,trivial,trivial,trivial,k3_2.dropO o0,rfl,by omega,_,_,rfl,Gr.tok (id:=s.next+4+3) (fin:=es7.length+1) (by((try simp only[wM]);(repeat first|rw[if_pos trivial]|rw[if_pos rfl]|rw[if_neg (by omega)]))) (by((try simp only[wN])<;>omega)),by rw[htk,← List.append_assoc,List.map_append];exact hE7.snoc (ErL.agg (.cons (.int _ _) (.cons (.int _ _) (.cons jy .nil))))⟩
   · have e:U.take i=U:=List.take_of_length_le (by omega)
     rw[e,← hst]at hE7
     skip
     repeat' with_reducible first
      |refine s_ ?_
      |simp only[wZZ,seval,g1,g2,g5,g7,g8,g9,o0,hz,gg]
      |apply qa<;>intro h h_<;>(try simp only[wD,reduceCtorEq]at h_)<;>(try exact wb_)<;>(try simp only[h])
     exact⟨by((try simp only[wN])<;>omega),q+1,by omega,trivial,trivial,trivial,trivial,rfl,by omega,by rw[hst,List.length_append,List.length_map];omega,v7,es7,rfl,hG7.mono (by((try simp only[wN])<;>omega)) (fun _ _ _=>rfl),hE7⟩
 · have e:q=m.length:=by omega
   subst e
   skip
   repeat' with_reducible first
    |refine s_ ?_
    |simp only[wZZ,seval,g1,g2,g5,g7,o0,g6]
   refine qw rfl (Or.inr rfl) ?_
   (simp only[wL,seval])
   exact hG6.erL hE6.up
end Go.Proofs
