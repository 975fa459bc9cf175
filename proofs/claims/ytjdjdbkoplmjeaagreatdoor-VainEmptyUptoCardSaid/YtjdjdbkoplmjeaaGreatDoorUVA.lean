/- Part of a proof that a law of the given program answers true. -/
import Derived.Test.YtjdjdbkoplmjeaaGreatDoorUKA
import Derived.Test.YtjdjdbkoplmjeaaGreatDoorXEC
import Derived.Test.YtjdjdbkoplmjeaaGreatDoorUTA
import Derived.Test.YtjdjdbkoplmjeaaGreatDoorUPA
set_option linter.unusedSimpArgs false
set_option linter.unusedVariables false
set_option maxHeartbeats 4000000
set_option maxRecDepth 20000
namespace Go.Proofs
open Go.E
def kR (n:Nat) (h:Nat→Bool) (so:Bool):List Int:=((List.range n).filter fun k=>h k == so).map fun(k:Nat)=>(1000+(k:Int))
theorem qaV (n:Nat) (h:Nat→Bool) (so:Bool):kR (n+1) h so=kR n h so++(if h n=so then[1000+(n:Int)]else[]):=by
 unfold kR
 rw[List.range_succ,List.filter_append,List.map_append]
 by_cases e:h n=so
 · simp[e]
 · simp[e]
theorem qcN (n:Nat) (h:Nat→Bool) (so:Bool):(kR n h so).length≤n:=by
 unfold kR;rw[List.length_map];exact Nat.le_trans (List.length_filter_le _ _) (by simp)
theorem Yj {n:Nat} {h:Nat→Bool} {so:Bool} (hn:n≤1000000):Pure Tryz.prog 36 [.sl 1 false (xX n h),.bool so] (.sl 1 false ((kR n h so).map (V.int .i64))):=by
 refine pure_intro Tryz.func36 qC4 qze (by show 2≤25;decide) ?_
 show ewp _ qhY _ _
 have hbl:=yj n h
 repeat' with_reducible first
  |refine s_ ?_
  |simp -implicitDefEqProofs only[wZZ,seval,hbl]
 refine qf ?nx1 (fun(i:Nat) s=>s.f 1=?v1_1∧s.f 8=?v1_8∧s.f 9=?v1_9∧(∃v,s.f 5=v∧Gr s.H s.next 1 ((kR i h so).map (V.int .i64)) v)∧s.f 10=vi i∧(i≤n)) (fun i=>n - i) (0) wj_ (by refine⟨?_,?_,?_,?_,?_,wo_⟩<;>first|(simp -implicitDefEqProofs only[wL,wM,wN,wX,seval,Option.some.injEq]<;>exact wt_)|rfl|exact⟨_,rfl⟩) ?_
 intro i s hnx ⟨g1,g8,g9,⟨v5,g5,G5⟩,g10,k1_0⟩
 have hz:=w1_ i
 by_cases hi:i<n
 · have hbg:=jV (h:=h) hi
   have hsu:=qaV i h so
   have hz2:IntKind.i64.wrap (1000+(i:Int))=1000+(i:Int):=wrap64 o_ o_
   have hln:=qcN i h so
   by_cases he:h i=so
   · rw[if_pos he]at hsu
     have e1:(h i == so)=true:=by simp[he]
     repeat' with_reducible first
      |refine s_ ?_
      |simp -implicitDefEqProofs only[wZZ,seval,g1,g8,g9,g5,g10,hz,hz2,e1,G5.len]
      |apply qc<;>intro h h_<;>(try simp only[wD,reduceCtorEq]at h_)<;>(try exact wb_)<;>(try simp only[h])
      |(apply jw (Zt o_ (by with_unfolding_all exact hbg)))
      |apply za (hg:=G5);(focus(first|rfl|(simp -implicitDefEqProofs only[wM];done)));(focus(first|exact qZ.sl|exact qZ.asl|exact qZ.gr G5|exact qZ.str));exact wf_;(focus(unfold maxLen;first|omega|(simp only[wZ]<;>omega)))
     refine⟨wk_,i+1,o_,?_⟩
     refine⟨?_,?_,?_,?_,?_,?_⟩
     iterate 5 (focus(first|(simp -implicitDefEqProofs only[wL,wM,wN,wX,seval,Option.some.injEq,g1,g8,g9,g5,g10,hsu]<;>first|rfl|exact⟨_,rfl⟩|exact⟨_,rfl,by first|assumption|exact Gr.nil|exact Gr.tok rfl o_|exact Gr.tok (by simp -implicitDefEqProofs only[wM,seval]<;>rfl) o_|exact Gr.clip|exact G5.to (by first|rfl|(simp[*];done)) o_ rfl⟩)|rfl|exact⟨_,rfl⟩))
     all_goals try omega
   · rw[if_neg he,List.append_nil]at hsu
     have e1:(h i == so)=false:=by simp[he]
     repeat' with_reducible first
      |refine s_ ?_
      |simp -implicitDefEqProofs only[wZZ,seval,g1,g8,g9,g5,g10,hz,hz2,e1,G5.len]
      |apply qc<;>intro h h_<;>(try simp only[wD,reduceCtorEq]at h_)<;>(try exact wb_)<;>(try simp only[h])
      |(apply jw (Zt o_ (by with_unfolding_all exact hbg)))
     refine⟨wk_,i+1,o_,?_⟩
     refine⟨?_,?_,?_,?_,?_,?_⟩
     iterate 5 (focus(first|(simp -implicitDefEqProofs only[wL,wM,wN,wX,seval,Option.some.injEq,g1,g8,g9,g5,g10,hsu]<;>first|rfl|exact⟨_,rfl⟩|exact⟨_,rfl,by first|assumption|exact Gr.nil|exact Gr.tok rfl o_|exact Gr.tok (by simp -implicitDefEqProofs only[wM,seval]<;>rfl) o_|exact Gr.clip|exact G5.to (by first|rfl|(simp[*];done)) o_ rfl⟩)|rfl|exact⟨_,rfl⟩))
     all_goals try omega
 · have e:i=n:=o_
   subst e
   repeat' with_reducible first
    |refine s_ ?_
    |simp -implicitDefEqProofs only[wZZ,seval,g1,g8,g9,g5,g10,G5.len]
   all_goals refine qA rfl (Or.inr rfl) ?_
   all_goals(try simp -implicitDefEqProofs only[wL,seval,g1,g8,g9,g5,g10])
   all_goals(first|refine er_ ?_ |refine G5.er ?_)
   all_goals(try(with_reducible rfl))
theorem VI {g:Grammar} {E:Nat→Bool} (hg:GOk g) (hp:Pure Tryz.prog 37 [g.V,.bool false] (.sl 1 false (xX g.nons.length E))):Pure Tryz.prog 11 [g.V] (.sl 1 false ((kR g.nons.length E true).map (V.int .i64))):=by
 refine pure_intro Tryz.func11 qAO qtp (by show 1≤6;decide) ?_
 show ewp _ qzn _ _
 have hnl:=hg.nn2
 have hwh:=Yj (n:=g.nons.length) (h:=E) (so:=true) o_
 have h1:=JR g.nons.length E
 repeat' with_reducible first
  |refine s_ ?_
  |simp -implicitDefEqProofs only[wZZ,seval]
  |refine cq2 hp qm qm ?_
  |refine cq2 hwh qm qm ?_
  |refine t_ ?_
 all_goals refine qA rfl (Or.inr rfl) ?_
 all_goals(try simp -implicitDefEqProofs only[wL,seval])
 all_goals refine er_ ?_
 all_goals(try(with_reducible rfl))
theorem Kt {g:Grammar} {E:Nat→Bool} (hp:Pure Tryz.prog 37 [g.V,.bool false] (.sl 1 false (xX g.nons.length E))):Pure Tryz.prog 41 [g.V] (.sl 1 false (xX g.nons.length E)):=by
 refine pure_intro Tryz.func41 qDy qqi (by show 1≤5;decide) ?_
 show ewp _ qrC _ _
 have h1:=JR g.nons.length E
 repeat' with_reducible first
  |refine s_ ?_
  |simp -implicitDefEqProofs only[wZZ,seval]
  |refine cq2 hp qm qm ?_
  |refine t_ ?_
 refine qA rfl (Or.inr rfl) ?_
 (simp -implicitDefEqProofs only[wL,seval])
 exact qm
theorem IsGrow.rules {g:Grammar} {token:Bool} {E:Nat→Bool} (h:IsGrow g token E) (k:Nat):E k=true↔ ∃p∈g.prods,p.left.toNat=k∧qW token E p.right=true:=by
 constructor
 · intro hk
   let F:Nat→Bool:=fun k=>g.prods.any fun p=>decide (p.left.toNat=k) && qW token E p.right
   have hFS: ∀k,F k=true→E k=true:=fun k hf=>by
    obtain ⟨p,hp,h2⟩:=List.any_eq_true.1 hf
    rw[Bool.and_eq_true,decide_eq_true_eq]at h2
    rw[← h2.1];exact h.closed p hp h2.2
   have hF:yw g token F:=fun p hp hy=>List.any_eq_true.2 ⟨p,hp,by
    rw[Bool.and_eq_true,decide_eq_true_eq]
    exact⟨rfl,Qi hFS hy⟩⟩
   obtain ⟨p,hp,h2⟩:=List.any_eq_true.1 (h.least F hF k hk)
   rw[Bool.and_eq_true,decide_eq_true_eq]at h2
   exact⟨p,hp,h2.1,h2.2⟩
 · rintro ⟨p,hp,rfl,h2⟩
   exact h.closed p hp h2

structure GT (H:Nat→Option MObj) (next:Nat) (L:List (List Int)) (es:List V):Prop where
 len:es.length=L.length
 gr: ∀(k:Nat) l v,L[k]?=some l→es[k]?=some v→Gr H next 1 (l.map (V.int .i64)) v
 sep: ∀(i j:Nat) v w,i≠j→es[i]?=some v→es[j]?=some w→Sep v w
theorem GT.get {H:Nat→Option MObj} {next:Nat} {L:List (List Int)} {es:List V} (h:GT H next L es) {k:Nat} {l:List Int} (hl:L[k]?=some l): ∃v,es[k]?=some v∧Gr H next 1 (l.map (V.int .i64)) v:=by
 have hk:k<es.length:=by rw[h.len];exact(List.getElem?_eq_some_iff.1 hl).1
 exact⟨_,ge_ hk,h.gr k l _ hl (ge_ hk)⟩
theorem Gr.tokAt {H:Nat→Option MObj} {next z:Nat} {es:List V} {v:V} (h:Gr H next z es v) {j:Nat} (e:gid v=some j): ∃fin,H j=some (.tok fin):=by
 rcases h with rfl|⟨id,fin,rfl,h1,_⟩
 · cases e
 · cases e;exact⟨fin,h1⟩
theorem Gr.fl3 {H:Nat→Option MObj} {next z:Nat} {es:List V} {v:V} (h:Gr H next z es v):v.isAgg=false:=by rcases h with rfl|⟨id,fin,rfl,_⟩<;>rfl
theorem GT.mono {H H':Nat→Option MObj} {next next':Nat} {L:List (List Int)} {es:List V} (h:GT H next L es) (hn:next≤next') (hH: ∀j,j<next→(∃fin,H j=some (.tok fin))→H' j=H j):GT H' next' L es:=
 ⟨h.len,fun k l v h1 h2=>(h.gr k l v h1 h2).mono hn fun j hj hl=>hH j hl (Gr.tokAt (h.gr k l v h1 h2) hj),h.sep⟩
theorem GT.new (H:Nat→Option MObj) (next n:Nat):GT H next (List.replicate n []) (List.replicate n (.sl 1 true [])):=by
 refine⟨by simp,fun k l v h1 h2=>?_,fun i j v w _ h1 h2=>?_⟩
 · have e1:=List.mem_replicate.1 (List.mem_of_getElem? h1)
   have e2:=List.mem_replicate.1 (List.mem_of_getElem? h2)
   rw[e1.2,e2.2];exact Gr.nil
 · have e1:=List.mem_replicate.1 (List.mem_of_getElem? h1)
   rw[e1.2];exact Sep.slL
theorem GT.put {H H':Nat→Option MObj} {next next':Nat} {L:List (List Int)} {es:List V} {k:Nat} {v w:V} {l':List Int} (h:GT H next L es) (hk:es[k]?=some v) (hn:next≤next')
 (hH: ∀j,j<next→gid v≠some j→(∃fin,H j=some (.tok fin))→H' j=H j) (hw:Gr H' next' 1 (l'.map (V.int .i64)) w) (hid: ∀j,gid w=some j→next≤j):GT H' next' (L.set k l') (es.set k w):=by
 have hkl:k<es.length:=(List.getElem?_eq_some_iff.1 hk).1
 have hkL:k<L.length:=by rw[← h.len];exact hkl
 have lt: ∀(i:Nat) u j,es[i]?=some u→gid u=some j→j<next:=fun i u j hu hj=>by
  have hi:i<L.length:=by rw[← h.len];exact(List.getElem?_eq_some_iff.1 hu).1
  exact(h.gr i _ u (ge_ hi) hu).lt hj
 refine⟨by simp[h.len],fun i l u h1 h2=>?_,fun i j u u' hij h1 h2=>?_⟩
 · rw[List.getElem?_set]at h1 h2
   by_cases e:k=i
   · rw[if_pos e]at h1 h2
     subst e
     rw[if_pos hkL]at h1;rw[if_pos hkl]at h2
     cases h1;cases h2;exact hw
   · rw[if_neg e]at h1 h2
     refine(h.gr i l u h1 h2).mono hn fun j hj hjn=>hH j hjn (fun hv=>?_) (Gr.tokAt (h.gr i l u h1 h2) hj)
     exact h.sep k i v u e hk h2 j hv hj
 · rw [List.getElem?_set]at h1 h2
   by_cases e:k=i
   · rw[if_pos e,if_pos hkl]at h1
     cases h1
     rw[if_neg o_]at h2
     intro x hx hy
     have a:=hid x hx
     have b:=lt j u' x h2 hy
     omega
   · rw[if_neg e]at h1
     by_cases e2:k=j
     · rw[if_pos e2,if_pos hkl]at h2
       cases h2
       intro x hx hy
       have a:=hid x hy
       have b:=lt i u x h1 hx
       omega
     · rw[if_neg e2]at h2
       exact h.sep i j u u' hij h1 h2
theorem GT.erL {H:Nat→Option MObj} {b:Bool} {H2:Nat→Option MObj} {next:Nat}: ∀{L:List (List Int)} {es:List V},GT H next L es→ErL b H2 es (L.map fun l=>.sl 1 false (l.map (V.int .i64)))
 | [],es,h=>by
   have:es=[]:=List.eq_nil_of_length_eq_zero (by rw[h.len];rfl)
   subst this;exact .nil
 |l::L,[],h=>absurd h.len (by simp)
 |l::L,e::es,h=>.cons ((h.gr 0 l e rfl rfl).er rfl) (GT.erL ⟨by have:=h.len;simpa using this,fun k l v h1 h2=>h.gr (k+1) l v h1 h2,fun i j v w hij h1 h2=>h.sep (i+1) (j+1) v w o_ h1 h2⟩)
theorem GT.ne {H:Nat→Option MObj} {next id z:Nat} {L:List (List Int)} {es xs:List V} {ro:Bool} (h:GT H next L es) (ho:H id=some (.own z xs ro)) {k:Nat} {v:V} (hk:es[k]?=some v):gid v≠some id:=by
 have hi:k<L.length:=by rw[← h.len];exact(List.getElem?_eq_some_iff.1 hk).1
 have g:=h.gr k _ v (ge_ hi) hk
 intro e
 rcases g with rfl|⟨i,f,rfl,h1,_⟩
 · cases e
 · cases e;rw[ho]at h1;cases h1
theorem GT.lit (H:Nat→Option MObj) (next:Nat) (L:List (List Int)):GT H next L (L.map fun l=>.sl 1 true (l.map (V.int .i64))):=by
 refine⟨by simp,fun k l v h1 h2=>?_,fun i j v w _ h1 h2=>?_⟩
 · rw[List.getElem?_map,h1]at h2
   cases h2;exact Gr.clip
 · rw[List.getElem?_map]at h1
   obtain ⟨l,_,rfl⟩:=Option.map_eq_some_iff.1 h1
   exact Sep.slL
theorem GT.lab {H:Nat→Option MObj} {next:Nat} {L:List (List Int)} {es:List V} (h:GT H next L es) (ro:Bool):lab (.own 1 es ro)=2:=by
 cases es with
 |nil=>rfl
 | cons v es=>
   cases L with
   |nil=>exact absurd h.len (by simp)
   | cons l L=>
     have:=h.gr 0 l v rfl rfl
     rcases this with rfl|⟨id,fin,rfl,_⟩<;>rfl
theorem qak {K:V→Prop} {k k' z:Nat} {es:List V} {v:V} {ro:Bool} {o:Option MObj} (ho:o=some (.own z es ro)) (hz:z=1) (e:k=k') (hv:es[k']?=some v) (ha:v.isAgg=false) (hk:K v):onS (ldQ o false 1 k 0) K:=by
 subst ho e hz
 have e:ldQ (some (.own 1 es ro)) false 1 k 0=some v:=by simp[ldQ,hv,jN,ha]
 rw[e];exact hk
theorem qeI {K:St→Prop} {s:St} {k k' id:Nat} {es:List V} {e v:V} {o:Option MObj} (ho:o=some (.own 1 es false)) (ek:k=k') (he:es[k']?=some e) (hea:e.isAgg=false) (h1:v.cells.length=1) (h2:v.okCell=true) (h3:v.isAgg=false)
 (hk:K (s.setO id (some (.own 1 (es.set k' v) false)))):onS (stQ s o 1 id k 0 v) K:=by
 subst ho ek
 have e:stQ s (some (.own 1 es false)) 1 id k 0 v=some (s.setO id (some (.own 1 (es.set k v) false))):=by
  simp[stQ,he,h1,h2,zS,hea,h3]
 rw[e];exact hk
structure GT2 (H:Nat→Option MObj) (next:Nat) (L M:List (List Int)) (es ss:List V):Prop where
 a:GT H next L es
 b:GT H next M ss
 sp: ∀(i j:Nat) v w,es[i]?=some v→ss[j]?=some w→Sep v w
theorem GT2.mono {H H':Nat→Option MObj} {next next':Nat} {L M:List (List Int)} {es ss:List V} (h:GT2 H next L M es ss) (hn:next≤next') (hH: ∀j,j<next→(∃fin,H j=some (.tok fin))→H' j=H j):GT2 H' next' L M es ss:=
 ⟨h.a.mono hn hH,h.b.mono hn hH,h.sp⟩
theorem Sep.symm {v w:V} (h:Sep v w):Sep w v:=fun i a b=>h i b a
theorem GT2.swap {H:Nat→Option MObj} {next:Nat} {L M:List (List Int)} {es ss:List V} (h:GT2 H next L M es ss):GT2 H next M L ss es:=⟨h.b,h.a,fun i j v w h1 h2=>Sep.symm (h.sp j i w v h2 h1)⟩
theorem GT2.putA {H H':Nat→Option MObj} {next next':Nat} {L M:List (List Int)} {es ss:List V} {k:Nat} {v w:V} {l':List Int} (h:GT2 H next L M es ss) (hk:es[k]?=some v) (hn:next≤next')
 (hH: ∀j,j<next→gid v≠some j→(∃fin,H j=some (.tok fin))→H' j=H j) (hw:Gr H' next' 1 (l'.map (V.int .i64)) w) (hid: ∀j,gid w=some j→next≤j):GT2 H' next' (L.set k l') M (es.set k w) ss:=by
 refine⟨h.a.put hk hn hH hw hid,⟨h.b.len,fun i l u h1 h2=>(h.b.gr i l u h1 h2).mono hn fun j hj hjn=>hH j hjn (fun hv=>h.sp k i v u hk h2 j hv hj) (Gr.tokAt (h.b.gr i l u h1 h2) hj),h.b.sep⟩,fun i j u u' h1 h2=>?_⟩
 rw[List.getElem?_set]at h1
 by_cases e:k=i
 · rw[if_pos e]at h1
   split at h1
   · cases h1
     intro x hx hy
     have hj:j<M.length:=by rw[← h.b.len];exact(List.getElem?_eq_some_iff.1 h2).1
     have a:=hid x hx
     have b:=(h.b.gr j _ u' (ge_ hj) h2).lt hy
     omega
   · cases h1
 · rw[if_neg e]at h1
   exact h.sp i j u u' h1 h2
theorem GT2.putB {H H':Nat→Option MObj} {next next':Nat} {L M:List (List Int)} {es ss:List V} {k:Nat} {v w:V} {l':List Int} (h:GT2 H next L M es ss) (hk:ss[k]?=some v) (hn:next≤next')
 (hH: ∀j,j<next→gid v≠some j→(∃fin,H j=some (.tok fin))→H' j=H j) (hw:Gr H' next' 1 (l'.map (V.int .i64)) w) (hid: ∀j,gid w=some j→next≤j):GT2 H' next' L (M.set k l') es (ss.set k w):=
 (GT2.putA h.swap hk hn hH hw hid).swap

def ezP (Z:Nat→Int) (r:List Int):Int:=r.foldl (fun n s=>if Z (s - 1000).toNat<0 then -1 else if 0<n then n+Z (s - 1000).toNat else n) 1
def ezS (has:Nat→Bool) (Z:Nat→Int) (k:Nat) (m:Int) (p:GPr):Int:=
 if p.left=(k:Int)∧qW false has p.right=true∧0≤m then(if ezP Z p.right<0∨3000<ezP Z p.right then -1 else max m (ezP Z p.right))else m
def ezF (P:List GPr) (has cyc:Nat→Bool) (Z:Nat→Int) (k:Nat):Int:=if has k=false then 0 else if cyc k=true then -1 else P.foldl (ezS has Z k) 0
def szF (P:List GPr) (has cyc:Nat→Bool):Nat→Nat→Int
 |0,_=>0
 |f+1,k=>ezF P has cyc (szF P has cyc f) k
def relE (P:List GPr) (has:Nat→Bool) (k:Nat):List Int:=(P.filter fun p=>decide (p.left=(k:Int)) && qW false has p.right).flatMap fun p=>p.right.map fun s=>s - 1000
theorem qf9 {P:List GPr} {has:Nat→Bool} {k:Nat} {p:GPr} {s:Int} (hp:p∈P) (hl:p.left=(k:Int)) (hf:qW false has p.right=true) (hs:s∈p.right):s - 1000∈relE P has k:=by
 unfold relE
 rw[List.mem_flatMap]
 exact⟨p,List.mem_filter.2 ⟨hp,by simp[hl,hf]⟩,List.mem_map.2 ⟨s,hs,rfl⟩⟩
theorem kS {has:Nat→Bool} {r:List Int} (h:qW false has r=true) {s:Int} (hs:s∈r):1000≤s∧has (s - 1000).toNat=true:=by
 have:=List.all_eq_true.1 h s hs
 split at this
 · cases this
 · exact⟨o_,this⟩
def vw (P:List GPr) (n:Nat) (has cyc:Nat→Bool):Prop:= ∀k,k<n→(cyc k=true↔ ∃j,Edge (relE P has) n k j∧Rch (relE P has) n j k)
noncomputable def muE (rel:Nat→List Int) (n k:Nat):Nat:=(List.range n).countP fun x=> @decide (Rch rel n k x) (Classical.propDecidable _)
theorem qaM {rel:Nat→List Int} {n k:Nat} (hk:k<n):0<muE rel n k:=by
 unfold muE
 rw[List.countP_pos_iff]
 exact⟨k,List.mem_range.2 hk,by rw[@decide_eq_true_eq _ (Classical.propDecidable _)];exact .refl k⟩
theorem qhF (rel:Nat→List Int) (n k:Nat):muE rel n k≤n:=Nat.le_trans List.countP_le_length (by simp)
theorem qfe {rel:Nat→List Int} {n k j:Nat} (e:Edge rel n k j) (h: ¬ Rch rel n j k):muE rel n j<muE rel n k:=by
 unfold muE
 refine QK (fun x _ hx=>?_) (i:=k) (List.mem_range.2 e.1) ?_ ?_
 · rw[@decide_eq_true_eq _ (Classical.propDecidable _)]at hx ⊢
   exact(Rch.one e).trans hx
 · exact @decide_eq_false _ (Classical.propDecidable _) h
 · rw[@decide_eq_true_eq _ (Classical.propDecidable _)];exact .refl k
theorem qeD {Z Y:Nat→Int} {r:List Int} (h: ∀s∈r,Z (s - 1000).toNat=Y (s - 1000).toNat):ezP Z r=ezP Y r:=by
 have key: ∀(l:List Int) (a:Int),(∀s∈l,Z (s - 1000).toNat=Y (s - 1000).toNat)→l.foldl (fun n s=>if Z (s - 1000).toNat<0 then -1 else if 0<n then n+Z (s - 1000).toNat else n) a=l.foldl (fun n s=>if Y (s - 1000).toNat<0 then -1 else if 0<n then n+Y (s - 1000).toNat else n) a:=by
  intro l
  induction l with
  |nil=>intro a _;rfl
  | cons s r ih=>
    intro a h
    rw[List.foldl_cons,List.foldl_cons,h s (by simp)]
    exact ih _ (fun x hx=>h x (List.mem_cons_of_mem _ hx))
 exact key r 1 h
theorem Q6 {has:Nat→Bool} {Z Y:Nat→Int} {k:Nat}: ∀{P:List GPr} (m:Int),(∀p∈P,p.left=(k:Int)→qW false has p.right=true→ ∀s∈p.right,Z (s - 1000).toNat=Y (s - 1000).toNat)→P.foldl (ezS has Z k) m=P.foldl (ezS has Y k) m
 |[],m,_=>rfl
 | p::P,m,h=>by
   rw[List.foldl_cons,List.foldl_cons]
   have e:ezS has Z k m p=ezS has Y k m p:=by
    unfold ezS
    by_cases c:p.left=(k:Int)∧qW false has p.right=true∧0≤m
    · rw[if_pos c,if_pos c,qeD (h p (by simp) c.1 c.2.1)]
    · rw[if_neg c,if_neg c]
   rw[e]
   exact Q6 _ fun q hq=>h q (List.mem_cons_of_mem _ hq)
theorem Qb {P:List GPr} {n:Nat} {has:Nat→Bool} (hn: ∀p∈P,∀s∈p.right,s<1000∨ ∃k:Nat,s=1000+(k:Int)∧k<n) {k:Nat} (hk:k<n) {p:GPr} {s:Int} (hp:p∈P) (hl:p.left=(k:Int)) (hf:qW false has p.right=true) (hs:s∈p.right):
 ∃j:Nat,s=1000+(j:Int)∧j<n∧has j=true∧Edge (relE P has) n k j:=by
 obtain ⟨h1,h2⟩:=kS hf hs
 rcases hn p hp s hs with h|⟨j,rfl,hj⟩
 · omega
 · have e:(1000+(j:Int) - 1000).toNat=j:=o_
   rw[e]at h2
   have hm:=qf9 hp hl hf hs
   rw[show 1000+(j:Int) - 1000=(j:Int) by omega]at hm
   exact⟨j,rfl,hj,h2,hk,hj,hm⟩
theorem qbE {P:List GPr} {n:Nat} {has cyc:Nat→Bool} (hn: ∀p∈P,∀s∈p.right,s<1000∨ ∃k:Nat,s=1000+(k:Int)∧k<n) (hc:vw P n has cyc): ∀(m k:Nat),k<n→muE (relE P has) n k≤m→ ∀f f',m≤f→m≤f'→szF P has cyc f k=szF P has cyc f' k
 |0,k,hk,hm,_,_,_,_=>absurd (qaM (rel:=relE P has) hk) o_
 |m+1,k,hk,hm,0,_,h,_=>absurd h o_
 |m+1,k,hk,hm,_,0,_,h=>absurd h o_
 | m + 1,k,hk,hm,f+1,f'+1,h1,h2=>by
   unfold szF ezF
   by_cases e1:has k=false
   · rw[if_pos e1,if_pos e1]
   · rw[if_neg e1,if_neg e1]
     by_cases e2:cyc k=true
     · rw[if_pos e2,if_pos e2]
     · rw[if_neg e2,if_neg e2]
       refine Q6 _ fun p hp hl hf s hs=>?_
       obtain ⟨j,rfl,hj,_,he⟩:=Qb hn hk hp hl hf hs
       have e:(1000+(j:Int) - 1000).toNat=j:=o_
       rw[e]
       have hlt:=qfe he (fun h=>e2 ((hc k hk).2 ⟨j,he,h⟩))
       exact qbE hn hc m j hj o_ f f' o_ o_
def szE (P:List GPr) (n:Nat) (has cyc:Nat→Bool):Nat→Int:=szF P has cyc n
theorem YG {P:List GPr} {n:Nat} {has cyc:Nat→Bool} (hn: ∀p∈P,∀s∈p.right,s<1000∨ ∃k:Nat,s=1000+(k:Int)∧k<n) (hc:vw P n has cyc) {k:Nat} (hk:k<n):szE P n has cyc k=ezF P has cyc (szE P n has cyc) k:=
 qbE hn hc n k hk (qhF _ _ _) n (n+1) (Nat.le_refl _) o_
theorem qa3 {has:Nat→Bool} {Z:Nat→Int} {k:Nat}: ∀{P:List GPr} {m:Int},-1≤m→m≤3000→ -1≤P.foldl (ezS has Z k) m∧P.foldl (ezS has Z k) m≤3000
 |[],m,h1,h2=>⟨h1,h2⟩
 | p ::P,m,h1,h2=>by
   rw[List.foldl_cons]
   have: -1≤ezS has Z k m p∧ezS has Z k m p≤3000:=by
    unfold ezS
    split
    · split
      · omega
      · omega
    · exact⟨h1,h2⟩
   exact qa3 this.1 this.2
theorem qny (P:List GPr) (has cyc:Nat→Bool) (Z:Nat→Int) (k:Nat): -1≤ezF P has cyc Z k∧ezF P has cyc Z k≤3000:=by
 unfold ezF
 split
 · omega
 · split
   · omega
   · exact qa3 o_ o_
theorem qnk {P:List GPr} {n:Nat} {has cyc:Nat→Bool} (k:Nat): -1≤szE P n has cyc k∧szE P n has cyc k≤3000:=by
 unfold szE
 cases n with
 |zero=>simp[szF]
 |succ n=>exact qny P has cyc _ k
structure EI (n:Nat) (Z:Nat→Int) (D Q:Nat→Prop) (sz:Nat→Int) (op:Nat→Bool):Prop where
 op: ∀k,k<n→(op k=true↔D k∨Q k)
 dn: ∀k,D k→sz k=Z k
 un: ∀k,¬ D k→sz k=0

def KA (f:Nat→List Int) (k:Nat) (x:Int):Nat→List Int:=fun i=>if i=k then f i++[x]else f i
def ZC (k:Nat) (q:(Nat→List Int)×(Nat→List Int)) (s:Int):(Nat→List Int)×(Nat→List Int):=if 1000≤s then(KA q.1 k (s - 1000),q.2)else(q.1,KA q.2 k s)
def Qw (P:List GPr) (q:(Nat→List Int)×(Nat→List Int)):(Nat→List Int)×(Nat→List Int):=P.foldl (fun q p=>p.right.foldl (ZC p.left.toNat) q) q
def kg (t:Nat):(Nat→List Int)×(Nat→List Int):=(fun _=>[],fun k=>[((t+k:Nat):Int)])
theorem qbO {f:Nat→List Int} {k i:Nat} {x y:Int}:y∈KA f k x i↔y∈f i∨i=k∧y=x:=by
 unfold KA
 split
 · rename_i h;simp[h]
 · rename_i h;simp[h]
theorem qb6 {k:Nat}: ∀{l:List Int} {q:(Nat→List Int)×(Nat→List Int)} {i:Nat} {y:Int},(y∈(l.foldl (ZC k) q).1 i↔y∈q.1 i∨i=k∧0≤y∧y+1000∈l)∧(y∈(l.foldl (ZC k) q).2 i↔y∈q.2 i∨i=k∧y<1000∧y∈l)
 |[],q,i,y=>by simp
 | s ::l,q,i,y=>by
   rw[List.foldl_cons]
   have ih:= @qb6 k l (ZC k q s) i y
   rw[ih.1,ih.2]
   by_cases h:1000≤s
   · have e:ZC k q s=(KA q.1 k (s - 1000),q.2):=if_pos h
     rw[e]
     dsimp only
     rw[qbO,List.mem_cons,List.mem_cons]
     constructor
     · constructor
       · rintro ((h1|⟨h1,h2⟩)|⟨h1,h2,h3⟩)
         · exact Or.inl h1
         · exact Or.inr ⟨h1,o_,Or.inl o_⟩
         · exact Or.inr ⟨h1,h2,Or.inr h3⟩
       · rintro (h1|⟨h1,h2,h3|h3⟩)
         · exact Or.inl (Or.inl h1)
         · exact Or.inl (Or.inr ⟨h1,o_⟩)
         · exact Or.inr ⟨h1,h2,h3⟩
     · constructor
       · rintro (h1|⟨h1,h2,h3⟩)
         · exact Or.inl h1
         · exact Or.inr ⟨h1,h2,Or.inr h3⟩
       · rintro (h1|⟨h1,h2,h3|h3⟩)
         · exact Or.inl h1
         · omega
         · exact Or.inr ⟨h1,h2,h3⟩
   · have e:ZC k q s=(q.1,KA q.2 k s):=if_neg h
     rw[e]
     dsimp only
     rw[qbO,List.mem_cons,List.mem_cons]
     constructor
     · constructor
       · rintro (h1|⟨h1,h2,h3⟩)
         · exact Or.inl h1
         · exact Or.inr ⟨h1,h2,Or.inr h3⟩
       · rintro (h1|⟨h1,h2,h3|h3⟩)
         · exact Or.inl h1
         · omega
         · exact Or.inr ⟨h1,h2,h3⟩
     · constructor
       · rintro ((h1|⟨h1,h2⟩)|⟨h1,h2,h3⟩)
         · exact Or.inl h1
         · exact Or.inr ⟨h1,o_,Or.inl o_⟩
         · exact Or.inr ⟨h1,h2,Or.inr h3⟩
       · rintro (h1|⟨h1,h2,h3|h3⟩)
         · exact Or.inl (Or.inl h1)
         · exact Or.inl (Or.inr ⟨h1,o_⟩)
         · exact Or.inr ⟨h1,h2,h3⟩
theorem Zq: ∀{P:List GPr} {q:(Nat→List Int)×(Nat→List Int)} {i:Nat} {y:Int},(y∈(Qw P q).1 i↔y∈q.1 i∨ ∃p∈P,i=p.left.toNat∧0≤y∧y+1000∈p.right)∧(y∈(Qw P q).2 i↔y∈q.2 i∨ ∃p∈P,i=p.left.toNat∧y<1000∧y∈p.right)
 |[],q,i,y=>by simp[Qw]
 | p ::P,q,i,y=>by
   have e:Qw (p::P) q=Qw P (p.right.foldl (ZC p.left.toNat) q):=rfl
   rw[e]
   have ih:= @Zq P (p.right.foldl (ZC p.left.toNat) q) i y
   have hs:= @qb6 p.left.toNat p.right q i y
   rw[ih.1,ih.2,hs.1,hs.2]
   constructor
   · constructor
     · rintro ((h|h)|⟨r,hr,h⟩)
       · exact Or.inl h
       · exact Or.inr ⟨p,by simp,h⟩
       · exact Or.inr ⟨r,List.mem_cons_of_mem _ hr,h⟩
     · rintro (h|⟨r,hr,h⟩)
       · exact Or.inl (Or.inl h)
       · rcases List.mem_cons.1 hr with rfl|hr
         · exact Or.inl (Or.inr h)
         · exact Or.inr ⟨r,hr,h⟩
   · constructor
     · rintro ((h|h)|⟨r,hr,h⟩)
       · exact Or.inl h
       · exact Or.inr ⟨p,by simp,h⟩
       · exact Or.inr ⟨r,List.mem_cons_of_mem _ hr,h⟩
     · rintro (h|⟨r,hr,h⟩)
       · exact Or.inl (Or.inl h)
       · rcases List.mem_cons.1 hr with rfl|hr
         · exact Or.inl (Or.inr h)
         · exact Or.inr ⟨r,hr,h⟩
theorem qcj (f:Nat→List Int) (k:Nat) (x:Int) (i:Nat):(KA f k x i).length≤(f i).length+1:=by
 unfold KA;split
 · simp
 · omega
theorem Y3 {k:Nat}: ∀(l:List Int) (q:(Nat→List Int)×(Nat→List Int)) (i:Nat),((l.foldl (ZC k) q).1 i).length≤(q.1 i).length+l.length∧((l.foldl (ZC k) q).2 i).length≤(q.2 i).length+l.length
 |[],q,i=>⟨Nat.le_refl _,Nat.le_refl _⟩
 | s::l,q,i=>by
   rw[List.foldl_cons,List.length_cons]
   have ih:=Y3 (k:=k) l (ZC k q s) i
   have h:((ZC k q s).1 i).length≤(q.1 i).length+1∧((ZC k q s).2 i).length≤(q.2 i).length+1:=by
    unfold ZC
    split
    · exact⟨qcj _ _ _ _,Nat.le_succ _⟩
    · exact⟨Nat.le_succ _,qcj _ _ _ _⟩
   omega
theorem Vd: ∀(P:List GPr),(∀p∈P,p.right.length≤8)→ ∀(q:(Nat→List Int)×(Nat→List Int)) (i:Nat),((Qw P q).1 i).length≤(q.1 i).length+8 *P.length∧((Qw P q).2 i).length≤(q.2 i).length+8 *P.length
 |[],_,q,i=>⟨Nat.le_refl _,Nat.le_refl _⟩
 | p::P,h,q,i=>by
   have e:Qw (p::P) q=Qw P (p.right.foldl (ZC p.left.toNat) q):=rfl
   rw[e,List.length_cons]
   have ih:=Vd P (fun r hr=>h r (List.mem_cons_of_mem _ hr)) (p.right.foldl (ZC p.left.toNat) q) i
   have hs:=Y3 (k:=p.left.toNat) p.right q i
   have:=h p (by simp)
   omega
inductive Rchd (P:List GPr):Int→Prop
 |start:Rchd P 1000
 |step {p:GPr} {s:Int} (h:Rchd P (1000+p.left)) (hp:p∈P) (hs:s∈p.right):Rchd P s
def JB (t:Nat) (s:Int):Int:=if (t:Int)≤s then s+(1000 - (t:Int))else s
noncomputable def qhx (t n:Nat) (P:List GPr):List Int:=(lst (YH (Qw P (kg t)).1 n (Qw P (kg t)).2 0) 1024).map (JB t)
structure PrOk (t n:Nat) (P:List GPr):Prop where
 left: ∀p∈P,∃l:Nat,p.left=l∧l<n
 right: ∀p∈P,∀s∈p.right,(∃k:Nat,s=k∧k<t)∨ ∃k:Nat,s=1000+(k:Int)∧k<n
theorem qKl {t n:Nat} {P:List GPr} (h:PrOk t n P) {i j:Nat}:Edge (Qw P (kg t)).1 n i j↔i<n∧j<n∧ ∃p∈P,p.left=(i:Int)∧1000+(j:Int)∈p.right:=by
 unfold Edge
 rw[(@Zq P (kg t) i j).1]
 constructor
 · rintro ⟨h1,h2,h3|⟨p,hp,h3,h4,h5⟩⟩
   · cases h3
   · obtain ⟨l,e,_⟩:=h.left p hp
     exact⟨h1,h2,p,hp,o_,by rwa [Int.add_comm]at h5⟩
 · rintro ⟨h1,h2,p,hp,h3,h4⟩
   exact⟨h1,h2,Or.inr ⟨p,hp,o_,o_,by rwa [Int.add_comm]⟩⟩
theorem Jz {t n:Nat} {P:List GPr} (h:PrOk t n P) (hn:0<n) {j:Nat} (hj:j<n):Rch (Qw P (kg t)).1 n 0 j↔Rchd P (1000+(j:Int)):=by
 constructor
 · intro hr
   exact hr.stay (S:=fun z=>Rchd P (1000+(z:Int))) (fun a b ha e=>by
    obtain ⟨_,_,p,hp,h1,h2⟩:=(qKl h).1 e
    exact .step (by rw[h1];exact ha) hp h2) .start
 · intro hr
   have key: ∀s,Rchd P s→ ∀j:Nat,s=1000+(j:Int)→j<n→Rch (Qw P (kg t)).1 n 0 j:=by
    intro s hs
    induction hs with
    | start => intro j e hj;have:j=0:=o_
               subst this;exact .refl 0
    | @step p s hs hp hr ih=>
      intro j e hj
      obtain ⟨l,e2,hl⟩:=h.left p hp
      exact .step (ih l o_ hl) ((qKl h).2 ⟨hl,hj,p,hp,e2,by rw[← e];exact hr⟩)
   exact key _ hr j rfl hj
theorem qmQ {t n:Nat} {P:List GPr} (h:PrOk t n P) (hn:0<n) (hb:t+n≤1000):Jw (qhx t n P)∧(∀x,x∈qhx t n P↔Rchd P x)∧(qhx t n P).length≤t+n:=by
 have hm: ∀y:Nat,y<1024→(YH (Qw P (kg t)).1 n (Qw P (kg t)).2 0 y=true↔y<t+n∧Rchd P (JB t y)):=fun y hy=>by
  unfold YH
  rw[@decide_eq_true_eq _ (Classical.propDecidable _)]
  have hms: ∀j,(XL ((Qw P (kg t)).2 j) y=true↔(y:Int)∈(Qw P (kg t)).2 j):=fun j=>by simp[XL,hy]
  constructor
  · rintro ⟨j,hr,hj⟩
    have hjn:j<n:=hr.stay (S:=fun z=>z<n) (fun a b _ e=>e.2.1) hn
    rw[hms,(@Zq P (kg t) j y).2]at hj
    rcases hj with hj|⟨p,hp,h1,h2,h3⟩
    · have e:(y:Int)=((t+j:Nat):Int):=by simpa[kg]using hj
      have e2:JB t (y:Int)=1000+(j:Int):=by unfold JB;rw[if_pos o_];omega
      rw[e2]
      exact⟨o_,(Jz h hn hjn).1 hr⟩
    · obtain ⟨l,e,hl⟩:=h.left p hp
      have ej:l=j:=o_
      subst ej
      rcases h.right p hp _ h3 with ⟨k,e2,hk⟩|⟨k,e2,hk⟩
      · have e3:JB t (y:Int)=(y:Int):=by unfold JB;rw[if_neg o_]
        rw[e3]
        exact⟨o_,.step (by rw[e];exact(Jz h hn hjn).1 hr) hp h3⟩
      · omega
  · rintro ⟨h1,h2⟩
    by_cases hyt:(t:Int)≤(y:Int)
    · have e2:JB t (y:Int)=1000+((y - t:Nat):Int):=by unfold JB;rw[if_pos hyt];omega
      rw[e2]at h2
      refine⟨y - t,(Jz h hn o_).2 h2,?_⟩
      rw[hms,(@Zq P (kg t) _ y).2]
      left
      show (y:Int)∈[((t+(y - t):Nat):Int)]
      rw[List.mem_singleton];omega
    · have e2:JB t (y:Int)=(y:Int):=by unfold JB;rw[if_neg hyt]
      rw[e2]at h2
      generalize hz:(y:Int)=z at h2
      cases h2 with
      |start=>omega
      | @step p _ hr hp hs=>
        obtain ⟨l,e,hl⟩:=h.left p hp
        refine⟨l,(Jz h hn hl).2 (by rw[← e];exact hr),?_⟩
        rw[hms,(@Zq P (kg t) l y).2]
        exact Or.inr ⟨p,hp,o_,o_,by rw[hz];exact hs⟩
 have hlt: ∀x∈lst (YH (Qw P (kg t)).1 n (Qw P (kg t)).2 0) 1024,∃y:Nat,x=y∧y<t+n∧Rchd P (JB t y):=fun x hx=>by
  obtain ⟨y,h1,h2,rfl⟩:=Vg.1 hx
  exact⟨y,rfl,(hm y h1).1 h2⟩
 refine⟨?_,fun x=>?_,?_⟩
 · unfold qhx Jw
   rw[List.pairwise_map]
   refine List.Pairwise.imp_of_mem ?_ (qcg _ _)
   intro a b ha hb hab
   obtain ⟨y,rfl,_,_⟩:=hlt a ha
   obtain ⟨z,rfl,_,_⟩:=hlt b hb
   unfold JB
   split<;>split<;>omega
 · unfold qhx
   rw[List.mem_map]
   constructor
   · rintro ⟨a,ha,rfl⟩
     obtain ⟨y,rfl,_,hr⟩:=hlt a ha
     exact hr
   · intro hr
     have hc:(∃k:Nat,x=k∧k<t)∨ ∃k:Nat,x=1000+(k:Int)∧k<n:=by
      cases hr with
      |start=>exact Or.inr ⟨0,o_,hn⟩
      |step _ hp hs=>exact h.right _ hp _ hs
     rcases hc with ⟨k,rfl,hk⟩|⟨k,rfl,hk⟩
     · have e:JB t (k:Int)=(k:Int):=by unfold JB;rw[if_neg o_]
       exact⟨k,Vg.2 ⟨k,o_,(hm k o_).2 ⟨o_,by rw[e];exact hr⟩,rfl⟩,e⟩
     · have e:JB t ((t+k:Nat):Int)=1000+(k:Int):=by unfold JB;rw[if_pos o_];omega
       exact⟨((t+k:Nat):Int),Vg.2 ⟨t+k,o_,(hm (t+k) o_).2 ⟨o_,by rw[e];exact hr⟩,rfl⟩,e⟩
 · unfold qhx
   rw[List.length_map]
   exact yN (qcg _ _) (fun x hx=>by obtain ⟨y,rfl,hy,_⟩:=hlt x hx;omega)

theorem ZW {m:Nat→Bool} {x:Int}:Pure Tryz.prog 76 [Zz m,vi x] (.bool (decide (0≤x) && decide (x<1024) && m x.toNat)):=by
 refine pure_intro Tryz.func76 qCB qAi (by show 2≤19;decide) ?_
 show ewp _ qAf _ _
 repeat' with_reducible first
  |refine zn ?_
  |simp -implicitDefEqProofs only[Z9,Z8,Jc,ZT,YU,Q8,Zj,QZ,vF,Zc,Zg,vW,vI,Vb,QW,vz,ve,xB,QX,qa5,qd5,zf,ze,jX,qai,xS,qgP,Zu,Ze,vQ,jE,List.length_cons,List.length_nil,Nat.reduceAdd,Nat.zero_add,Nat.add_zero,V5,YT,YQ,Y6,VS,Y9,YN,YS,Vo,Vf,Vi,YP,Vq,Za,vX,y9,List.length_map,qX,Bool.false_eq_true,Int.reduceEq,zf,ze,zR,zW,zY,zX,zZ,jb,qU,jQ,seval,qpd]
 refine⟨qK m,rfl,?_⟩
 repeat' with_reducible first
  |refine zn ?_
  |simp -implicitDefEqProofs only[Z9,Z8,Jc,ZT,YU,Q8,Zj,QZ,vF,Zc,Zg,vW,vI,Vb,QW,vz,ve,xB,QX,qa5,qd5,zf,ze,jX,qai,xS,qgP,Zu,Ze,vQ,jE,List.length_cons,List.length_nil,Nat.reduceAdd,Nat.zero_add,Nat.add_zero,V5,YT,YQ,Y6,VS,Y9,YN,YS,Vo,Vf,Vi,YP,Vq,Za,vX,y9,List.length_map,qX,Bool.false_eq_true,Int.reduceEq,zf,ze,zR,zW,zY,zX,zZ,jb,qU,jQ,seval]
 refine Y1 (by simp only[jQ,qa5,Nat.reduceEqDiff,↓reduceIte]<;>rfl) (qbG rfl) (Xc) ?_
 by_cases hx:0≤x∧x<1024
 · obtain ⟨n,rfl⟩: ∃n:Nat,x=n:=⟨x.toNat,o_⟩
   have hn:n<1024:=o_
   have e1:(decide (0≤(n:Int)) && decide ((n:Int)<1024))=true:=by simp;omega
   have hd:n / 64<16:=o_
   have hm:n % 64<64:=o_
   simp only[e1]
   have hv:word m (n / 64) / 2 ^ (n % 64)<18446744073709551616:=Nat.lt_of_le_of_lt (Nat.div_le_self _ _) (word_lt m _)
   repeat' with_reducible first
    |refine Vx ?_
    |(refine qt9 (by simp -implicitDefEqProofs only[zf,ze,zR,zW,zY,zX,zZ,jb,qU,jQ,seval,Vk,Zw,Zv,vE hd,KI n hn,KZ n,jg,Nat.mul_one,qgF hm,qdl (y:=1) hv o_]<;>rfl) (fun h=>?_) (fun h=>?_)<;>(try simp only[Bool.not_false,Bool.not_true,Bool.not_eq_true',Bool.not_eq_false',Bool.true_eq_false,Bool.false_eq_true,reduceCtorEq]at h)<;>(try(exfalso;simp only[decide_eq_true_eq,decide_eq_false_iff_not]at h;omega))<;>(try simp only[h]))
    |refine jw (qfg (by simp -implicitDefEqProofs only[qai,xS,jX,jE,zf,ze,zR,zW,zY,zX,zZ,jb,qU,jQ,seval,Vk,Zw,Zv,vE hd,KI n hn,KZ n,jg,Nat.mul_one,qgF hm,qdl (y:=1) hv o_]<;>rfl) (Or.inr trivial) (zP m hd)) ?_
    |refine jw (qdl (y:=1) hv o_) ?_
    |simp -implicitDefEqProofs only[Z9,Z8,Jc,ZT,YU,Q8,Zj,QZ,vF,Zc,Zg,vW,vI,Vb,QW,vz,ve,xB,QX,qa5,qd5,zf,ze,jX,qai,xS,qgP,Zu,Ze,vQ,jE,List.length_cons,List.length_nil,Nat.reduceAdd,Nat.zero_add,Nat.add_zero,V5,YT,YQ,Y6,VS,Y9,YN,YS,Vo,Vf,Vi,YP,Vq,Za,vX,y9,List.length_map,qX,Bool.false_eq_true,Int.reduceEq,zf,ze,zR,zW,zY,zX,zZ,jb,qU,jQ,seval,Vk,Zw,Zv,vE hd,KI n hn,KZ n,jg,Nat.mul_one,qgF hm,qdl (y:=1) hv o_]
   refine qA rfl (Or.inr rfl) ?_
   simp -implicitDefEqProofs only[zf,ze,zR,zW,zY,zX,zZ,jb,qU,jQ,seval]
   refine Vj ?_
   try simp only[Bool.true_and,Int.toNat_natCast]
   have e2:=xC m (n / 64) (n % 64) hm
   rw[show 64 *(n / 64)+n % 64=n by omega]at e2
   rw[← e2,Nat.testBit_eq_decide_div_mod_eq,Nat.and_one_is_mod]
   rw[decide_eq_decide];omega
 · have e1:(decide (0≤x) && decide (x<1024))=false:=by simp;omega
   simp only[e1]
   repeat' with_reducible first
    |refine Vx ?_
    |(refine qt9 (by simp -implicitDefEqProofs only[zf,ze,zR,zW,zY,zX,zZ,jb,qU,jQ,seval]<;>rfl) (fun h=>?_) (fun h=>?_)<;>(try simp only[Bool.not_false,Bool.not_true,Bool.not_eq_true',Bool.not_eq_false',Bool.true_eq_false,Bool.false_eq_true,reduceCtorEq]at h)<;>(try(exfalso;simp only[decide_eq_true_eq,decide_eq_false_iff_not]at h;omega))<;>(try simp only[h]))
    |simp -implicitDefEqProofs only[Z9,Z8,Jc,ZT,YU,Q8,Zj,QZ,vF,Zc,Zg,vW,vI,Vb,QW,vz,ve,xB,QX,qa5,qd5,zf,ze,jX,qai,xS,qgP,Zu,Ze,vQ,jE,List.length_cons,List.length_nil,Nat.reduceAdd,Nat.zero_add,Nat.add_zero,V5,YT,YQ,Y6,VS,Y9,YN,YS,Vo,Vf,Vi,YP,Vq,Za,vX,y9,List.length_map,qX,Bool.false_eq_true,Int.reduceEq,zf,ze,zR,zW,zY,zX,zZ,jb,qU,jQ,seval]
   refine qA rfl (Or.inr rfl) ?_
   simp -implicitDefEqProofs only[zf,ze,zR,zW,zY,zX,zZ,jb,qU,jQ,seval]
   refine Vj ?_
   simp
end Go.Proofs
