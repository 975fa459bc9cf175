/- Part of a proof that a law of the given program answers true. -/
import Derived.Test.YtjdjdbkoplmjeaaDoorVVEC
import Derived.Test.YtjdjdbkoplmjeaaDoorVCAC
set_option linter.unusedSimpArgs false
set_option linter.unusedVariables false
set_option maxRecDepth 100000
set_option maxHeartbeats 0
namespace Go.Proofs
open Go.E
def vrE (i:Nat):List (List Nat):=[[i+1],[]]
def vrZ (to:Nat) (ring:Bool):List (List Nat):=if ring then[[],[to]]else[[]]
def vrL (n to:Nat) (ring:Bool):List (List (List Nat)):=(List.range (n - 1)).map vrE++[vrZ to ring]++[[[n+1,n+1]],[[]]]
def vrN (n:Nat) (ring:Bool) (i:Nat):Int:=if ring then -1 else(n:Int) - i
def vrW (n:Nat) (ring:Bool):List Int:=(if ring then -1 else(n+1:Int))::((List.range n).map (vrN n ring)++[3,1])
def vrB (g:Grammar) (n:Nat) (ring:Bool):Bool:=decide (g.nons.length=n+3) && qb4 g.prods false (qaF g.prods false) && qra g.prods (n+3) (qaF g.prods false) (fun k=>(quQ g.prods (n+3) (qaF g.prods false)).getD k false) (vrW n ring)
def qi4 (n to:Nat) (ring:Bool):Bool:=Z9 (QB (vrL n to ring)) && vrB (Qv (QB (vrL n to ring))) n ring
theorem qBA:((List.range 18).all fun n=>qi4 (n+1) 0 false)=true:=by decide+kernel
theorem qCM:((List.range 12).all fun n=>(List.range (n+1)).all fun to=>qi4 (n+1) to true)=true:=by decide+kernel
theorem qCP:((List.range 3).all fun n=>(List.range (n+13)).all fun to=>qi4 (n+13) to true)=true:=by decide+kernel
theorem qCK:((List.range 2).all fun n=>(List.range (n+16)).all fun to=>qi4 (n+16) to true)=true:=by decide+kernel
theorem qCD:((List.range 18).all fun to=>qi4 18 to true)=true:=by decide+kernel
theorem qyD {n to:Nat} {ring:Bool} (h1:1≤n) (h2:n≤18) (h3:to<n):Z9 (QB (vrL n to ring))=true∧vrB (Qv (QB (vrL n to ring))) n ring=true:=by
 rw[← Bool.and_eq_true]
 show qi4 n to ring=true
 cases ring with
 | false=>
   have h:=List.all_eq_true.1 qBA (n - 1) (List.mem_range.2 o_)
   rw[show n - 1+1=n by omega]at h
   exact h
 | true =>
   by_cases a:n≤12
   · have h:=List.all_eq_true.1 (List.all_eq_true.1 qCM (n - 1) (List.mem_range.2 o_)) to (List.mem_range.2 o_)
     rwa [show n - 1+1=n by omega]at h
   · by_cases b:n≤15
     · have h:=List.all_eq_true.1 (List.all_eq_true.1 qCP (n - 13) (List.mem_range.2 o_)) to (List.mem_range.2 o_)
       rwa [show n - 13+13=n by omega]at h
     · by_cases c:n≤17
       · have h:=List.all_eq_true.1 (List.all_eq_true.1 qCK (n - 16) (List.mem_range.2 o_)) to (List.mem_range.2 o_)
         rwa [show n - 16+16=n by omega]at h
       · have e:n=18:=o_
         subst e
         exact List.all_eq_true.1 qCD to (List.mem_range.2 h3)
theorem quM {n to:Nat} {ring:Bool} (h2:n≤18) (h3:to<n):Sml (vrL n to ring):=by
 have hm: ∀a∈vrL n to ring,(∃i,i<n∧a=vrE i)∨a=vrZ to ring∨a=[[n+1,n+1]]∨a=[[]]:=fun a ha=>by
  unfold vrL at ha
  rcases List.mem_append.1 ha with ha|ha
  · rcases List.mem_append.1 ha with ha|ha
    · obtain ⟨i,hi,rfl⟩:=List.mem_map.1 ha
      have:=List.mem_range.1 hi
      exact Or.inl ⟨i,o_,rfl⟩
    · exact Or.inr (Or.inl (List.mem_singleton.1 ha))
  · simp only[List.mem_cons,List.not_mem_nil,or_false]at ha
    exact Or.inr (Or.inr ha)
 have key: ∀a∈vrL n to ring,a.length≤2∧ ∀b∈a,b.length≤2∧ ∀x∈b,x≤19:=fun a ha=>by
  rcases hm a ha with ⟨i,hi,rfl⟩|rfl|rfl|rfl
  · refine⟨by simp[vrE],fun b hb=>?_⟩
    simp only[vrE,List.mem_cons,List.not_mem_nil,or_false]at hb
    rcases hb with rfl|rfl<;>simp<;>omega
  · cases ring with
    | true=>
      refine⟨by simp[vrZ],fun b hb=>?_⟩
      simp only[vrZ,if_true,List.mem_cons,List.not_mem_nil,or_false]at hb
      rcases hb with rfl|rfl<;>simp<;>omega
    | false=>
      refine⟨by simp[vrZ],fun b hb=>?_⟩
      simp[vrZ]at hb
      subst hb;simp
  · refine⟨by simp,fun b hb=>?_⟩
    rw[List.mem_singleton]at hb;subst hb;simp;omega
  · refine⟨by simp,fun b hb=>?_⟩
    rw[List.mem_singleton]at hb;subst hb;simp
 refine⟨by simp[vrL];omega,fun a ha=>by have:=(key a ha).1;omega,fun a ha b hb=>by have:=((key a ha).2 b hb).1;omega,fun a ha b hb x hx=>by have:=((key a ha).2 b hb).2 x hx;omega⟩
theorem qil (n:Nat) (ring:Bool):(vrW n ring).length=n+3:=by simp[vrW]
theorem qip {n i:Nat} (ring:Bool) (h:i<n):(vrW n ring)[i+1]?=some (vrN n ring i):=by
 unfold vrW
 rw[List.getElem?_cons_succ,List.getElem?_append_left (by simpa using h),List.getElem?_map,List.getElem?_range h];rfl
theorem qzg (n:Nat) (ring:Bool):(vrW n ring)[n+1]?=some 3∧(vrW n ring)[n+2]?=some 1:=by
 unfold vrW
 constructor
 · rw[List.getElem?_cons_succ,List.getElem?_append_right (by simp)];simp
 · rw[List.getElem?_cons_succ,List.getElem?_append_right (by simp)];simp

set_option maxRecDepth 20000
set_option maxHeartbeats 8000000
theorem qew (i:Nat):(List.range (i+1)).map vrE=(List.range i).map vrE++[vrE i]:=by rw[List.range_succ,List.map_append];rfl
theorem kJ {n0 t0:Int} {ring:Bool}:Pure Tryd.prog 5 [vi n0,vi t0,.bool ring] (.bool true):=by
 refine pure_intro Tryd.func5 nm_ qzr (by show 3≤120;decide) ?_
 show ewp _ qtq _ _
 have hw:=qE
 have hw1:=jH (i:=n0) (n:=18) o_ o_
 obtain ⟨n,hn⟩: ∃n:Nat,n=(1+n0 % 18).toNat:=⟨_,rfl⟩
 have hzn:IntKind.i64.wrap (1+n0 % 18)=(n:Int):=by rw[wrap64 o_ o_];omega
 have a1:1≤n:=o_
 have a2:n≤18:=o_
 have hw2:=jH (i:=t0) (n:=(n:Int)) o_ o_
 have hm1:=Int.emod_nonneg t0 (show (n:Int)≠0 by omega)
 have hm2:=Int.emod_lt_of_pos t0 (show 0<(n:Int) by omega)
 obtain ⟨to,hto⟩: ∃to:Nat,t0 % (n:Int)=(to:Int):=⟨(t0 % (n:Int)).toNat,o_⟩
 rw[hto]at hw2 hm2
 have a3:to<n:=o_
 obtain ⟨v1,v2⟩:=qyD (ring:=ring) a1 a2 a3
 have hch:=Ky (quM (ring:=ring) a2 a3) v1
 have hg:=gok v1
 generalize Qv (QB (vrL n to ring))=g at *
 unfold vrB at v2
 simp only[Bool.and_eq_true,decide_eq_true_eq]at v2
 obtain ⟨⟨b1,b2⟩,b4⟩:=v2
 rw[← b1]at b4
 have he:=KW hg (Q6 b2) (qhy g.prods g.nons.length _) b4
 generalize n0 % 18=n1 at *
 clear hm1 hm2 hto
 repeat' with_reducible first
  |refine s_ ?_
  |refine s_ ?_
  |refine s_ ?_
  |simp -implicitDefEqProofs only[wS,wT,wU,wV,wW,wX,wY,wC,wF,wG,wL,wM,wN,seval,Int.cast_ofNat_Int,Int.reduceLT,Int.reduceLE,Int.reduceEq,Int.reduceToNat,decide_true,decide_false,Bool.false_eq_true,hzn]
  |(refine qc (fun h h_=>?_) (fun h h_=>?_)<;>(try simp only[wD,reduceCtorEq]at h_)<;>(try(exfalso;first|omega|exact absurd (Eq.trans (Eq.symm h_) (by assumption):false=true) (by decide)|exact absurd (Eq.trans (Eq.symm h_) (by assumption):true=false) (by decide)|(refine absurd ?_ h_;focus assumption)|(refine absurd h_ ?_;focus assumption)))<;>(try simp only[h]))
  |((first|refine qH (fun h=>?_) (fun h=>?_)|refine qG (fun h=>?_) (fun h=>?_))<;>have h_:=h<;>(try simp only[wD,reduceCtorEq]at h_)<;>(try(exfalso;first|omega|exact absurd (Eq.trans (Eq.symm h_) (by assumption):false=true) (by decide)|exact absurd (Eq.trans (Eq.symm h_) (by assumption):true=false) (by decide)|(refine absurd ?_ h_;focus assumption)|(refine absurd h_ ?_;focus assumption)))<;>(try simp only[h]))
  |refine cq0 hw ?_
  |refine cq2 hw1 qI qI ?_
  |refine cq2 hw2 qI qI ?_
  |refine t_ ?_
  |apply qj;omega;exact wd_
  |apply qJ;(focus(first|exact qd.sl|exact qd.asl|exact qd.str));exact wf_;(focus(unfold maxLen;first|omega|(simp only[wZ]<;>omega)))
  |(refine qD ?_;simp -implicitDefEqProofs only[wM,wN,seval,hzn];apply qM;(focus(first|exact qd.sl|exact qd.asl|exact qd.str));(exact wf_);(focus(unfold maxLen;first|omega|(simp only[wZ]<;>omega))))
  |apply qy;(focus(first|omega|(simp only[wZ]<;>omega)))
  |apply qf;exact wu_;exact wu_;(focus((try simp -implicitDefEqProofs only[wE,Nat.reduceAdd]);rfl))
  |apply qg;exact wd_;exact wu_
  |apply qh;exact wu_
  |apply qm;exact wf_;exact wu_;exact wu_;(focus(intro _;with_unfolding_all rfl))
  |apply qp;exact wu_;exact wu_;exact wu_
  |refine cq0 qE ?_
  |refine qN we_ (qF wf_ wf_ wf_ wf_ wf_) ?_
  |refine qN we_ (za wf_ wf_ wf_) ?_
  |simp -implicitDefEqProofs (disch:=omega) only[w64,if_neg]
 clear hzn hn
 refine qw ?nx1 (fun(q:Nat×List V) s=>s.f 0=?v1_0∧s.f 1=?v1_1∧s.f 2=?v1_2∧(∃v,s.f 7=v∧Gr s.H s.next 1 q.2 v)∧s.f 8=vi q.1∧(q.1+1≤n)∧(QR q.2 (((List.range q.1).map vrE).map nnV))) (fun q=>n - q.1) ((0,[])) wj_ (by refine⟨?_,?_,?_,?_,?_,wo_,(by exact .nil)⟩<;>first|(simp -implicitDefEqProofs only[wL,wM,wN,wX,seval,Option.some.injEq]<;>exact wt_)|rfl|exact⟨_,rfl⟩) ?_
 intro q s hnx ⟨g0,g1,g2,⟨v7,g7,G7⟩,g8,k1_0,k1_1⟩
 obtain ⟨i,es⟩:=q
 dsimp only at *
 have hel:es.length=i:=by have:=k1_1.len;rw[List.length_map,List.length_map,List.length_range]at this;omega
 have hz:=w1_ i
 have hz1:IntKind.i64.wrap ((i:Int)+1)=((i+1:Nat):Int):=wrap64 o_ o_
 by_cases hi:i+1<n
 · have hst:=qew i
   have hlt:decide (((i+1:Nat):Int)<(n:Int))=true:=decide_eq_true o_
   repeat' with_reducible first
    |refine s_ ?_
    |refine s_ ?_
    |refine s_ ?_
    |simp -implicitDefEqProofs only[wS,wT,wU,wV,wW,wX,wY,wC,wF,wG,wL,wM,wN,seval,Int.cast_ofNat_Int,Int.reduceLT,Int.reduceLE,Int.reduceEq,Int.reduceToNat,decide_true,decide_false,Bool.false_eq_true,g0,g1,g2,g7,g8,hz,hz1,hel,hlt,G7.len]
    |(refine qc (fun h h_=>?_) (fun h h_=>?_)<;>(try simp only[wD,reduceCtorEq]at h_)<;>(try(exfalso;first|omega|exact absurd (Eq.trans (Eq.symm h_) (by assumption):false=true) (by decide)|exact absurd (Eq.trans (Eq.symm h_) (by assumption):true=false) (by decide)|(refine absurd ?_ h_;focus assumption)|(refine absurd h_ ?_;focus assumption)))<;>(try simp only[h]))
    |((first|refine qH (fun h=>?_) (fun h=>?_)|refine qG (fun h=>?_) (fun h=>?_))<;>have h_:=h<;>(try simp only[wD,reduceCtorEq]at h_)<;>(try(exfalso;first|omega|exact absurd (Eq.trans (Eq.symm h_) (by assumption):false=true) (by decide)|exact absurd (Eq.trans (Eq.symm h_) (by assumption):true=false) (by decide)|(refine absurd ?_ h_;focus assumption)|(refine absurd h_ ?_;focus assumption)))<;>(try simp only[h]))
    |apply zy rfl (G7.mono (Nat.le_refl _) (fun id h1 h2=>by(try simp only[wM]);(repeat rw[if_neg o_])));(focus(first|exact qd.sl|exact qd.asl));(focus(simp only[wZ,hel];omega));(focus(unfold maxLen;simp only[wZ,hel];omega))
    |refine t_ ?_
    |apply Gr.iaQ G7;omega;exact wd_
    |apply qj;omega;exact wd_
    |apply zy (hg:=G7);(focus(first|rfl|(simp -implicitDefEqProofs only[wM];done)));(focus(first|exact qd.sl|exact qd.asl|exact qd.gr G7|exact qd.str));exact wf_;(focus(unfold maxLen;first|omega|(simp only[wZ]<;>omega)))
    |apply qJ;(focus(first|exact qd.sl|exact qd.asl|exact qd.gr G7|exact qd.str));exact wf_;(focus(unfold maxLen;first|omega|(simp only[wZ]<;>omega)))
    |(refine qD ?_;simp -implicitDefEqProofs only[wM,wN,seval,g0,g1,g2,g7,g8,hz,hz1,hel,hlt];apply qM;(focus(first|exact qd.sl|exact qd.asl|exact qd.gr G7|exact qd.str));(exact wf_);(focus(unfold maxLen;first|omega|(simp only[wZ]<;>omega))))
    |apply qy;(focus(first|omega|(simp only[wZ]<;>omega)))
    |apply qf;exact wu_;exact wu_;(focus((try simp -implicitDefEqProofs only[wE,Nat.reduceAdd]);rfl))
    |apply qg;exact wd_;exact wu_
    |apply qh;exact wu_
    |apply qm;exact wf_;exact wu_;exact wu_;(focus(intro _;with_unfolding_all rfl))
    |apply qp;exact wu_;exact wu_;exact wu_
    |refine cq0 qE ?_
    |apply qN (hp:=qF ?_ ?_ ?_ ?_ ?_);(focus(first|exact zx|exact qI|exact jW|exact zZ|exact G7.er rfl));rotate_left;exact wf_;exact wf_;exact wf_;exact wf_;exact wf_
    |apply qN (hp:=za ?_ ?_ ?_);(focus(first|exact zx|exact qI|exact jW|exact zZ|exact G7.er rfl));rotate_left;exact wf_;exact wf_;exact wf_
    |simp -implicitDefEqProofs (disch:=omega) only[w64,if_neg]
   refine⟨wk_,(i+1,es++[.sl 1 true [.sl 1 true [V.int .i64 ((i+1:Nat):Int)],.sl 1 true []]]),o_,?_⟩
   refine⟨?_,?_,?_,?_,?_,?_,?_⟩
   iterate 5 (focus(first|(simp -implicitDefEqProofs only[wL,wM,wN,wX,seval,Option.some.injEq,g0,g1,g2,g7,g8]<;>first|rfl|exact⟨_,rfl⟩|exact⟨_,rfl,by first|assumption|exact Gr.nil|exact Gr.tok rfl o_|exact Gr.tok (by simp -implicitDefEqProofs only[wM,seval]<;>rfl) o_|exact Gr.clip|exact G7.to (by first|rfl|(simp[*];done)) o_ rfl⟩)|rfl|exact⟨_,rfl⟩|exact⟨_,rfl,by first|assumption|exact G7.to (by first|rfl|(simp[*];done)) o_ rfl⟩))
   all_goals try omega
   all_goals(try(rw[hst,List.map_append];exact k1_1.snoc (ErL.sl (.cons (ErL.sl (.cons (.int _ _) .nil)) (.cons (ErL.sl .nil) .nil)))))
 · have hlt:decide (((i+1:Nat):Int)<(n:Int))=false:=decide_eq_false o_
   have ei:i=n - 1:=o_
   have hz2:IntKind.i64.wrap ((n:Int)+1)=((n+1:Nat):Int):=by rw[wrap64 o_ o_];omega
   have hz3:IntKind.i64.wrap ((n:Int)+3)=((n+3:Nat):Int):=by rw[wrap64 o_ o_];omega
   have hz4:IntKind.i64.wrap ((n:Int)+2)=((n+2:Nat):Int):=by rw[wrap64 o_ o_];omega
   have hWl:=qil n ring
   have hWg:=fun i (h:i<n)=>qip (n:=n) ring h
   obtain ⟨hW3,hW1⟩:=qzg n ring
   generalize vrW n ring=W at *
   have hq1: ∀ring,QR (es++[if ring then .sl 1 true [.sl 1 true [],.sl 1 true [V.int .i64 (to:Int)]]else .sl 1 true [.sl 1 true []]]++[.sl 1 true [.sl 1 true [V.int .i64 ((n+1:Nat):Int),V.int .i64 ((n+1:Nat):Int)]],.sl 1 true [.sl 1 true []]]) ((vrL n to ring).map nnV):=fun ring=>by
    unfold vrL
    rw[← ei,List.map_append,List.map_append]
    have h1:QR (es++[if ring then .sl 1 true [.sl 1 true [],.sl 1 true [V.int .i64 (to:Int)]]else .sl 1 true [.sl 1 true []]]) (((List.range i).map vrE).map nnV++[nnV (vrZ to ring)]):=by
     refine k1_1.snoc ?_
     cases ring with
     |true=>exact ErL.sl (.cons (ErL.sl .nil) (.cons (ErL.sl (.cons (.int _ _) .nil)) .nil))
     |false=>exact ErL.sl (.cons (ErL.sl .nil) .nil)
    have h2:=h1.snoc (v:= .sl 1 true [.sl 1 true [V.int .i64 ((n+1:Nat):Int),V.int .i64 ((n+1:Nat):Int)]]) (v':=nnV [[n+1,n+1]]) (ErL.sl (.cons (ErL.sl (.cons (.int _ _) (.cons (.int _ _) .nil))) .nil))
    have h3:=h2.snoc (v:= .sl 1 true [.sl 1 true []]) (v':=nnV [[]]) (ErL.sl (.cons (ErL.sl .nil) .nil))
    simp only[List.append_assoc,List.map_cons,List.map_nil,List.cons_append,List.nil_append]at h3 ⊢
    exact h3
   have hq:=hq1 ring
   have hel2: ∀v:V,(es++[v]).length=i+1:=fun v=>by rw[List.length_append,hel];rfl
   clear hq1
   cases ring with
   | true=>
     simp only[if_true,Bool.false_eq_true]at hq
     repeat' with_reducible first
      |refine s_ ?_
      |refine s_ ?_
      |refine s_ ?_
      |simp -implicitDefEqProofs only[wS,wT,wU,wV,wW,wX,wY,wC,wF,wG,wL,wM,wN,seval,Int.cast_ofNat_Int,Int.reduceLT,Int.reduceLE,Int.reduceEq,Int.reduceToNat,decide_true,decide_false,Bool.false_eq_true,g0,g1,g2,g7,g8,hz,hz1,hel,hlt,hz2,hz3,hz4,hWl,G7.len]
      |(refine qc (fun h h_=>?_) (fun h h_=>?_)<;>(try simp only[wD,reduceCtorEq]at h_)<;>(try(exfalso;first|omega|exact absurd (Eq.trans (Eq.symm h_) (by assumption):false=true) (by decide)|exact absurd (Eq.trans (Eq.symm h_) (by assumption):true=false) (by decide)|(refine absurd ?_ h_;focus assumption)|(refine absurd h_ ?_;focus assumption)))<;>(try simp only[h]))
      |((first|refine qH (fun h=>?_) (fun h=>?_)|refine qG (fun h=>?_) (fun h=>?_))<;>have h_:=h<;>(try simp only[wD,reduceCtorEq]at h_)<;>(try(exfalso;first|omega|exact absurd (Eq.trans (Eq.symm h_) (by assumption):false=true) (by decide)|exact absurd (Eq.trans (Eq.symm h_) (by assumption):true=false) (by decide)|(refine absurd ?_ h_;focus assumption)|(refine absurd h_ ?_;focus assumption)))<;>(try simp only[h]))
      |apply zy rfl (G7.mono (Nat.le_refl _) (fun id h1 h2=>by(try simp only[wM]);(repeat rw[if_neg o_])));(focus(first|exact qd.sl|exact qd.asl));(focus(simp only[wZ,hel];omega));(focus(unfold maxLen;simp only[wZ,hel];omega))
      |refine cq1 hch (ErL.asl hq.up) ?_
      |refine cq1 he qI ?_
      |refine t_ ?_
      |apply Gr.iaQ G7;omega;exact wd_
      |apply qj;omega;exact wd_
      |apply zy (hg:=G7);(focus(first|rfl|(simp -implicitDefEqProofs only[wM];done)));(focus(first|exact qd.sl|exact qd.asl|exact qd.gr G7|exact qd.str));exact wf_;(focus(unfold maxLen;first|omega|(simp only[wZ]<;>omega)))
      |apply qJ;(focus(first|exact qd.sl|exact qd.asl|exact qd.gr G7|exact qd.str));exact wf_;(focus(unfold maxLen;first|omega|(simp only[wZ]<;>omega)))
      |(refine qD ?_;simp -implicitDefEqProofs only[wM,wN,seval,g0,g1,g2,g7,g8,hz,hz1,hel,hlt,hz2,hz3,hz4,hWl];apply qM;(focus(first|exact qd.sl|exact qd.asl|exact qd.gr G7|exact qd.str));(exact wf_);(focus(unfold maxLen;first|omega|(simp only[wZ]<;>omega))))
      |apply qy;(focus(first|omega|(simp only[wZ]<;>omega)))
      |apply qf;exact wu_;exact wu_;(focus((try simp -implicitDefEqProofs only[wE,Nat.reduceAdd]);rfl))
      |apply qg;exact wd_;exact wu_
      |apply qh;exact wu_
      |apply qm;exact wf_;exact wu_;exact wu_;(focus(intro _;with_unfolding_all rfl))
      |apply qp;exact wu_;exact wu_;exact wu_
      |refine cq0 qE ?_
      |apply qN (hp:=qF ?_ ?_ ?_ ?_ ?_);(focus(first|exact zx|exact qI|exact jW|exact zZ|exact G7.er rfl));rotate_left;exact wf_;exact wf_;exact wf_;exact wf_;exact wf_
      |apply qN (hp:=za ?_ ?_ ?_);(focus(first|exact zx|exact qI|exact jW|exact zZ|exact G7.er rfl));rotate_left;exact wf_;exact wf_;exact wf_
      |simp -implicitDefEqProofs (disch:=omega) only[w64,if_neg]
     clear hq he hch hel2 k1_1 hz hz1 hz2 hz3 hz4 hlt b1 b2 b4 hw hw1 hw2 hW3 hW1 G7 k1_0 hel
     refine qw ?nx2 (fun(m:Nat) s=>s.f 0=?v2_0∧s.f 2=?v2_2∧s.f 11=?v2_11∧s.f 12=vi m∧(m≤n)) (fun m=>n - m) (0) wj_ (by refine⟨?_,?_,?_,?_,wo_⟩<;>first|(simp -implicitDefEqProofs only[wL,wM,wN,wX,seval,Option.some.injEq,g0,g1,g2,g7,g8]<;>first|rfl|exact⟨_,rfl⟩|exact⟨_,rfl,by first|assumption|exact Gr.nil|exact Gr.tok rfl o_|exact Gr.tok (by simp -implicitDefEqProofs only[wM,seval]<;>rfl) o_|exact Gr.clip|exact G7.to (by first|rfl|(simp[*];done)) o_ rfl⟩)|rfl|exact⟨_,rfl⟩|exact⟨_,rfl,by first|assumption|exact G7.to (by first|rfl|(simp[*];done)) o_ rfl⟩) ?_
     intro m s hnx ⟨g0,g2,g11,g12,k2_0⟩
     by_cases hm:m<n
     · have hgm:=hWg m hm
       have hlt:decide ((m:Int)<(n:Int))=true:=decide_eq_true o_
       have hx1:IntKind.i64.wrap ((m:Int)+1)=((m+1:Nat):Int):=by rw[wrap64 o_ o_];omega
       have e:vrN n true m= -1:=rfl
       rw[e]at hgm
       repeat' with_reducible first
        |refine s_ ?_
        |refine s_ ?_
        |refine s_ ?_
        |simp -implicitDefEqProofs only[wS,wT,wU,wV,wW,wX,wY,wC,wF,wG,wL,wM,wN,seval,Int.cast_ofNat_Int,Int.reduceLT,Int.reduceLE,Int.reduceEq,Int.reduceToNat,decide_true,decide_false,Bool.false_eq_true,g0,g2,g11,g12,hx1,hlt]
        |(refine qc (fun h h_=>?_) (fun h h_=>?_)<;>(try simp only[wD,reduceCtorEq]at h_)<;>(try(exfalso;first|omega|exact absurd (Eq.trans (Eq.symm h_) (by assumption):false=true) (by decide)|exact absurd (Eq.trans (Eq.symm h_) (by assumption):true=false) (by decide)|(refine absurd ?_ h_;focus assumption)|(refine absurd h_ ?_;focus assumption)))<;>(try simp only[h]))
        |((first|refine qH (fun h=>?_) (fun h=>?_)|refine qG (fun h=>?_) (fun h=>?_))<;>have h_:=h<;>(try simp only[wD,reduceCtorEq]at h_)<;>(try(exfalso;first|omega|exact absurd (Eq.trans (Eq.symm h_) (by assumption):false=true) (by decide)|exact absurd (Eq.trans (Eq.symm h_) (by assumption):true=false) (by decide)|(refine absurd ?_ h_;focus assumption)|(refine absurd h_ ?_;focus assumption)))<;>(try simp only[h]))
        |refine t_ ?_
        |apply qj;omega;exact wd_
        |apply qJ;(focus(first|exact qd.sl|exact qd.asl|exact qd.str));exact wf_;(focus(unfold maxLen;first|omega|(simp only[wZ]<;>omega)))
        |(refine qD ?_;simp -implicitDefEqProofs only[wM,wN,seval,g0,g2,g11,g12,hx1,hlt];apply qM;(focus(first|exact qd.sl|exact qd.asl|exact qd.str));(exact wf_);(focus(unfold maxLen;first|omega|(simp only[wZ]<;>omega))))
        |apply qy;(focus(first|omega|(simp only[wZ]<;>omega)))
        |apply qf;exact wu_;exact wu_;(focus((try simp -implicitDefEqProofs only[wE,Nat.reduceAdd]);rfl))
        |apply qg;exact wd_;exact wu_
        |apply qh;exact wu_
        |apply qm;exact wf_;exact wu_;exact wu_;(focus(intro _;with_unfolding_all rfl))
        |apply qp;exact wu_;exact wu_;exact wu_
        |refine cq0 qE ?_
        |refine qN we_ (qF wf_ wf_ wf_ wf_ wf_) ?_
        |refine qN we_ (za wf_ wf_ wf_) ?_
        |simp -implicitDefEqProofs (disch:=omega) only[w64,if_neg]
       refine⟨wk_,m+1,o_,?_⟩
       refine⟨?_,?_,?_,?_,?_⟩
       iterate 4 (focus(first|(simp -implicitDefEqProofs only[wL,wM,wN,wX,seval,Option.some.injEq,g0,g2,g11,g12]<;>exact wt_)|rfl|exact⟨_,rfl⟩))
       all_goals try omega
     · have hlt:decide ((m:Int)<(n:Int))=false:=decide_eq_false o_
       repeat' with_reducible first
        |refine s_ ?_
        |refine s_ ?_
        |refine s_ ?_
        |simp -implicitDefEqProofs only[wS,wT,wU,wV,wW,wX,wY,wC,wF,wG,wL,wM,wN,seval,Int.cast_ofNat_Int,Int.reduceLT,Int.reduceLE,Int.reduceEq,Int.reduceToNat,decide_true,decide_false,Bool.false_eq_true,g0,g2,g11,g12,hlt]
        |(refine qc (fun h h_=>?_) (fun h h_=>?_)<;>(try simp only[wD,reduceCtorEq]at h_)<;>(try(exfalso;first|omega|exact absurd (Eq.trans (Eq.symm h_) (by assumption):false=true) (by decide)|exact absurd (Eq.trans (Eq.symm h_) (by assumption):true=false) (by decide)|(refine absurd ?_ h_;focus assumption)|(refine absurd h_ ?_;focus assumption)))<;>(try simp only[h]))
        |((first|refine qH (fun h=>?_) (fun h=>?_)|refine qG (fun h=>?_) (fun h=>?_))<;>have h_:=h<;>(try simp only[wD,reduceCtorEq]at h_)<;>(try(exfalso;first|omega|exact absurd (Eq.trans (Eq.symm h_) (by assumption):false=true) (by decide)|exact absurd (Eq.trans (Eq.symm h_) (by assumption):true=false) (by decide)|(refine absurd ?_ h_;focus assumption)|(refine absurd h_ ?_;focus assumption)))<;>(try simp only[h]))
        |refine t_ ?_
        |apply qj;omega;exact wd_
        |apply qJ;(focus(first|exact qd.sl|exact qd.asl|exact qd.str));exact wf_;(focus(unfold maxLen;first|omega|(simp only[wZ]<;>omega)))
        |(refine qD ?_;simp -implicitDefEqProofs only[wM,wN,seval,g0,g2,g11,g12,hlt];apply qM;(focus(first|exact qd.sl|exact qd.asl|exact qd.str));(exact wf_);(focus(unfold maxLen;first|omega|(simp only[wZ]<;>omega))))
        |apply qy;(focus(first|omega|(simp only[wZ]<;>omega)))
        |apply qf;exact wu_;exact wu_;(focus((try simp -implicitDefEqProofs only[wE,Nat.reduceAdd]);rfl))
        |apply qg;exact wd_;exact wu_
        |apply qh;exact wu_
        |apply qm;exact wf_;exact wu_;exact wu_;(focus(intro _;with_unfolding_all rfl))
        |apply qp;exact wu_;exact wu_;exact wu_
        |refine cq0 qE ?_
        |refine qN we_ (qF wf_ wf_ wf_ wf_ wf_) ?_
        |refine qN we_ (za wf_ wf_ wf_) ?_
        |simp -implicitDefEqProofs (disch:=omega) only[w64,if_neg]
       all_goals refine qP rfl (Or.inr rfl) ?_
       all_goals(try simp -implicitDefEqProofs only[wL,seval,g0,g2,g11,g12])
       all_goals refine er_ ?_
       all_goals(try(with_reducible rfl))
   | false=>
     skip
     simp only[if_false,Bool.false_eq_true]at hq
     repeat' with_reducible first
      |refine s_ ?_
      |refine s_ ?_
      |refine s_ ?_
      |simp -implicitDefEqProofs only[wS,wT,wU,wV,wW,wX,wY,wC,wF,wG,wL,wM,wN,seval,Int.cast_ofNat_Int,Int.reduceLT,Int.reduceLE,Int.reduceEq,Int.reduceToNat,decide_true,decide_false,Bool.false_eq_true,g0,g1,g2,g7,g8,hz,hz1,hel,hlt,hz2,hz3,hz4,hWl,G7.len]
      |(refine qc (fun h h_=>?_) (fun h h_=>?_)<;>(try simp only[wD,reduceCtorEq]at h_)<;>(try(exfalso;first|omega|exact absurd (Eq.trans (Eq.symm h_) (by assumption):false=true) (by decide)|exact absurd (Eq.trans (Eq.symm h_) (by assumption):true=false) (by decide)|(refine absurd ?_ h_;focus assumption)|(refine absurd h_ ?_;focus assumption)))<;>(try simp only[h]))
      |((first|refine qH (fun h=>?_) (fun h=>?_)|refine qG (fun h=>?_) (fun h=>?_))<;>have h_:=h<;>(try simp only[wD,reduceCtorEq]at h_)<;>(try(exfalso;first|omega|exact absurd (Eq.trans (Eq.symm h_) (by assumption):false=true) (by decide)|exact absurd (Eq.trans (Eq.symm h_) (by assumption):true=false) (by decide)|(refine absurd ?_ h_;focus assumption)|(refine absurd h_ ?_;focus assumption)))<;>(try simp only[h]))
      |apply zy rfl (G7.mono (Nat.le_refl _) (fun id h1 h2=>by(try simp only[wM]);(repeat rw[if_neg o_])));(focus(first|exact qd.sl|exact qd.asl));(focus(simp only[wZ,hel];omega));(focus(unfold maxLen;simp only[wZ,hel];omega))
      |refine cq1 hch (ErL.asl hq.up) ?_
      |refine cq1 he qI ?_
      |refine t_ ?_
      |apply Gr.iaQ G7;omega;exact wd_
      |apply qj;omega;exact wd_
      |apply zy (hg:=G7);(focus(first|rfl|(simp -implicitDefEqProofs only[wM];done)));(focus(first|exact qd.sl|exact qd.asl|exact qd.gr G7|exact qd.str));exact wf_;(focus(unfold maxLen;first|omega|(simp only[wZ]<;>omega)))
      |apply qJ;(focus(first|exact qd.sl|exact qd.asl|exact qd.gr G7|exact qd.str));exact wf_;(focus(unfold maxLen;first|omega|(simp only[wZ]<;>omega)))
      |(refine qD ?_;simp -implicitDefEqProofs only[wM,wN,seval,g0,g1,g2,g7,g8,hz,hz1,hel,hlt,hz2,hz3,hz4,hWl];apply qM;(focus(first|exact qd.sl|exact qd.asl|exact qd.gr G7|exact qd.str));(exact wf_);(focus(unfold maxLen;first|omega|(simp only[wZ]<;>omega))))
      |apply qy;(focus(first|omega|(simp only[wZ]<;>omega)))
      |apply qf;exact wu_;exact wu_;(focus((try simp -implicitDefEqProofs only[wE,Nat.reduceAdd]);rfl))
      |apply qg;exact wd_;exact wu_
      |apply qh;exact wu_
      |apply qm;exact wf_;exact wu_;exact wu_;(focus(intro _;with_unfolding_all rfl))
      |apply qp;exact wu_;exact wu_;exact wu_
      |refine cq0 qE ?_
      |apply qN (hp:=qF ?_ ?_ ?_ ?_ ?_);(focus(first|exact zx|exact qI|exact jW|exact zZ|exact G7.er rfl));rotate_left;exact wf_;exact wf_;exact wf_;exact wf_;exact wf_
      |apply qN (hp:=za ?_ ?_ ?_);(focus(first|exact zx|exact qI|exact jW|exact zZ|exact G7.er rfl));rotate_left;exact wf_;exact wf_;exact wf_
      |simp -implicitDefEqProofs (disch:=omega) only[w64,if_neg]
     clear hq he hch hel2 k1_1 hz hz1 hz2 hz3 hz4 hlt b1 b2 b4 hw hw1 hw2 hW3 hW1 G7 k1_0 hel
     skip
     refine qw ?nx2b (fun(m:Nat) s=>s.f 0=?v2b_0∧s.f 2=?v2b_2∧s.f 11=?v2b_11∧s.f 12=vi m∧(m≤n)) (fun m=>n - m) (0) wj_ (by refine⟨?_,?_,?_,?_,wo_⟩<;>first|(simp -implicitDefEqProofs only[wL,wM,wN,wX,seval,Option.some.injEq,g0,g1,g2,g7,g8]<;>first|rfl|exact⟨_,rfl⟩|exact⟨_,rfl,by first|assumption|exact Gr.nil|exact Gr.tok rfl o_|exact Gr.tok (by simp -implicitDefEqProofs only[wM,seval]<;>rfl) o_|exact Gr.clip|exact G7.to (by first|rfl|(simp[*];done)) o_ rfl⟩)|rfl|exact⟨_,rfl⟩|exact⟨_,rfl,by first|assumption|exact G7.to (by first|rfl|(simp[*];done)) o_ rfl⟩) ?_
     intro m s hnx ⟨g0,g2,g11,g12,k2_0⟩
     by_cases hm:m<n
     · have hgm:=hWg m hm
       have hlt:decide ((m:Int)<(n:Int))=true:=decide_eq_true o_
       have hx1:IntKind.i64.wrap ((m:Int)+1)=((m+1:Nat):Int):=by rw[wrap64 o_ o_];omega
       have e:vrN n false m=(n:Int) - (m:Int):=rfl
       rw[e]at hgm
       have hx2:IntKind.i64.wrap ((n:Int) - (m:Int))=(n:Int) - (m:Int):=wrap64 o_ o_
       repeat' with_reducible first
        |refine s_ ?_
        |refine s_ ?_
        |refine s_ ?_
        |simp -implicitDefEqProofs only[wS,wT,wU,wV,wW,wX,wY,wC,wF,wG,wL,wM,wN,seval,Int.cast_ofNat_Int,Int.reduceLT,Int.reduceLE,Int.reduceEq,Int.reduceToNat,decide_true,decide_false,Bool.false_eq_true,g0,g2,g11,g12,hx1,hx2,hlt]
        |(refine qc (fun h h_=>?_) (fun h h_=>?_)<;>(try simp only[wD,reduceCtorEq]at h_)<;>(try(exfalso;first|omega|exact absurd (Eq.trans (Eq.symm h_) (by assumption):false=true) (by decide)|exact absurd (Eq.trans (Eq.symm h_) (by assumption):true=false) (by decide)|(refine absurd ?_ h_;focus assumption)|(refine absurd h_ ?_;focus assumption)))<;>(try simp only[h]))
        |((first|refine qH (fun h=>?_) (fun h=>?_)|refine qG (fun h=>?_) (fun h=>?_))<;>have h_:=h<;>(try simp only[wD,reduceCtorEq]at h_)<;>(try(exfalso;first|omega|exact absurd (Eq.trans (Eq.symm h_) (by assumption):false=true) (by decide)|exact absurd (Eq.trans (Eq.symm h_) (by assumption):true=false) (by decide)|(refine absurd ?_ h_;focus assumption)|(refine absurd h_ ?_;focus assumption)))<;>(try simp only[h]))
        |refine t_ ?_
        |apply qj;omega;exact wd_
        |apply qJ;(focus(first|exact qd.sl|exact qd.asl|exact qd.str));exact wf_;(focus(unfold maxLen;first|omega|(simp only[wZ]<;>omega)))
        |(refine qD ?_;simp -implicitDefEqProofs only[wM,wN,seval,g0,g2,g11,g12,hx1,hx2,hlt];apply qM;(focus(first|exact qd.sl|exact qd.asl|exact qd.str));(exact wf_);(focus(unfold maxLen;first|omega|(simp only[wZ]<;>omega))))
        |apply qy;(focus(first|omega|(simp only[wZ]<;>omega)))
        |apply qf;exact wu_;exact wu_;(focus((try simp -implicitDefEqProofs only[wE,Nat.reduceAdd]);rfl))
        |apply qg;exact wd_;exact wu_
        |apply qh;exact wu_
        |apply qm;exact wf_;exact wu_;exact wu_;(focus(intro _;with_unfolding_all rfl))
        |apply qp;exact wu_;exact wu_;exact wu_
        |refine cq0 qE ?_
        |refine qN we_ (qF wf_ wf_ wf_ wf_ wf_) ?_
        |refine qN we_ (za wf_ wf_ wf_) ?_
        |simp -implicitDefEqProofs (disch:=omega) only[w64,if_neg]
       refine⟨wk_,m+1,o_,?_⟩
       refine⟨?_,?_,?_,?_,?_⟩
       iterate 4 (focus(first|(simp -implicitDefEqProofs only[wL,wM,wN,wX,seval,Option.some.injEq,g0,g2,g11,g12]<;>exact wt_)|rfl|exact⟨_,rfl⟩))
       all_goals try omega
     · have hlt:decide ((m:Int)<(n:Int))=false:=decide_eq_false o_
       repeat' with_reducible first
        |refine s_ ?_
        |refine s_ ?_
        |refine s_ ?_
        |simp -implicitDefEqProofs only[wS,wT,wU,wV,wW,wX,wY,wC,wF,wG,wL,wM,wN,seval,Int.cast_ofNat_Int,Int.reduceLT,Int.reduceLE,Int.reduceEq,Int.reduceToNat,decide_true,decide_false,Bool.false_eq_true,g0,g2,g11,g12,hlt]
        |(refine qc (fun h h_=>?_) (fun h h_=>?_)<;>(try simp only[wD,reduceCtorEq]at h_)<;>(try(exfalso;first|omega|exact absurd (Eq.trans (Eq.symm h_) (by assumption):false=true) (by decide)|exact absurd (Eq.trans (Eq.symm h_) (by assumption):true=false) (by decide)|(refine absurd ?_ h_;focus assumption)|(refine absurd h_ ?_;focus assumption)))<;>(try simp only[h]))
        |((first|refine qH (fun h=>?_) (fun h=>?_)|refine qG (fun h=>?_) (fun h=>?_))<;>have h_:=h<;>(try simp only[wD,reduceCtorEq]at h_)<;>(try(exfalso;first|omega|exact absurd (Eq.trans (Eq.symm h_) (by assumption):false=true) (by decide)|exact absurd (Eq.trans (Eq.symm h_) (by assumption):true=false) (by decide)|(refine absurd ?_ h_;focus assumption)|(refine absurd h_ ?_;focus assumption)))<;>(try simp only[h]))
        |refine t_ ?_
        |apply qj;omega;exact wd_
        |apply qJ;(focus(first|exact qd.sl|exact qd.asl|exact qd.str));exact wf_;(focus(unfold maxLen;first|omega|(simp only[wZ]<;>omega)))
        |(refine qD ?_;simp -implicitDefEqProofs only[wM,wN,seval,g0,g2,g11,g12,hlt];apply qM;(focus(first|exact qd.sl|exact qd.asl|exact qd.str));(exact wf_);(focus(unfold maxLen;first|omega|(simp only[wZ]<;>omega))))
        |apply qy;(focus(first|omega|(simp only[wZ]<;>omega)))
        |apply qf;exact wu_;exact wu_;(focus((try simp -implicitDefEqProofs only[wE,Nat.reduceAdd]);rfl))
        |apply qg;exact wd_;exact wu_
        |apply qh;exact wu_
        |apply qm;exact wf_;exact wu_;exact wu_;(focus(intro _;with_unfolding_all rfl))
        |apply qp;exact wu_;exact wu_;exact wu_
        |refine cq0 qE ?_
        |refine qN we_ (qF wf_ wf_ wf_ wf_ wf_) ?_
        |refine qN we_ (za wf_ wf_ wf_) ?_
        |simp -implicitDefEqProofs (disch:=omega) only[w64,if_neg]
       all_goals refine qP rfl (Or.inr rfl) ?_
       all_goals(try simp -implicitDefEqProofs only[wL,seval,g0,g2,g11,g12])
       all_goals refine er_ ?_
       all_goals(try(with_reducible rfl))
end Go.Proofs
