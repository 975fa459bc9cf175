/- Part of a proof that a law of the given program answers true. -/
import Derived.Test.YtjdjdbkoplmjeaaDoorVVER
import Derived.Test.YtjdjdbkoplmjeaaDoorVCAR
set_option maxRecDepth 20000
set_option linter.unusedSimpArgs false
set_option linter.unusedVariables false
set_option maxHeartbeats 8000000
namespace Go.Proofs
open Go.E
theorem qz3 (x:GrI):Pure Tryd.prog 7 [(zx x).V] (.tup [(XH (zx x)).V,.bool true]):=by
 have:=yJ (JA x) (fun _=>YV x)
 rw[Ym x]at this
 exact this
theorem YH (t:Bool) (E:Nat→Bool) (l:List Int) (y:Int):zB t E (l++[y])=(zB t E l && if y<1000 then t else E (y - 1000).toNat):=by
 unfold zB;rw[List.all_append];simp
def qfY (t:Bool) (E:Nat→Bool) (n:Nat) (P:List GPr):Bool:=P.any fun p=>decide (p.left=(n:Int)) && zB t E p.right
theorem KF (t:Bool) (E:Nat→Bool) (n:Nat) (P:List GPr) (p:GPr):qfY t E n (P++[p])=(qfY t E n P || (decide (p.left=(n:Int)) && zB t E p.right)):=by
 unfold qfY;rw[List.any_append];simp
theorem qbX {g:Grammar} (hg:GOk g) {t:Bool} {E:Nat→Bool} (h:IsGrow g t E) (n:Nat):qfY t E n g.prods=E n:=by
 rw[Bool.eq_iff_iff,h.rules]
 unfold qfY
 rw[List.any_eq_true]
 constructor
 · rintro ⟨p,hp,h2⟩
   rw[Bool.and_eq_true,decide_eq_true_eq]at h2
   exact⟨p,hp,o_,h2.2⟩
 · rintro ⟨p,hp,h1,h2⟩
   obtain ⟨l,e,_⟩:=hg.left p hp
   refine⟨p,hp,?_⟩
   rw[Bool.and_eq_true,decide_eq_true_eq]
   exact⟨o_,h2⟩
theorem qiX {E F:Nat→Bool} (h: ∀k,E k=true→F k=true) {l:List Int} (hl:zB false E l=true):zB true F l=true:=by
 unfold zB at *
 rw[List.all_eq_true]at *
 intro s hs
 have:=hl s hs
 split at this
 · cases this
 · rename_i h1;rw[if_neg h1];exact h _ this
theorem qir {g:Grammar} {E F:Nat→Bool} (h:IsGrow g false E) (k:IsGrow g true F): ∀n,E n=true→F n=true:=by
 have hc:Qn g false (fun n=>E n && F n):=fun p hp hf=>by
  have h1:zB false E p.right=true:=QI (fun n hn=>(Bool.and_eq_true _ _ ▸ hn:_∧_).1) hf
  have h2:zB true F p.right=true:=qiX (fun n hn=>(Bool.and_eq_true _ _ ▸ hn:_∧_).2) hf
  show (E _ && F _)=true
  rw[h.closed p hp h1,k.closed p hp h2];rfl
 intro n hn
 have:=h.least _ hc n hn
 simp only[Bool.and_eq_true]at this
 exact this.2
theorem K6 {n:Nat} {E:Nat→Bool} {so:Bool} {y:Int} (hy:y<1000∨ ∃k:Nat,y=1000+(k:Int)∧k<n):decide (y∈xG n E so)=if y<1000 then false else E (y - 1000).toNat == so:=by
 rcases hy with hy|⟨k,rfl,hk⟩
 · rw[if_pos hy,decide_eq_false]
   unfold xG
   rw[List.mem_map]
   rintro ⟨q,_,h⟩;omega
 · rw[if_neg o_,show (1000+(k:Int) - 1000).toNat=k by omega,Bool.eq_iff_iff,decide_eq_true_eq,qcn hk,beq_iff_eq]
theorem QL {x:GrI} (hb1:x.rules.length≤1099511627776) (hb2: ∀l∈x.rules,l.length≤1099511627776) (hib:x.inner.length≤1099511627776) (hlb:x.levels.length≤1099511627776):Pure Tryd.prog 3 [x.V] (.bool true):=by
 refine pure_intro Tryd.func3 nm_ qBt (by show 1≤140;decide) ?_
 show ewp _ qsR _ _
 have hw:=qV
 have hsrc:=JK (x:=x) hb1 hb2 hib hlb
 have hgr:=qz3 x
 have hg:=gok (Ym x)
 generalize XH (zx x)=g at *
 obtain ⟨E,hE,hvg⟩:=Qh (token:=false) hg
 obtain ⟨F,hF,hvg1⟩:=Qh (token:=true) hg
 have hnu:=Zf hg hvg
 have hva:=jd hg hvg1
 have hre:=zo hg
 have hnl:=hg.nn2;have hpl:=hg.pl2;have htl:=hg.tk2
 obtain ⟨r1,r2,r3⟩:=qex (t:=g.toks.length) (n:=g.nons.length) (P:=g.prods) ⟨hg.left,hg.right⟩ hg.nn o_
 have hup:=qir hE hF
 generalize qfH g.toks.length g.nons.length g.prods=R at *
 have hw1:=ZW g.nons.length E true
 have hw2:=ZW g.nons.length F false
 have hh1:=fun y hy=>K6 (n:=g.nons.length) (E:=E) (so:=true) (y:=y) hy
 have hh2:=fun y hy=>K6 (n:=g.nons.length) (E:=F) (so:=false) (y:=y) hy
 generalize xG g.nons.length E true=N0 at *
 generalize xG g.nons.length F false=N1 at *
 repeat' with_reducible first
  |refine s_ ?_
  |refine s_ ?_
  |refine s_ ?_
  |simp -implicitDefEqProofs only[wS,wT,wU,wV,wW,wX,wY,wC,wF,wG,wL,wM,wN,seval,Int.cast_ofNat_Int,Int.reduceLT,Int.reduceLE,Int.reduceEq,Int.reduceToNat,decide_true,decide_false,Bool.false_eq_true]
  |(refine qc (fun h h_=>?_) (fun h h_=>?_)<;>(try simp only[wD,reduceCtorEq]at h_)<;>(try(exfalso;first|omega|exact absurd (Eq.trans (Eq.symm h_) (by assumption):false=true) (by decide)|exact absurd (Eq.trans (Eq.symm h_) (by assumption):true=false) (by decide)|(refine absurd ?_ h_;focus assumption)|(refine absurd h_ ?_;focus assumption)))<;>(try simp only[h]))
  |((first|refine qE (fun h=>?_) (fun h=>?_)|refine qF (fun h=>?_) (fun h=>?_))<;>have h_:=h<;>(try simp only[wD,reduceCtorEq]at h_)<;>(try(exfalso;first|omega|exact absurd (Eq.trans (Eq.symm h_) (by assumption):false=true) (by decide)|exact absurd (Eq.trans (Eq.symm h_) (by assumption):true=false) (by decide)|(refine absurd ?_ h_;focus assumption)|(refine absurd h_ ?_;focus assumption)))<;>(try simp only[h]))
  |refine cq0 hw ?_
  |refine cq1 hsrc qD ?_
  |refine cq1 hgr (qcj _) ?_
  |refine cq1 hnu qD ?_
  |refine cq1 hva qD ?_
  |refine cq1 hre qD ?_
  |refine t_ ?_
  |apply qm;omega;exact wd_
  |apply qz;(focus(first|omega|(simp only[wZ]<;>omega)))
  |apply qg;exact wu_;exact wu_;(focus((try simp -implicitDefEqProofs only[wE,Nat.reduceAdd]);rfl))
  |apply qh;exact wd_;exact wu_
  |apply qi;exact wu_
  |apply qp;exact wf_;exact wu_;exact wu_;(focus(intro _;with_unfolding_all rfl))
  |apply qw;exact wu_;exact wu_;exact wu_
  |refine cq0 qV ?_
  |refine qM we_ (jd wf_ wf_) ?_
  |refine qM we_ (zo wf_) ?_
  |simp -implicitDefEqProofs (disch:=omega) only[w64,if_neg]
 have hR0:(1000:Int)∈R:=(r2 _).2 .start
 have hRl:R.length≤64:=o_
 refine ql ?nx1 (fun(n:Nat) s=>s.f 3=?v1_3∧s.f 5=?v1_5∧s.f 6=?v1_6∧s.f 7=?v1_7∧s.H 10=some (MObj.own 5 [g.V] false)∧s.f 8=vi n∧(n≤g.nons.length)) (fun n=>g.nons.length - n) (0) wj_ (by refine⟨?_,?_,?_,?_,?_,?_,wo_⟩<;>first|(simp -implicitDefEqProofs only[wL,wM,wN,wX,seval,Option.some.injEq]<;>exact wt_)|rfl|exact⟨_,rfl⟩) ?_
 intro n s hnx ⟨g3,g5,g6,g7,o0,g8,k1_0⟩
 have hz:=w1_ n
 have hz2:IntKind.i64.wrap (1000+(n:Int))=1000+(n:Int):=wrap64 o_ o_
 by_cases hn:n<g.nons.length
 · have ha0 :=jk (a:=R) (x:=1000+(n:Int)) o_
   have hcl: ∀p∈g.prods,p.left=(n:Int)→ ∀y∈p.right,decide (1000+(n:Int)∈R)=true→decide (y∈R)=true:=fun p hp hl y hy h=>by
    rw[decide_eq_true_eq]at h ⊢
    rw[r2]at h ⊢
    exact .step (by rw[hl];exact h) hp hy
   generalize ha:decide (1000+(n:Int)∈R)=a at *
   repeat' with_reducible first
    |refine s_ ?_
    |refine s_ ?_
    |refine s_ ?_
    |simp -implicitDefEqProofs only[wS,wT,wU,wV,wW,wX,wY,wC,wF,wG,wL,wM,wN,seval,Int.cast_ofNat_Int,Int.reduceLT,Int.reduceLE,Int.reduceEq,Int.reduceToNat,decide_true,decide_false,Bool.false_eq_true,g3,g5,g6,g7,g8,o0,hz]
    |(refine qc (fun h h_=>?_) (fun h h_=>?_)<;>(try simp only[wD,reduceCtorEq]at h_)<;>(try(exfalso;first|omega|exact absurd (Eq.trans (Eq.symm h_) (by assumption):false=true) (by decide)|exact absurd (Eq.trans (Eq.symm h_) (by assumption):true=false) (by decide)|(refine absurd ?_ h_;focus assumption)|(refine absurd h_ ?_;focus assumption)))<;>(try simp only[h]))
    |((first|refine qE (fun h=>?_) (fun h=>?_)|refine qF (fun h=>?_) (fun h=>?_))<;>have h_:=h<;>(try simp only[wD,reduceCtorEq]at h_)<;>(try(exfalso;first|omega|exact absurd (Eq.trans (Eq.symm h_) (by assumption):false=true) (by decide)|exact absurd (Eq.trans (Eq.symm h_) (by assumption):true=false) (by decide)|(refine absurd ?_ h_;focus assumption)|(refine absurd h_ ?_;focus assumption)))<;>(try simp only[h]))
    |refine t_ ?_
    |apply qm;omega;exact wd_
    |apply qz;(focus(first|omega|(simp only[wZ]<;>omega)))
    |apply qg;exact wu_;exact wu_;(focus((try simp -implicitDefEqProofs only[wE,Nat.reduceAdd]);rfl))
    |apply qh;exact wd_;exact wu_
    |apply qi;exact wu_
    |apply qp;exact wf_;exact wu_;exact wu_;(focus(intro _;with_unfolding_all rfl))
    |apply qw;exact wu_;exact wu_;exact wu_
    |refine cq0 qV ?_
    |refine qM we_ (jd wf_ wf_) ?_
    |refine qM we_ (zo wf_) ?_
    |simp -implicitDefEqProofs (disch:=omega) only[w64,if_neg]
   refine ql ?nx2 (fun(j:Nat) s=>s.f 3=?v2_3∧s.f 5=?v2_5∧s.f 6=?v2_6∧s.f 7=?v2_7∧s.f 8=?v2_8∧s.H 10=some (MObj.own 5 [g.V] false)∧s.f 11=vi j∧(j≤g.prods.length)∧(s.f 9=V.bool (qfY false E n (g.prods.take j)))∧(s.f 10=V.bool (qfY true F n (g.prods.take j)))) (fun j=>g.prods.length - j) (0) wj_ (by refine⟨?_,?_,?_,?_,?_,?_,?_,wo_,(by(try simp -implicitDefEqProofs only[wL,wM,wN,seval,g3,g5,g6,g7,g8,o0]);rfl),(by(try simp -implicitDefEqProofs only[wL,wM,wN,seval,g3,g5,g6,g7,g8,o0]);rfl)⟩<;>first|(simp -implicitDefEqProofs only[wL,wM,wN,wX,seval,Option.some.injEq,g3,g5,g6,g7,g8,o0]<;>exact wt_)|rfl|exact⟨_,rfl⟩) ?_
   intro j s hnx ⟨g3,g5,g6,g7,g8,o0,g11,k2_0,g9,g10⟩
   have hzj:=w1_ j
   by_cases hj:j<g.prods.length
   · have hgj:g.prods[j]?=some g.prods[j]:=ge_ hj
     have hmem:=List.getElem_mem hj
     have hcl2:=hcl _ hmem
     have hrt:=hg.rt hmem
     have hrl:=hg.rlen _ hmem
     have hs1:=KF false E n (g.prods.take j) g.prods[j]
     have hs2:=KF true F n (g.prods.take j) g.prods[j]
     rw[show g.prods.take j++[g.prods[j]]=g.prods.take (j+1) by rw[List.take_add_one,hgj];rfl]at hs1 hs2
     generalize qfY false E n (g.prods.take j)=e0 at *
     generalize qfY true F n (g.prods.take j)=f0 at *
     generalize g.prods[j]=p at *
     obtain ⟨pl,pr,pc,pco,pa,pat⟩:=p
     dsimp only at hcl2 hrt hrl hs1 hs2
     by_cases hln:pl=(n:Int)
     · subst hln
       rw[decide_eq_true rfl,Bool.true_and]at hs1 hs2
       have hcl3:=hcl2 rfl
       repeat' with_reducible first
        |refine s_ ?_
        |refine s_ ?_
        |refine s_ ?_
        |simp -implicitDefEqProofs only[wS,wT,wU,wV,wW,wX,wY,wC,wF,wG,wL,wM,wN,seval,Int.cast_ofNat_Int,Int.reduceLT,Int.reduceLE,Int.reduceEq,Int.reduceToNat,decide_true,decide_false,Bool.false_eq_true,g3,g5,g6,g7,g8,g11,g9,g10,o0,hz,hzj]
        |(refine qc (fun h h_=>?_) (fun h h_=>?_)<;>(try simp only[wD,reduceCtorEq]at h_)<;>(try(exfalso;first|omega|exact absurd (Eq.trans (Eq.symm h_) (by assumption):false=true) (by decide)|exact absurd (Eq.trans (Eq.symm h_) (by assumption):true=false) (by decide)|(refine absurd ?_ h_;focus assumption)|(refine absurd h_ ?_;focus assumption)))<;>(try simp only[h]))
        |((first|refine qE (fun h=>?_) (fun h=>?_)|refine qF (fun h=>?_) (fun h=>?_))<;>have h_:=h<;>(try simp only[wD,reduceCtorEq]at h_)<;>(try(exfalso;first|omega|exact absurd (Eq.trans (Eq.symm h_) (by assumption):false=true) (by decide)|exact absurd (Eq.trans (Eq.symm h_) (by assumption):true=false) (by decide)|(refine absurd ?_ h_;focus assumption)|(refine absurd h_ ?_;focus assumption)))<;>(try simp only[h]))
        |refine t_ ?_
        |apply qm;omega;exact wd_
        |apply qz;(focus(first|omega|(simp only[wZ]<;>omega)))
        |apply qg;exact wu_;exact wu_;(focus((try simp -implicitDefEqProofs only[wE,Nat.reduceAdd]);rfl))
        |apply qh;exact wd_;exact wu_
        |apply qi;exact wu_
        |apply qp;exact wf_;exact wu_;exact wu_;(focus(intro _;with_unfolding_all rfl))
        |apply qw;exact wu_;exact wu_;exact wu_
        |refine cq0 qV ?_
        |refine qM we_ (jd wf_ wf_) ?_
        |refine qM we_ (zo wf_) ?_
        |simp -implicitDefEqProofs (disch:=omega) only[w64,if_neg]
       refine ql ?nx3 (fun(r:Nat) s=>s.f 3=?v3_3∧s.f 5=?v3_5∧s.f 6=?v3_6∧s.f 7=?v3_7∧s.f 8=?v3_8∧s.f 9=?v3_9∧s.f 10=?v3_10∧s.f 11=?v3_11∧s.H 10=some (MObj.own 5 [g.V] false)∧s.f 14=vi r∧(r≤pr.length)∧(s.f 12=V.bool (zB false E (pr.take r)))∧(s.f 13=V.bool (zB true F (pr.take r)))) (fun r=>pr.length - r) (0) wj_ (by refine⟨?_,?_,?_,?_,?_,?_,?_,?_,?_,?_,wo_,(by(try simp -implicitDefEqProofs only[wL,wM,wN,seval,g3,g5,g6,g7,g8,g11,g9,g10,o0]);rfl),(by(try simp -implicitDefEqProofs only[wL,wM,wN,seval,g3,g5,g6,g7,g8,g11,g9,g10,o0]);rfl)⟩<;>first|(simp -implicitDefEqProofs only[wL,wM,wN,wX,seval,Option.some.injEq,g3,g5,g6,g7,g8,g11,g9,g10,o0]<;>exact wt_)|rfl|exact⟨_,rfl⟩) ?_
       intro r s hnx ⟨g3,g5,g6,g7,g8,g9,g10,g11,o0,g14,k3_0,g12,g13⟩
       have hzr:=w1_ r
       by_cases hr:r<pr.length
       · have hgr:pr[r]?=some pr[r]:=ge_ hr
         have hym:=List.getElem_mem hr
         have hc:=hcl3 _ hym
         have q1:=hh1 _ (hrt _ hym)
         have q2:=hh2 _ (hrt _ hym)
         have t1:=YH false E (pr.take r) pr[r]
         have t2:=YH true F (pr.take r) pr[r]
         rw[show pr.take r++[pr[r]]=pr.take (r+1) by rw[List.take_add_one,hgr];rfl]at t1 t2
         generalize pr[r]=y at *
         have c1:=jk (a:=N0) (x:=y) o_
         have c2:=jk (a:=N1) (x:=y) o_
         have c3:=jk (a:=R) (x:=y) o_
         generalize decide (y∈N0)=b0 at *
         generalize decide (y∈N1)=b1 at *
         generalize decide (y∈R)=b2 at *
         have u1:zB false E (pr.take (r+1))=(zB false E (pr.take r) && b0):=by
          rw[t1,q1];split
          · rfl
          · cases E (y - 1000).toNat<;>rfl
         have u2:zB true F (pr.take (r+1))=(zB true F (pr.take r) && !b1):=by
          rw[t2,q2];split
          · rfl
          · cases F (y - 1000).toNat<;>rfl
         generalize zB false E (pr.take r)=ff at *
         generalize zB true F (pr.take r)=tt at *
         have hcx: ¬ (a=true∧b2=false):=fun h=>by rw[hc h.1]at h;cases h.2
         repeat' with_reducible first
          |refine s_ ?_
          |refine s_ ?_
          |refine s_ ?_
          |simp -implicitDefEqProofs only[wS,wT,wU,wV,wW,wX,wY,wC,wF,wG,wL,wM,wN,seval,Int.cast_ofNat_Int,Int.reduceLT,Int.reduceLE,Int.reduceEq,Int.reduceToNat,decide_true,decide_false,Bool.false_eq_true,g3,g5,g6,g7,g8,g9,g10,g11,g14,g12,g13,o0,hzr,hz2]
          |(refine qc (fun h h_=>?_) (fun h h_=>?_)<;>(try simp only[wD,reduceCtorEq]at h_)<;>(try(exfalso;first|omega|exact absurd (Eq.trans (Eq.symm h_) (by assumption):false=true) (by decide)|exact absurd (Eq.trans (Eq.symm h_) (by assumption):true=false) (by decide)|(refine absurd ?_ h_;focus assumption)|(refine absurd h_ ?_;focus assumption)))<;>(try simp only[h]))
          |((first|refine qE (fun h=>?_) (fun h=>?_)|refine qF (fun h=>?_) (fun h=>?_))<;>have h_:=h<;>(try simp only[wD,reduceCtorEq]at h_)<;>(try(exfalso;first|omega|exact absurd (Eq.trans (Eq.symm h_) (by assumption):false=true) (by decide)|exact absurd (Eq.trans (Eq.symm h_) (by assumption):true=false) (by decide)|(refine absurd ?_ h_;focus assumption)|(refine absurd h_ ?_;focus assumption)))<;>(try simp only[h]))
          |refine t_ ?_
          |refine cq2 c1 qD qD ?_
          |refine cq2 c2 qD qD ?_
          |refine cq2 c3 qD qD ?_
          |refine cq2 ha0 qD qD ?_
          |apply qm;omega;exact wd_
          |apply qz;(focus(first|omega|(simp only[wZ]<;>omega)))
          |apply qg;exact wu_;exact wu_;(focus((try simp -implicitDefEqProofs only[wE,Nat.reduceAdd]);rfl))
          |apply qh;exact wd_;exact wu_
          |apply qi;exact wu_
          |apply qp;exact wf_;exact wu_;exact wu_;(focus(intro _;with_unfolding_all rfl))
          |apply qw;exact wu_;exact wu_;exact wu_
          |refine cq0 qV ?_
          |refine qM we_ (jd wf_ wf_) ?_
          |refine qM we_ (zo wf_) ?_
          |simp -implicitDefEqProofs (disch:=omega) only[w64,if_neg]
         all_goals first
          |(exfalso;exact hcx ⟨by assumption,by assumption⟩)
          | (refine⟨wg_,r+1,o_,?_⟩;(repeat refine⟨True.intro,?_⟩)
             exact⟨rfl,o_,by rw[u1];first|(rw[show ff=true by assumption];rfl)|(rw[show ff=false by assumption];rfl),by rw[u2];first|(rw[show tt=true by assumption];rfl)|(rw[show tt=false by assumption];rfl)⟩)
       · have er:pr.take r=pr:=List.take_of_length_le o_
         rw[er]at g12 g13
         generalize zB false E pr=ff at *
         generalize zB true F pr=tt at *
         repeat' with_reducible first
          |refine s_ ?_
          |refine s_ ?_
          |refine s_ ?_
          |simp -implicitDefEqProofs only[wS,wT,wU,wV,wW,wX,wY,wC,wF,wG,wL,wM,wN,seval,Int.cast_ofNat_Int,Int.reduceLT,Int.reduceLE,Int.reduceEq,Int.reduceToNat,decide_true,decide_false,Bool.false_eq_true,g3,g5,g6,g7,g8,g9,g10,g11,g14,g12,g13,o0,hzj]
          |(refine qc (fun h h_=>?_) (fun h h_=>?_)<;>(try simp only[wD,reduceCtorEq]at h_)<;>(try(exfalso;first|omega|exact absurd (Eq.trans (Eq.symm h_) (by assumption):false=true) (by decide)|exact absurd (Eq.trans (Eq.symm h_) (by assumption):true=false) (by decide)|(refine absurd ?_ h_;focus assumption)|(refine absurd h_ ?_;focus assumption)))<;>(try simp only[h]))
          |((first|refine qE (fun h=>?_) (fun h=>?_)|refine qF (fun h=>?_) (fun h=>?_))<;>have h_:=h<;>(try simp only[wD,reduceCtorEq]at h_)<;>(try(exfalso;first|omega|exact absurd (Eq.trans (Eq.symm h_) (by assumption):false=true) (by decide)|exact absurd (Eq.trans (Eq.symm h_) (by assumption):true=false) (by decide)|(refine absurd ?_ h_;focus assumption)|(refine absurd h_ ?_;focus assumption)))<;>(try simp only[h]))
          |refine t_ ?_
          |apply qm;omega;exact wd_
          |apply qz;(focus(first|omega|(simp only[wZ]<;>omega)))
          |apply qg;exact wu_;exact wu_;(focus((try simp -implicitDefEqProofs only[wE,Nat.reduceAdd]);rfl))
          |apply qh;exact wd_;exact wu_
          |apply qi;exact wu_
          |apply qp;exact wf_;exact wu_;exact wu_;(focus(intro _;with_unfolding_all rfl))
          |apply qw;exact wu_;exact wu_;exact wu_
          |refine cq0 qV ?_
          |refine qM we_ (jd wf_ wf_) ?_
          |refine qM we_ (zo wf_) ?_
          |simp -implicitDefEqProofs (disch:=omega) only[w64,if_neg]
         all_goals
          refine⟨wg_,j+1,o_,?_⟩;(repeat refine⟨True.intro,?_⟩)
          exact⟨rfl,o_,by rw[hs1];first|(rw[show e0=true by assumption];rfl)|(rw[show e0=false by assumption];rfl),by rw[hs2];first|(rw[show f0=true by assumption];rfl)|(rw[show f0=false by assumption];rfl)⟩
     · skip
       rw[decide_eq_false hln,Bool.false_and,Bool.or_false]at hs1 hs2
       repeat' with_reducible first
        |refine s_ ?_
        |refine s_ ?_
        |refine s_ ?_
        |simp -implicitDefEqProofs only[wS,wT,wU,wV,wW,wX,wY,wC,wF,wG,wL,wM,wN,seval,Int.cast_ofNat_Int,Int.reduceLT,Int.reduceLE,Int.reduceEq,Int.reduceToNat,decide_true,decide_false,Bool.false_eq_true,g3,g5,g6,g7,g8,g11,g9,g10,o0,hzj]
        |(refine qc (fun h h_=>?_) (fun h h_=>?_)<;>(try simp only[wD,reduceCtorEq]at h_)<;>(try(exfalso;first|omega|exact absurd (Eq.trans (Eq.symm h_) (by assumption):false=true) (by decide)|exact absurd (Eq.trans (Eq.symm h_) (by assumption):true=false) (by decide)|(refine absurd ?_ h_;focus assumption)|(refine absurd h_ ?_;focus assumption)))<;>(try simp only[h]))
        |((first|refine qE (fun h=>?_) (fun h=>?_)|refine qF (fun h=>?_) (fun h=>?_))<;>have h_:=h<;>(try simp only[wD,reduceCtorEq]at h_)<;>(try(exfalso;first|omega|exact absurd (Eq.trans (Eq.symm h_) (by assumption):false=true) (by decide)|exact absurd (Eq.trans (Eq.symm h_) (by assumption):true=false) (by decide)|(refine absurd ?_ h_;focus assumption)|(refine absurd h_ ?_;focus assumption)))<;>(try simp only[h]))
        |refine t_ ?_
        |apply qm;omega;exact wd_
        |apply qz;(focus(first|omega|(simp only[wZ]<;>omega)))
        |apply qg;exact wu_;exact wu_;(focus((try simp -implicitDefEqProofs only[wE,Nat.reduceAdd]);rfl))
        |apply qh;exact wd_;exact wu_
        |apply qi;exact wu_
        |apply qp;exact wf_;exact wu_;exact wu_;(focus(intro _;with_unfolding_all rfl))
        |apply qw;exact wu_;exact wu_;exact wu_
        |refine cq0 qV ?_
        |refine qM we_ (jd wf_ wf_) ?_
        |refine qM we_ (zo wf_) ?_
        |simp -implicitDefEqProofs (disch:=omega) only[w64,if_neg]
       refine⟨wg_,j+1,o_,?_⟩;(repeat refine⟨True.intro,?_⟩)
       exact⟨rfl,o_,by rw[hs1],by rw[hs2]⟩
   · have ej:g.prods.take j=g.prods:=List.take_of_length_le o_
     rw[ej,qbX hg hE]at g9
     rw[ej,qbX hg hF]at g10
     have q1:=hh1 (1000+(n:Int)) (Or.inr ⟨n,rfl,hn⟩)
     have q2:=hh2 (1000+(n:Int)) (Or.inr ⟨n,rfl,hn⟩)
     rw[if_neg o_,show (1000+(n:Int) - 1000).toNat=n by omega]at q1 q2
     have c1:=jk (a:=N0) (x:=1000+(n:Int)) o_
     have c2:=jk (a:=N1) (x:=1000+(n:Int)) o_
     rw[q1,show (E n == true)=E n by cases E n<;>rfl]at c1
     rw[q2,show (F n == false)= !F n by cases F n<;>rfl]at c2
     have hupn:=hup n
     generalize E n=e0 at *
     generalize F n=f0 at *
     have hno: ¬ (e0=true∧f0=false):=fun h=>by rw[hupn h.1]at h;cases h.2
     have w1:(true == false)=false:=rfl
     have w2:(false == true)=false:=rfl
     have w3:(true == true)=true:=rfl
     have w4:(false == false)=true:=rfl
     cases e0<;>cases f0<;>simp only[Bool.not_false,Bool.not_true]at c2
     · repeat' with_reducible first
        |refine s_ ?_
        |refine s_ ?_
        |refine s_ ?_
        |simp -implicitDefEqProofs only[wS,wT,wU,wV,wW,wX,wY,wC,wF,wG,wL,wM,wN,seval,Int.cast_ofNat_Int,Int.reduceLT,Int.reduceLE,Int.reduceEq,Int.reduceToNat,decide_true,decide_false,Bool.false_eq_true,g3,g5,g6,g7,g8,g11,g9,g10,o0,hz,hz2,w1,w2,w3,w4]
        |(refine qc (fun h h_=>?_) (fun h h_=>?_)<;>(try simp only[wD,reduceCtorEq]at h_)<;>(try(exfalso;first|omega|exact absurd (Eq.trans (Eq.symm h_) (by assumption):false=true) (by decide)|exact absurd (Eq.trans (Eq.symm h_) (by assumption):true=false) (by decide)|(refine absurd ?_ h_;focus assumption)|(refine absurd h_ ?_;focus assumption)))<;>(try simp only[h]))
        |((first|refine qE (fun h=>?_) (fun h=>?_)|refine qF (fun h=>?_) (fun h=>?_))<;>have h_:=h<;>(try simp only[wD,reduceCtorEq]at h_)<;>(try(exfalso;first|omega|exact absurd (Eq.trans (Eq.symm h_) (by assumption):false=true) (by decide)|exact absurd (Eq.trans (Eq.symm h_) (by assumption):true=false) (by decide)|(refine absurd ?_ h_;focus assumption)|(refine absurd h_ ?_;focus assumption)))<;>(try simp only[h]))
        |refine cq2 c1 qD qD ?_
        |refine cq2 c2 qD qD ?_
        |refine t_ ?_
        |apply qm;omega;exact wd_
        |apply qz;(focus(first|omega|(simp only[wZ]<;>omega)))
        |apply qg;exact wu_;exact wu_;(focus((try simp -implicitDefEqProofs only[wE,Nat.reduceAdd]);rfl))
        |apply qh;exact wd_;exact wu_
        |apply qi;exact wu_
        |apply qp;exact wf_;exact wu_;exact wu_;(focus(intro _;with_unfolding_all rfl))
        |apply qw;exact wu_;exact wu_;exact wu_
        |refine cq0 qV ?_
        |refine qM we_ (jd wf_ wf_) ?_
        |refine qM we_ (zo wf_) ?_
        |simp -implicitDefEqProofs (disch:=omega) only[w64,if_neg]
       exact⟨wg_,n+1,o_,trivial,trivial,trivial,trivial,trivial,rfl,o_⟩
     · repeat' with_reducible first
        |refine s_ ?_
        |refine s_ ?_
        |refine s_ ?_
        |simp -implicitDefEqProofs only[wS,wT,wU,wV,wW,wX,wY,wC,wF,wG,wL,wM,wN,seval,Int.cast_ofNat_Int,Int.reduceLT,Int.reduceLE,Int.reduceEq,Int.reduceToNat,decide_true,decide_false,Bool.false_eq_true,g3,g5,g6,g7,g8,g11,g9,g10,o0,hz,hz2,w1,w2,w3,w4]
        |(refine qc (fun h h_=>?_) (fun h h_=>?_)<;>(try simp only[wD,reduceCtorEq]at h_)<;>(try(exfalso;first|omega|exact absurd (Eq.trans (Eq.symm h_) (by assumption):false=true) (by decide)|exact absurd (Eq.trans (Eq.symm h_) (by assumption):true=false) (by decide)|(refine absurd ?_ h_;focus assumption)|(refine absurd h_ ?_;focus assumption)))<;>(try simp only[h]))
        |((first|refine qE (fun h=>?_) (fun h=>?_)|refine qF (fun h=>?_) (fun h=>?_))<;>have h_:=h<;>(try simp only[wD,reduceCtorEq]at h_)<;>(try(exfalso;first|omega|exact absurd (Eq.trans (Eq.symm h_) (by assumption):false=true) (by decide)|exact absurd (Eq.trans (Eq.symm h_) (by assumption):true=false) (by decide)|(refine absurd ?_ h_;focus assumption)|(refine absurd h_ ?_;focus assumption)))<;>(try simp only[h]))
        |refine cq2 c1 qD qD ?_
        |refine cq2 c2 qD qD ?_
        |refine t_ ?_
        |apply qm;omega;exact wd_
        |apply qz;(focus(first|omega|(simp only[wZ]<;>omega)))
        |apply qg;exact wu_;exact wu_;(focus((try simp -implicitDefEqProofs only[wE,Nat.reduceAdd]);rfl))
        |apply qh;exact wd_;exact wu_
        |apply qi;exact wu_
        |apply qp;exact wf_;exact wu_;exact wu_;(focus(intro _;with_unfolding_all rfl))
        |apply qw;exact wu_;exact wu_;exact wu_
        |refine cq0 qV ?_
        |refine qM we_ (jd wf_ wf_) ?_
        |refine qM we_ (zo wf_) ?_
        |simp -implicitDefEqProofs (disch:=omega) only[w64,if_neg]
       exact⟨wg_,n+1,o_,trivial,trivial,trivial,trivial,trivial,rfl,o_⟩
     · exact absurd ⟨rfl,rfl⟩ hno
     · repeat' with_reducible first
        |refine s_ ?_
        |refine s_ ?_
        |refine s_ ?_
        |simp -implicitDefEqProofs only[wS,wT,wU,wV,wW,wX,wY,wC,wF,wG,wL,wM,wN,seval,Int.cast_ofNat_Int,Int.reduceLT,Int.reduceLE,Int.reduceEq,Int.reduceToNat,decide_true,decide_false,Bool.false_eq_true,g3,g5,g6,g7,g8,g11,g9,g10,o0,hz,hz2,w1,w2,w3,w4]
        |(refine qc (fun h h_=>?_) (fun h h_=>?_)<;>(try simp only[wD,reduceCtorEq]at h_)<;>(try(exfalso;first|omega|exact absurd (Eq.trans (Eq.symm h_) (by assumption):false=true) (by decide)|exact absurd (Eq.trans (Eq.symm h_) (by assumption):true=false) (by decide)|(refine absurd ?_ h_;focus assumption)|(refine absurd h_ ?_;focus assumption)))<;>(try simp only[h]))
        |((first|refine qE (fun h=>?_) (fun h=>?_)|refine qF (fun h=>?_) (fun h=>?_))<;>have h_:=h<;>(try simp only[wD,reduceCtorEq]at h_)<;>(try(exfalso;first|omega|exact absurd (Eq.trans (Eq.symm h_) (by assumption):false=true) (by decide)|exact absurd (Eq.trans (Eq.symm h_) (by assumption):true=false) (by decide)|(refine absurd ?_ h_;focus assumption)|(refine absurd h_ ?_;focus assumption)))<;>(try simp only[h]))
        |refine cq2 c1 qD qD ?_
        |refine cq2 c2 qD qD ?_
        |refine t_ ?_
        |apply qm;omega;exact wd_
        |apply qz;(focus(first|omega|(simp only[wZ]<;>omega)))
        |apply qg;exact wu_;exact wu_;(focus((try simp -implicitDefEqProofs only[wE,Nat.reduceAdd]);rfl))
        |apply qh;exact wd_;exact wu_
        |apply qi;exact wu_
        |apply qp;exact wf_;exact wu_;exact wu_;(focus(intro _;with_unfolding_all rfl))
        |apply qw;exact wu_;exact wu_;exact wu_
        |refine cq0 qV ?_
        |refine qM we_ (jd wf_ wf_) ?_
        |refine qM we_ (zo wf_) ?_
        |simp -implicitDefEqProofs (disch:=omega) only[w64,if_neg]
       exact⟨wg_,n+1,o_,trivial,trivial,trivial,trivial,trivial,rfl,o_⟩
 · skip
   have cR:=jk (a:=R) (x:=1000) o_
   rw[decide_eq_true hR0]at cR
   have hzl:IntKind.i64.wrap ((g.toks.length:Int)+(g.nons.length:Int))=((g.toks.length+g.nons.length:Nat):Int):=by rw[wrap64 o_ o_];omega
   have hle:decide ((R.length:Int)≤((g.toks.length+g.nons.length:Nat):Int))=true:=decide_eq_true o_
   repeat' with_reducible first
    |refine s_ ?_
    |refine s_ ?_
    |refine s_ ?_
    |simp -implicitDefEqProofs only[wS,wT,wU,wV,wW,wX,wY,wC,wF,wG,wL,wM,wN,seval,Int.cast_ofNat_Int,Int.reduceLT,Int.reduceLE,Int.reduceEq,Int.reduceToNat,decide_true,decide_false,Bool.false_eq_true,g3,g5,g6,g7,g8,o0,hzl,hle]
    |(refine qc (fun h h_=>?_) (fun h h_=>?_)<;>(try simp only[wD,reduceCtorEq]at h_)<;>(try(exfalso;first|omega|exact absurd (Eq.trans (Eq.symm h_) (by assumption):false=true) (by decide)|exact absurd (Eq.trans (Eq.symm h_) (by assumption):true=false) (by decide)|(refine absurd ?_ h_;focus assumption)|(refine absurd h_ ?_;focus assumption)))<;>(try simp only[h]))
    |((first|refine qE (fun h=>?_) (fun h=>?_)|refine qF (fun h=>?_) (fun h=>?_))<;>have h_:=h<;>(try simp only[wD,reduceCtorEq]at h_)<;>(try(exfalso;first|omega|exact absurd (Eq.trans (Eq.symm h_) (by assumption):false=true) (by decide)|exact absurd (Eq.trans (Eq.symm h_) (by assumption):true=false) (by decide)|(refine absurd ?_ h_;focus assumption)|(refine absurd h_ ?_;focus assumption)))<;>(try simp only[h]))
    |refine cq2 cR qD qD ?_
    |refine t_ ?_
    |apply qm;omega;exact wd_
    |apply qz;(focus(first|omega|(simp only[wZ]<;>omega)))
    |apply qg;exact wu_;exact wu_;(focus((try simp -implicitDefEqProofs only[wE,Nat.reduceAdd]);rfl))
    |apply qh;exact wd_;exact wu_
    |apply qi;exact wu_
    |apply qp;exact wf_;exact wu_;exact wu_;(focus(intro _;with_unfolding_all rfl))
    |apply qw;exact wu_;exact wu_;exact wu_
    |refine cq0 qV ?_
    |refine qM we_ (jd wf_ wf_) ?_
    |refine qM we_ (zo wf_) ?_
    |simp -implicitDefEqProofs (disch:=omega) only[w64,if_neg]
   all_goals refine qP rfl (Or.inr rfl) ?_
   all_goals(try simp -implicitDefEqProofs only[wL,seval,g3,g5,g6,g7,g8])
   all_goals refine er_ ?_
   all_goals(try(with_reducible rfl))
end Go.Proofs
