/- Part of a proof that a law of the given program answers true. -/
import Derived.Test.YtjdjdbkoplmjeaaGreatDoorUUA
import Derived.Test.YtjdjdbkoplmjeaaGreatDoorUCA
import Derived.Test.YtjdjdbkoplmjeaaGreatDoorURA
import Derived.Test.YtjdjdbkoplmjeaaGreatDoorUVE
set_option maxRecDepth 20000
set_option linter.unusedSimpArgs false
set_option linter.unusedVariables false
set_option maxHeartbeats 8000000
namespace Go.Proofs
open Go.E
theorem Zz {g:Grammar} {R:List Int} (hg:GOk g) (hr:Xy R) (hR: ∀x,x∈R↔Rchd g.prods x) (hl:R.length≤1000000):Pure Tryz.prog 16 [g.V] (.sl 1 false (R.map (V.int .i64))):=by
 refine pure_intro Tryz.func16 qsz qtt (by show 1≤61;decide) ?_
 show ewp _ qhM _ _
 have hnl:=hg.nn2;have hpl:=hg.pl2
 have h0:=RS.start ((hR 1000).2 .start)
 repeat' with_reducible first
  |refine s_ ?_
  |simp -implicitDefEqProofs only[wZZ,seval]
  |refine t_ ?_
 refine qf ?nx1 (fun(q:List Int×Bool) s=>s.f 1=?v1_1∧s.H 0=some (MObj.own 5 [g.V] false)∧(∃c,s.f 3=.sl 1 c (q.1.map (V.int .i64)))∧s.f 4=.bool q.2∧(RS R q.1)∧((q.2=false→RC g.prods q.1))) (fun q=>2 *mU R q.1+(if q.2=true then 1 else 0)) (([1000],true)) wj_ (by refine⟨?_,?_,?_,?_,wo_,(by intro h;cases h)⟩<;>first|(simp -implicitDefEqProofs only[wL,wM,wN,wX,seval,Option.some.injEq]<;>exact wt_)|rfl|exact⟨_,rfl⟩) ?_
 intro q s hnx ⟨g1,o0,⟨c3,g3⟩,g4,k1_0,k1_1⟩
 obtain ⟨o,b⟩:=q
 dsimp only at *
 have ho:=k1_0.len
 cases b with
 | false=>
   have e:=k1_0.all hr hR (k1_1 rfl)
   subst e
   repeat' with_reducible first
    |refine s_ ?_
    |simp -implicitDefEqProofs only[wZZ,seval,g1,g3,g4,o0]
   all_goals refine qA rfl (Or.inr rfl) ?_
   all_goals(try simp -implicitDefEqProofs only[wL,seval,g1,g3,g4])
   all_goals refine er_ ?_
   all_goals(try(with_reducible rfl))
 | true =>
   clear k1_1
   repeat' with_reducible first
    |refine s_ ?_
    |simp -implicitDefEqProofs only[wZZ,seval,g1,g3,g4,o0]
   refine qf ?nx2 (fun(r:Nat×List Int×Bool) s=>s.f 1=?v2_1∧s.H 0=some (MObj.own 5 [g.V] false)∧(∃c,s.f 3=.sl 1 c (r.2.1.map (V.int .i64)))∧s.f 4=.bool r.2.2∧s.f 5=vi r.1∧(r.1≤g.prods.length)∧(RT g.prods R o r.1 r.2.1 r.2.2)) (fun r=>g.prods.length - r.1) ((0,o,false)) wj_ (by refine⟨?_,?_,?_,?_,?_,wo_,(by exact RT.start k1_0)⟩<;>first|(simp -implicitDefEqProofs only[wL,wM,wN,wX,seval,Option.some.injEq,g1,g3,g4,o0]<;>exact wt_)|rfl|exact⟨_,rfl⟩) ?_
   intro r s hnx ⟨g1,o0,⟨c3,g3⟩,g4,g5,k2_0,k2_1⟩
   obtain ⟨i,o1,m⟩:=r
   dsimp only at *
   have ho1:=k2_1.rs.len
   have hz:=w1_ i
   by_cases hi:i<g.prods.length
   · have hmem:=List.getElem_mem hi
     obtain ⟨lf,hl1,hl2⟩:=hg.left _ hmem
     have hrl:=hg.rlen _ hmem
     generalize hp:g.prods[i]=p at *
     have hgp:g.prods[i]?=some p:=by rw[ge_ hi,hp]
     clear hp
     have hz2:IntKind.i64.wrap (1000+(lf:Int))=1000+(lf:Int):=wrap64 o_ o_
     have hhas:=QW (a:=o1) (x:=1000+(lf:Int)) o_
     obtain ⟨pl,pr,pc,pco,pa,pat⟩:=p
     dsimp only at hl1 hrl
     subst hl1
     by_cases hin:1000+(lf:Int)∈o1
     · rw [decide_eq_true hin]at hhas
       repeat' with_reducible first
        |refine s_ ?_
        |simp -implicitDefEqProofs only[wZZ,seval,g1,g3,g4,g5,o0,hz,hz2]
        |apply qc<;>intro h h_<;>(try simp only[wD,reduceCtorEq]at h_)<;>(try exact wb_)<;>(try simp only[h])
        |refine t_ ?_
        |apply zC (hp:=hhas);(focus first|exact ql|exact ZG);exact ql
       refine qf ?nx3 (fun(u:Nat×List Int×Bool) s=>s.f 1=?v3_1∧s.f 5=?v3_5∧s.H 0=some (MObj.own 5 [g.V] false)∧(∃c,s.f 3=.sl 1 c (u.2.1.map (V.int .i64)))∧s.f 4=.bool u.2.2∧s.f 6=vi u.1∧(u.1≤pr.length)∧(RK g.prods R o i ⟨lf,pr,pc,pco,pa,pat⟩ u.1 u.2.1 u.2.2)) (fun u=>pr.length - u.1) ((0,o1,m)) wj_ (by refine⟨?_,?_,?_,?_,?_,?_,wo_,(by exact k2_1.enter hin)⟩<;>first|(simp -implicitDefEqProofs only[wL,wM,wN,wX,seval,Option.some.injEq,g1,g3,g4,g5,o0]<;>exact wt_)|rfl|exact⟨_,rfl⟩) ?_
       intro u s hnx ⟨g1,g5,o0,⟨c3,g3⟩,g4,g6,k3_0,k3_1⟩
       obtain ⟨k,o2,m2⟩:=u
       dsimp only at *
       have ho2:=k3_1.rs.len
       have hzk:=w1_ k
       by_cases hk:k<pr.length
       · have hgs:pr[k]?=some pr[k]:=ge_ hk
         have hsR:=k3_1.rs.sym hR hmem k3_1.lf (List.getElem_mem hk)
         generalize pr[k]=sy at *
         have hh2:=QW (a:=o2) (x:=sy) o_
         have hput:=YM (l:=o2) (x:=sy) o_
         by_cases hs:sy∈o2
         · rw[decide_eq_true hs]at hh2
           have hnx:=k3_1.have' hgs hs
           repeat' with_reducible first
            |refine s_ ?_
            |simp -implicitDefEqProofs only[wZZ,seval,g1,g5,g3,g4,g6,o0,hzk]
            |apply qc<;>intro h h_<;>(try simp only[wD,reduceCtorEq]at h_)<;>(try exact wb_)<;>(try simp only[h])
            |refine t_ ?_
            |apply zC (hp:=hh2);(focus first|exact ql|exact ZG);exact ql
           refine⟨wk_,(k+1,o2,m2),o_,?_⟩
           refine⟨?_,?_,?_,?_,?_,?_,?_,?_⟩
           iterate 6 (focus(first|(simp -implicitDefEqProofs only[wL,wM,wN,wX,seval,Option.some.injEq,g1,g5,g3,g4,g6,o0]<;>exact wt_)|rfl|exact⟨_,rfl⟩))
           all_goals try omega
           all_goals exact hnx
         · rw[decide_eq_false hs]at hh2
           have hnx:=k3_1.put k1_0.sub hsR hs
           repeat' with_reducible first
            |refine s_ ?_
            |simp -implicitDefEqProofs only[wZZ,seval,g1,g5,g3,g4,g6,o0,hzk]
            |apply qc<;>intro h h_<;>(try simp only[wD,reduceCtorEq]at h_)<;>(try exact wb_)<;>(try simp only[h])
            |refine t_ ?_
            |apply zC (hp:=hh2);(focus first|exact ql|exact ZG);exact ql
            |apply zC (hp:=hput);(focus first|exact ql|exact ZG);exact ql
           refine⟨wk_,(k+1,VS o2 sy,true),o_,?_⟩
           refine⟨?_,?_,?_,?_,?_,?_,?_,?_⟩
           iterate 6 (focus(first|(simp -implicitDefEqProofs only[wL,wM,wN,wX,seval,Option.some.injEq,g1,g5,g3,g4,g6,o0]<;>exact wt_)|rfl|exact⟨_,rfl⟩))
           all_goals try omega
           all_goals exact hnx
       · have e:k=pr.length:=o_
         rw[e]at k3_1
         have hnx:=k3_1.done hgp
         repeat' with_reducible first
          |refine s_ ?_
          |simp -implicitDefEqProofs only[wZZ,seval,g1,g5,g3,g4,g6,o0,hz]
          |apply qc<;>intro h h_<;>(try simp only[wD,reduceCtorEq]at h_)<;>(try exact wb_)<;>(try simp only[h])
          |refine t_ ?_
         refine⟨wk_,(i+1,o2,m2),o_,?_⟩
         refine⟨?_,?_,?_,?_,?_,?_,?_⟩
         iterate 5 (focus(first|(simp -implicitDefEqProofs only[wL,wM,wN,wX,seval,Option.some.injEq,g1,g5,g3,g4,g6,o0]<;>exact wt_)|rfl|exact⟨_,rfl⟩))
         all_goals try omega
         all_goals exact hnx
     · skip
       rw[decide_eq_false hin]at hhas
       have hnx:=k2_1.skip hgp hin
       repeat' with_reducible first
        |refine s_ ?_
        |simp -implicitDefEqProofs only[wZZ,seval,g1,g3,g4,g5,o0,hz,hz2]
        |apply qc<;>intro h h_<;>(try simp only[wD,reduceCtorEq]at h_)<;>(try exact wb_)<;>(try simp only[h])
        |refine t_ ?_
        |apply zC (hp:=hhas);(focus first|exact ql|exact ZG);exact ql
       refine⟨wk_,(i+1,o1,m),o_,?_⟩
       refine⟨?_,?_,?_,?_,?_,?_,?_⟩
       iterate 5 (focus(first|(simp -implicitDefEqProofs only[wL,wM,wN,wX,seval,Option.some.injEq,g1,g3,g4,g5,o0]<;>exact wt_)|rfl|exact⟨_,rfl⟩))
       all_goals try omega
       all_goals exact hnx
   · have e:i=g.prods.length:=o_
     subst e
     have hno:=k2_1.no
     have hlt:=k2_1.lt
     rw[List.take_length]at hno
     have hfin:m=false→RC g.prods o1:=fun e=>by obtain ⟨e1,e2⟩:=hno e;rw[e1];exact e2
     have hms:2 *mU R o1+(if m=true then 1 else 0)<2 *mU R o+1:=by
      cases m with
      |false=>have e1:=(hno rfl).1;subst e1;simp
      |true=>have:=hlt rfl;simp;omega
     have hrs:=k2_1.rs
     repeat' with_reducible first
      |refine s_ ?_
      |simp -implicitDefEqProofs only[wZZ,seval,g1,g3,g4,g5,o0]
      |refine t_ ?_
     refine⟨wg_,(o1,m),by simpa using hms,?_⟩;(repeat refine⟨True.intro,?_⟩)
     exact⟨⟨_,rfl⟩,rfl,hrs,hfin⟩

theorem qDQ (x:GrI) (y:Source) (i:Nat) (src:Source) (h:[qbp y,zI x][i]?=some src):src.Fits∧(Yv src=true→Small src):=by
 match i,h with
 |0,h=>cases h;exact⟨qe0 y,qcF y⟩
 |1,h=>cases h;exact⟨Z5 x,fun _=>Y3 x⟩
 |i+2,h=>cases h
theorem Qk {y:Source} {x:GrI} (hy:y.Fits) (hb1:x.rules.length≤1099511627776) (hb2: ∀l∈x.rules,l.length≤1099511627776) (hib:x.inner.length≤1099511627776) (hlb:x.levels.length≤1099511627776):Pure Tryz.prog 3 [y.V,x.V] (.bool true):=by
 refine pure_intro Tryz.func3 qE9 qFJ (by show 2≤55;decide) ?_
 show ewp _ qwm _ _
 have hw:=Jc
 have hcut:=YL hy
 have hsrc:=Jh (x:=x) hb1 hb2 hib hlb
 have hsl:V.sl 4 true [(qbp y).V,(zI x).V]=.sl 4 true ([qbp y,zI x].map Source.V):=rfl
 repeat' with_reducible first
  |refine s_ ?_
  |simp -implicitDefEqProofs only[wZZ,seval]
  |refine cq0 hw ?_
  |refine cq1 hcut (Xq y) ?_
  |refine cq1 hsrc ql ?_
  |refine t_ ?_
 rw[hsl]
 have h2:=qDQ x y
 generalize hL:[qbp y,zI x]=L at *
 have hLl:L.length=2:=by rw[← hL];rfl
 clear hL hsl
 refine qf ?nx1 (fun(i:Nat) s=>s.f 5=?v1_5∧s.f 6=vi i∧(i≤L.length)) (fun i=>L.length - i) (0) wj_ (by refine⟨?_,?_,wo_⟩<;>first|(simp -implicitDefEqProofs only[wL,wM,wN,wX,seval,Option.some.injEq]<;>exact wt_)|rfl|exact⟨_,rfl⟩) ?_
 intro i s hnx ⟨g5,g6,k1_0⟩
 have hz:=w1_ i
 by_cases hi:i<L.length
 · have hgi:L[i]?=some L[i]:=ge_ hi
   obtain ⟨hf,hS⟩:=h2 i _ hgi
   have hgr:=xV hf hS
   generalize L[i]=src at *
   have hge:Er false (fun _=>none) src.V src.V:=Xq src
   cases hb:qam src with
   | false=>
     rw[hb]at hgr
     repeat' with_reducible first
      |refine s_ ?_
      |simp -implicitDefEqProofs only[wZZ,seval,g5,g6,hz]
      |apply qc<;>intro h h_<;>(try simp only[wD,reduceCtorEq]at h_)<;>(try exact wb_)<;>(try simp only[h])
      |refine t_ ?_
      |refine cq1 hgr (Xq src) ?_
     exact⟨wg_,i+1,o_,trivial,rfl,o_⟩
   | true=>
     rw[hb]at hgr
     have hg:=gok hb
     obtain ⟨E,hE,hvg⟩:=kV (token:=false) hg
     obtain ⟨E',hE',hng⟩:=XL hg
     obtain rfl:=hE'.uniq hE
     obtain ⟨T,hT,hvt⟩:=kV (token:=true) hg
     have a1:=Zh hg hvg
     have a2:=Zg hg hng
     have b1:=qai hg hvt
     have b2:=XJ hg hT
     have hnl:=hg.nn2
     have hbd:=hg.tk2
     obtain ⟨r1,r2,r3⟩:=qdB (t:=(yC src).toks.length) (n:=(yC src).nons.length) (P:=(yC src).prods) ⟨hg.left,hg.right⟩ hg.nn o_
     have c1:=ZW hg
     have c2:=Zz hg r1 r2 o_
     have l1:=yA (yC src).nons.length E' true
     have l2:=yA (yC src).nons.length T false
     generalize jS (yC src).nons.length E' true=A at *
     generalize jS (yC src).nons.length T false=B at *
     generalize qfE (yC src).toks.length (yC src).nons.length (yC src).prods=C at *
     have e1:=zo (a:=A) (b:=A) o_ o_
     have e2:=zo (a:=B) (b:=B) o_ o_
     have e3:=zo (a:=C) (b:=C) o_ o_
     rw[decide_eq_true rfl]at e1 e2 e3
     generalize yC src=g at *
     repeat' with_reducible first
      |refine s_ ?_
      |simp -implicitDefEqProofs only[wZZ,seval,g5,g6,hz]
      |apply qc<;>intro h h_<;>(try simp only[wD,reduceCtorEq]at h_)<;>(try exact wb_)<;>(try simp only[h])
      |refine t_ ?_
      |refine cq1 hgr (Xq src) ?_
      |refine cq1 a1 ql ?_
      |refine cq1 a2 ql ?_
      |refine cq1 b1 ql ?_
      |refine cq1 b2 ql ?_
      |refine cq1 c1 ql ?_
      |refine cq1 c2 ql ?_
      |refine cq2 e1 ql ql ?_
      |refine cq2 e2 ql ql ?_
      |refine cq2 e3 ql ql ?_
     exact⟨wg_,i+1,o_,trivial,rfl,o_⟩
 · have e:i=L.length:=o_
   repeat' with_reducible first
    |refine s_ ?_
    |simp -implicitDefEqProofs only[wZZ,seval,g5,g6,hz]
    |apply qc<;>intro h h_<;>(try simp only[wD,reduceCtorEq]at h_)<;>(try exact wb_)<;>(try simp only[h])
   all_goals refine qA rfl (Or.inr rfl) ?_
   all_goals(try simp -implicitDefEqProofs only[wL,seval,g5,g6])
   all_goals refine er_ ?_
   all_goals(try(with_reducible rfl))
end Go.Proofs
