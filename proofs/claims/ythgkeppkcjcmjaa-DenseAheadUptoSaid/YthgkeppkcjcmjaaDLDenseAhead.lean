/- Part of a proof that a law of the given program answers true. -/
import Derived.Test.YthgkeppkcjcmjaaDDN
import Derived.Test.YthgkeppkcjcmjaaDJC
set_option linter.unusedSimpArgs false
set_option linter.unusedVariables false
set_option maxHeartbeats 8000000
namespace Go.Proofs
open Go.E
theorem kN {x:GrI} {w other:List Int} (hb1:x.rules.length≤1099511627776) (hb2: ∀l∈x.rules,l.length≤1099511627776) (hib:x.inner.length≤1099511627776) (hlb:x.levels.length≤1099511627776) (hw:w.length≤1099511627776) (ho:other.length≤1099511627776):Pure Try.prog 6 [x.V,.sl 1 false (w.map (V.int .i64)),.sl 1 false (other.map (V.int .i64))] (.bool true):=by
 refine pure_intro Try.func6 qPo qN8 (by show 3≤65;decide) ?_
 show ewp _ qCk _ _
 have hwk:=zK
 have hsrc:=zL (x:=x) hb1 hb2 hib hlb
 obtain ⟨E,hde,hok⟩:=qJ5 x
 have hno:= @qiS (qC x) E
 generalize hX:qC x=src at *
 clear hX hb1 hb2 hib hlb
 cases hb:zT src with
 | false=>
   rw[hb]at hde
   clear hok hno
   generalize KE (yY src E)=rw_ at *
   generalize Jg src E=A at *
   generalize Xj src=G at *
   generalize qE src=g at *
   repeat' with_reducible first
    |refine s_ ?_
    |simp only[wZZ,seval]
    |refine cq0 hwk ?_
    |refine cq1 hsrc qb ?_
    |refine cq1 hde (zD src) ?_
    |refine t_ ?_
   all_goals refine qw rfl (Or.inr rfl) ?_
   all_goals(try simp only[wL,seval])
   all_goals refine er_ ?_
   all_goals(try(with_reducible rfl))
 | true=>
   rw[hb]at hde
   obtain ⟨hg,hM,hG,hT⟩:=hok hb
   have hN:=hno hb
   clear hok hno
   generalize KE (yY src E)=rw_ at *
   generalize Jg src E=A at *
   generalize Xj src=G at *
   generalize qR src=m at *
   generalize qE src=g at *
   have htk:=hg.tk2
   have hto:=zy (g:=g) (l:=w) (n:=25) (by omega) (by omega) hw
   have hto2:=zy (g:=g) (l:=other) (n:=25) (by omega) (by omega) ho
   simp only[Int.cast_ofNat_Int]at hto hto2
   have hl1:(jI g w 25).length≤25:=by unfold jI;rw[List.length_map,List.length_take];omega
   have hl2:(jI g other 25).length≤25:=by unfold jI;rw[List.length_map,List.length_take];omega
   generalize jI g w 25=a at *
   generalize jI g other 25=b at *
   have r1:=zl (l:=a) (depth:=900) (steps:=900) hg hM hG hT (by omega)
   rw[show qX 900 100000=900 from rfl,show qX 900 1000000=900 from rfl]at r1
   have q1:=yg (g:=g) (A:=A) (G:=G) (l:=a) (dp:=900) (sp:=900) (by omega)
   have f1:(zR g A G a 900 900).at_≤a.length:=(Xw hg hM hG hT hN (l:=a) (dp:=900) (sp:=900) (k:=a.length) (Or.inl (by unfold zw;rw[List.getElem?_eq_none (Nat.le_refl _)])) 901 [0] {} .base (by simp) (by decide)).1
   have r2:=zl (l:=a.take ((zR g A G a 900 900).at_+1)++b) (depth:=900) (steps:=900) hg hM hG hT (by rw[List.length_append,List.length_take];omega)
   rw[show qX 900 100000=900 from rfl,show qX 900 1000000=900 from rfl]at r2
   have f2:(zR g A G a 900 900).at_<a.length→zR g A G (a.take ((zR g A G a 900 900).at_+1)++b) 900 900=zR g A G a 900 900:=fun h=>
    Jq 901 [0] {} (by simp) (by simp) fun i hi=>by
     change i≤(zR g A G a 900 900).at_ at hi
     rw[qq3 (by rw[List.length_take];omega)]
     unfold zw
     rw[List.getElem?_take_of_lt (by omega)]
   by_cases hlt:(zR g A G a 900 900).at_<a.length
   · rw[f2 hlt]at r2
     clear f2
     generalize zR g A G a 900 900=R1 at *
     have hz1:IntKind.i64.wrap ((R1.at_:Int)+1)=((R1.at_+1:Nat):Int):=wrap64 (by omega) (by omega)
     have heq:=za q1
     repeat' with_reducible first
      |refine s_ ?_
      |simp only[wZZ,seval,hz1]
      |(first|apply qa|apply qh|apply qg)<;>intro h h_<;>(try simp only[wD,reduceCtorEq]at h_)<;>(try exact wb_)<;>(try simp only[h])
      |refine cq0 hwk ?_
      |refine cq1 hsrc qb ?_
      |refine cq1 hde (zD src) ?_
      |refine t_ ?_
      |refine cq3 hto qb qb qb ?_
      |refine cq3 hto2 qb qb qb ?_
      |refine cq5 r1 qb qb qb qb qb ?_
      |apply ZO (hp:=r2);exact qb;exact qb;(focus(first|exact qb|exact yO));exact qb;exact qb
      |refine cq2 heq qb qb ?_
      |apply QF;(focus(first|exact qI.sl|exact qI.asl|exact qI.str));exact wf_;(focus(unfold maxLen;first|omega|(simp only[wZ]<;>omega)))
      |(refine Q8 ?_;simp only[wM,wN,seval,hz1];apply XI;(focus(first|exact qI.sl|exact qI.asl|exact qI.str));(exact wf_);(focus(unfold maxLen;first|omega|(simp only[wZ]<;>omega))))
      |apply xJ;omega;exact wf_
      |simp(disch:=omega) only[w64,if_neg]
     all_goals refine qw rfl (Or.inr rfl) ?_
     all_goals(try simp only[wL,seval])
     all_goals refine er_ ?_
     all_goals(try(with_reducible rfl))
   · clear f2 r2
     generalize zR g A G a 900 900=R1 at *
     repeat' with_reducible first
      |refine s_ ?_
      |simp only[wZZ,seval]
      |(first|apply qa|apply qh|apply qg)<;>intro h h_<;>(try simp only[wD,reduceCtorEq]at h_)<;>(try exact wb_)<;>(try simp only[h])
      |refine cq0 hwk ?_
      |refine cq1 hsrc qb ?_
      |refine cq1 hde (zD src) ?_
      |refine t_ ?_
      |refine cq3 hto qb qb qb ?_
      |refine cq5 r1 qb qb qb qb qb ?_
     all_goals refine qw rfl (Or.inr rfl) ?_
     all_goals(try simp only[wL,seval])
     all_goals refine er_ ?_
     all_goals(try(with_reducible rfl))
     all_goals exact decide_eq_true (by omega)
end Go.Proofs
