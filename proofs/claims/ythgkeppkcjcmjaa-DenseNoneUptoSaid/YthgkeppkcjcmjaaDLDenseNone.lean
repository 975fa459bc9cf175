/- Part of a proof that a law of the given program answers true. -/
import Derived.Test.YthgkeppkcjcmjaaDDN
import Derived.Test.YthgkeppkcjcmjaaDJC
set_option linter.unusedSimpArgs false
set_option linter.unusedVariables false
set_option maxHeartbeats 8000000
namespace Go.Proofs
open Go.E
theorem qbb {p q:List Int} {v:Int} (i:Nat):(p++[v]++q)[i]?=if i<p.length then p[i]? else if i=p.length then some v else q[i - p.length - 1]?:=by
 split
 · rename_i h
   rw[List.getElem?_append_left (by rw[List.length_append];omega),List.getElem?_append_left h]
 · split
   · rename_i h
     subst h
     rw[List.getElem?_append_left (by rw[List.length_append];simp),List.getElem?_append_right (Nat.le_refl _),Nat.sub_self];rfl
   · rw[List.getElem?_append_right (by rw[List.length_append];simp;omega),List.length_append]
     rw[List.length_singleton,Nat.sub_sub]
theorem qe5 {nt:Nat} {p q:List Int} {v:Int} (hv: ¬ (0≤v∧v<nt∧v≠1)) (i:Nat):zw nt (p++[v]++q) i=zw nt (p++[2]++q) i∧zw nt (p++[v]++q) p.length=2:=by
 constructor
 · unfold zw
   rw[qbb,qbb]
   by_cases h1:i<p.length
   · rw[if_pos h1,if_pos h1]
   · rw[if_neg h1,if_neg h1]
     by_cases h2:i=p.length
     · rw[if_pos h2,if_pos h2]
       dsimp only
       rw[if_neg hv]
       split<;>rfl
     · rw[if_neg h2,if_neg h2]
 · unfold zw
   rw[qbb,if_neg (by omega),if_pos rfl]
   dsimp only
   rw[if_neg hv]
theorem Qx {x:GrI} {w:List Int} {at_ v:Int} (hb1:x.rules.length≤1099511627776) (hb2: ∀l∈x.rules,l.length≤1099511627776) (hib:x.inner.length≤1099511627776) (hlb:x.levels.length≤1099511627776) (hw:w.length≤1099511627776):Pure Try.prog 7 [x.V,.sl 1 false (w.map (V.int .i64)),vi at_,vi v] (.bool true):=by
 refine pure_intro Try.func7 qKR qMw (by show 4≤105;decide) ?_
 show ewp _ qtA _ _
 have hwk:=zK
 have hsrc:=zL (x:=x) hb1 hb2 hib hlb
 obtain ⟨E,hde,hok⟩:=qJ5 x
 have hno:= @qiS (qC x) E
 generalize hX:qC x=src at *
 clear hX hb1 hb2 hib hlb
 cases hb:zT src with
 | false=>
   rw[hb]at hde
   clear hok hno
   generalize KE (yY src E)=rw_ at *
   generalize Jg src E=A at *
   generalize Xj src=G at *
   generalize qE src=g at *
   repeat' with_reducible first
    |refine s_ ?_
    |simp only[wZZ,seval]
    |refine cq0 hwk ?_
    |refine cq1 hsrc qb ?_
    |refine cq1 hde (zD src) ?_
    |refine t_ ?_
   all_goals refine qw rfl (Or.inr rfl) ?_
   all_goals(try simp only[wL,seval])
   all_goals refine er_ ?_
   all_goals(try(with_reducible rfl))
 | true=>
   rw[hb]at hde
   obtain ⟨hg,hM,hG,hT⟩:=hok hb
   have hN:=hno hb
   clear hok hno
   generalize KE (yY src E)=rw_ at *
   generalize Jg src E=A at *
   generalize Xj src=G at *
   generalize qR src=m at *
   generalize qE src=g at *
   have htk:=hg.tk2
   have htk3:=hg.tk
   have hto:=zy (g:=g) (l:=w) (n:=25) (by omega) (by omega) hw
   simp only[Int.cast_ofNat_Int]at hto
   have hl1:(jI g w 25).length≤25:=by unfold jI;rw[List.length_map,List.length_take];omega
   generalize jI g w 25=a at *
   have hz0:IntKind.i64.wrap ((a.length:Int)+1)=((a.length+1:Nat):Int):=wrap64 (by omega) (by omega)
   have hw1:=qB (i:=at_) (n:=((a.length+1:Nat):Int)) (by omega) (by omega)
   obtain ⟨k,hk⟩: ∃k:Nat,at_ % ((a.length+1:Nat):Int)=k:=⟨(at_ % ((a.length+1:Nat):Int)).toNat,by have:=Int.emod_nonneg at_ (b:=((a.length+1:Nat):Int)) (by omega);omega⟩
   have hka:k≤a.length:=by have:=Int.emod_lt_of_pos at_ (b:=((a.length+1:Nat):Int)) (by omega);omega
   rw[hk]at hw1
   clear hk
   have hpl:(a.take k).length=k:=by rw[List.length_take];omega
   have key: ∀u:Int,¬ (0≤u∧u<g.toks.length∧u≠1)→ ∃R:RunR,Pure Try.prog 18 [g.V,qdW A G,.sl 1 false ((a.take k++[u]++a.drop k).map (V.int .i64)),vi 900,vi 900] R.V∧Pure Try.prog 18 [g.V,qdW A G,.sl 1 false ((a.take k++[2]++a.drop k).map (V.int .i64)),vi 900,vi 900] R.V∧R.prods.length≤1000001∧R.at_≤k∧
    (R.kind=1→R.at_<k∧ ∀h:R.at_<(a.take k++[u]++a.drop k).length,(a.take k++[u]++a.drop k)[R.at_]=0):=fun u hu=>by
    have hlen: ∀y:Int,(a.take k++[y]++a.drop k).length=a.length+1:=fun y=>by rw[List.length_append,List.length_append,List.length_singleton,List.length_take,List.length_drop];omega
    have r1:=zl (l:=a.take k++[u]++a.drop k) (depth:=900) (steps:=900) hg hM hG hT (by rw[hlen];omega)
    have r2:=zl (l:=a.take k++[2]++a.drop k) (depth:=900) (steps:=900) hg hM hG hT (by rw[hlen];omega)
    rw[show qX 900 100000=900 from rfl,show qX 900 1000000=900 from rfl]at r1 r2
    have hT2:=(qe5 (p:=a.take k) (q:=a.drop k) hu 0).2
    rw[hpl]at hT2
    have he:zR g A G (a.take k++[2]++a.drop k) 900 900=zR g A G (a.take k++[u]++a.drop k) 900 900:=
     Jq 901 [0] {} (by simp) (by simp) fun i _=>(qe5 hu i).1
    rw[he]at r2
    have f1:=Xw hg hM hG hT hN (l:=a.take k++[u]++a.drop k) (dp:=900) (sp:=900) (k:=k) (Or.inr hT2) 901 [0] {} .base (by simp) (by decide)
    refine⟨_,r1,r2,yg (by omega),f1.1,fun h1=>?_⟩
    have f2:=f1.2 h1
    have f3:=f1.1
    change (zR g A G (a.take k++[u]++a.drop k) 900 900).at_≤k at f3
    change zw _ _ (zR g A G (a.take k++[u]++a.drop k) 900 900).at_=0 at f2
    clear f1 he r1 r2
    generalize zR g A G (a.take k++[u]++a.drop k) 900 900=R at *
    have hne:R.at_≠k:=fun e=>by rw[e,hT2]at f2;cases f2
    refine⟨by omega,?_⟩
    intro hlt
    unfold zw at f2
    rw[ge_ hlt]at f2
    dsimp only at f2
    split at f2
    · exact f2
    · cases f2
   clear hN hT hG hM
   have hlen: ∀y:Int,(a.take k++[y]++a.drop k).length=a.length+1:=fun y=>by rw[List.length_append,List.length_append,List.length_singleton,List.length_take,List.length_drop];omega
   by_cases hv:0≤v∧v<g.toks.length
   · obtain ⟨R1,r1,r2,q1,f1,f2⟩:=key 1 (by omega)
     clear key
     have hl:=hlen 1
     have heq:=za q1
     repeat' with_reducible first
      |refine s_ ?_
      |simp only[wZZ,seval,hz0]
      |(first|apply qa|apply qh|apply qg)<;>intro h h_<;>(try simp only[wD,reduceCtorEq]at h_)<;>(try exact wb_)<;>(try simp only[h])
      |refine cq0 hwk ?_
      |refine cq1 hsrc qb ?_
      |refine cq1 hde (zD src) ?_
      |refine t_ ?_
      |refine cq3 hto qb qb qb ?_
      |refine cq2 hw1 qb qb ?_
      |apply ZO (hp:=r1);exact qb;exact qb;(focus(first|exact qb|exact yO));exact qb;exact qb
      |apply ZO (hp:=r2);exact qb;exact qb;(focus(first|exact qb|exact yO));exact qb;exact qb
      |refine cq2 heq qb qb ?_
      |apply qeZ;omega;exact wd_
      |apply QF;(focus(first|exact qI.sl|exact qI.asl|exact qI.str));exact wf_;(focus(unfold maxLen;first|omega|(simp only[wZ]<;>omega)))
      |(refine Q8 ?_;simp only[wM,wN,seval,hz0];apply XI;(focus(first|exact qI.sl|exact qI.asl|exact qI.str));(exact wf_);(focus(unfold maxLen;first|omega|(simp only[wZ]<;>omega))))
      |apply xJ;omega;exact wf_
      |apply vH;omega;exact wf_
      |simp(disch:=omega) only[w64,if_neg]
     all_goals refine qw rfl (Or.inr rfl) ?_
     all_goals(try simp only[wL,seval])
     all_goals refine er_ ?_
     all_goals(try(with_reducible rfl))
     all_goals exact decide_eq_true ((f2 (by omega)).2 _)
   · obtain ⟨R1,r1,r2,q1,f1,f2⟩:=key v (by omega)
     clear key
     have hl:=hlen v
     have heq:=za q1
     repeat' with_reducible first
      |refine s_ ?_
      |simp only[wZZ,seval,hz0]
      |(first|apply qa|apply qh|apply qg)<;>intro h h_<;>(try simp only[wD,reduceCtorEq]at h_)<;>(try exact wb_)<;>(try simp only[h])
      |refine cq0 hwk ?_
      |refine cq1 hsrc qb ?_
      |refine cq1 hde (zD src) ?_
      |refine t_ ?_
      |refine cq3 hto qb qb qb ?_
      |refine cq2 hw1 qb qb ?_
      |apply ZO (hp:=r1);exact qb;exact qb;(focus(first|exact qb|exact yO));exact qb;exact qb
      |apply ZO (hp:=r2);exact qb;exact qb;(focus(first|exact qb|exact yO));exact qb;exact qb
      |refine cq2 heq qb qb ?_
      |apply qeZ;omega;exact wd_
      |apply QF;(focus(first|exact qI.sl|exact qI.asl|exact qI.str));exact wf_;(focus(unfold maxLen;first|omega|(simp only[wZ]<;>omega)))
      |(refine Q8 ?_;simp only[wM,wN,seval,hz0];apply XI;(focus(first|exact qI.sl|exact qI.asl|exact qI.str));(exact wf_);(focus(unfold maxLen;first|omega|(simp only[wZ]<;>omega))))
      |apply xJ;omega;exact wf_
      |apply vH;omega;exact wf_
      |simp(disch:=omega) only[w64,if_neg]
     all_goals refine qw rfl (Or.inr rfl) ?_
     all_goals(try simp only[wL,seval])
     all_goals refine er_ ?_
     all_goals(try(with_reducible rfl))
     all_goals exact decide_eq_true ((f2 (by omega)).2 _)
end Go.Proofs
