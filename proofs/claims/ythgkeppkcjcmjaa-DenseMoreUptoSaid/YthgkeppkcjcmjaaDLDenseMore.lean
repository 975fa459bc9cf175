/- Part of a proof that a law of the given program answers true. -/
import Derived.Test.YthgkeppkcjcmjaaDDM
import Derived.Test.YthgkeppkcjcmjaaDJC
set_option linter.unusedSimpArgs false
set_option linter.unusedVariables false
set_option maxHeartbeats 8000000
namespace Go.Proofs
open Go.E
theorem QD {x:GrI} {w:List Int} {depth steps more:Int} (hb1:x.rules.length≤1099511627776) (hb2: ∀l∈x.rules,l.length≤1099511627776) (hib:x.inner.length≤1099511627776) (hlb:x.levels.length≤1099511627776) (hw:w.length≤1099511627776):Pure Try.prog 4 [x.V,.sl 1 false (w.map (V.int .i64)),vi depth,vi steps,vi more] (.bool true):=by
 refine pure_intro Try.func4 qOb qKS (by show 5≤142;decide) ?_
 show ewp _ qJR _ _
 have hwk:=zK
 have hsrc:=zL (x:=x) hb1 hb2 hib hlb
 obtain ⟨E,hde,hok⟩:=qJ5 x
 generalize hX:qC x=src at *
 clear hX hb1 hb2 hib hlb
 cases hb:zT src with
 | false=>
   rw[hb]at hde
   clear hok
   generalize KE (yY src E)=rw_ at *
   generalize Jg src E=A at *
   generalize Xj src=G at *
   generalize qE src=g at *
   repeat' with_reducible first
    |refine s_ ?_
    |simp only[wZZ,seval]
    |refine cq0 hwk ?_
    |refine cq1 hsrc qb ?_
    |refine cq1 hde (zD src) ?_
    |refine t_ ?_
   all_goals refine qw rfl (Or.inr rfl) ?_
   all_goals(try simp only[wL,seval])
   all_goals refine er_ ?_
   all_goals(try(with_reducible rfl))
 | true=>
   rw[hb]at hde
   obtain ⟨hg,hM,hG,hT⟩:=hok hb
   clear hok
   generalize KE (yY src E)=rw_ at *
   generalize Jg src E=A at *
   generalize Xj src=G at *
   generalize qR src=m at *
   generalize qE src=g at *
   have htk:=hg.tk2
   have hto:=zy (g:=g) (l:=w) (n:=30) (by omega) (by omega) hw
   have hw1:=qB (i:=depth) (n:=60) (by omega) (by omega)
   have hw2:=qB (i:=steps) (n:=200) (by omega) (by omega)
   have hw3:=qB (i:=more) (n:=500) (by omega) (by omega)
   simp only[Int.cast_ofNat_Int]at hto
   obtain ⟨dn,hdn⟩: ∃n:Nat,depth % 60=n:=⟨(depth % 60).toNat,by omega⟩
   obtain ⟨sn,hsn⟩: ∃n:Nat,steps % 200=n:=⟨(steps % 200).toNat,by omega⟩
   obtain ⟨mn,hmn⟩: ∃n:Nat,more % 500=n:=⟨(more % 500).toNat,by omega⟩
   rw[hdn]at hw1
   rw[hsn]at hw2
   rw[hmn]at hw3
   have b1:dn<60:=by omega
   have b2:sn<200:=by omega
   have b3:mn<500:=by omega
   clear hdn hsn hmn
   have hl1:(jI g w 30).length≤1000000:=by unfold jI;rw[List.length_map,List.length_take];omega
   generalize jI g w 30=a at *
   have hz1:IntKind.i64.wrap ((dn:Int)+(mn:Int))=((dn+mn:Nat):Int):=by rw[← Int.natCast_add];exact wrap64 (by omega) (by omega)
   have hz2:IntKind.i64.wrap ((sn:Int)+(mn:Int))=((sn+mn:Nat):Int):=by rw[← Int.natCast_add];exact wrap64 (by omega) (by omega)
   have r1:=zl (l:=a) (depth:=(dn:Nat)) (steps:=(sn:Nat)) hg hM hG hT hl1
   have r2:=zl (l:=a) (depth:=((dn+mn:Nat):Int)) (steps:=((sn+mn:Nat):Int)) hg hM hG hT hl1
   have r3:=zl (l:=a) (depth:=(dn:Nat)) (steps:=((sn+mn:Nat):Int)) hg hM hG hT hl1
   rw[Xp (by omega),Xp (by omega)]at r1 r2 r3
   have q1:=yg (g:=g) (A:=A) (G:=G) (l:=a) (dp:=dn) (sp:=sn) (by omega)
   have q2:=yg (g:=g) (A:=A) (G:=G) (l:=a) (dp:=dn+mn) (sp:=sn+mn) (by omega)
   have q3:=yg (g:=g) (A:=A) (G:=G) (l:=a) (dp:=dn) (sp:=sn+mn) (by omega)
   have f1:=XA (g:=g) (A:=A) (G:=G) (l:=a) (dp:=dn) (dp':=dn+mn) (sp:=sn) (sp':=sn+mn) (by omega) (by omega) (sn+1) (sn+mn+1) [0] {} (by simp) (by simp) (by simp)
   have f2:=XA (g:=g) (A:=A) (G:=G) (l:=a) (dp:=dn) (dp':=dn) (sp:=sn) (sp':=sn+mn) (by omega) (by omega) (sn+1) (sn+mn+1) [0] {} (by simp) (by simp) (by simp)
   have f3:=jE g A G a dn sn (sn+1) [0] {} (by simp) (by simp)
   change (_≠3→zR g A G a (dn+mn) (sn+mn)=zR g A G a dn sn)∧(zR g A G a dn sn).steps≤(zR g A G a (dn+mn) (sn+mn)).steps∧(zR g A G a dn sn).deep≤(zR g A G a (dn+mn) (sn+mn)).deep∧ ∃x,(zR g A G a (dn+mn) (sn+mn)).prods=(zR g A G a dn sn).prods++x at f1
   change (_≠3→zR g A G a dn (sn+mn)=zR g A G a dn sn)∧(zR g A G a dn sn).steps≤(zR g A G a dn (sn+mn)).steps∧(zR g A G a dn sn).deep≤(zR g A G a dn (sn+mn)).deep∧ ∃x,(zR g A G a dn (sn+mn)).prods=(zR g A G a dn sn).prods++x at f2
   have f4:(zR g A G a dn sn).steps≤sn∧(zR g A G a dn sn).deep≤dn:=⟨f3.2.1,by have:=f3.2.2.2.1;simp at this;exact this⟩
   clear f3
   change ((zR g A G a dn sn).kind≠3→_)∧_ at f1
   change ((zR g A G a dn sn).kind≠3→_)∧_ at f2
   generalize zR g A G a dn sn=R1 at *
   generalize zR g A G a (dn+mn) (sn+mn)=R2 at *
   generalize zR g A G a dn (sn+mn)=R3 at *
   obtain ⟨f1,f11,f12,x1,f13⟩:=f1
   obtain ⟨f2,f21,f22,x2,f23⟩:=f2
   by_cases hk:R1.kind=3
   · clear f1 f2
     obtain ⟨k1,a1,s1,d1,p1⟩:=R1
     obtain ⟨k2,a2,s2,d2,p2⟩:=R2
     obtain ⟨k3,a3,s3,d3,p3⟩:=R3
     dsimp only at *
     subst hk f13 f23
     rw[List.length_append]at q2 q3
     have t1:(p1++x1).take p1.length=p1:=List.take_left' rfl
     have t3:(p1++x1).length=p1.length+x1.length:=List.length_append
     have t2:(p1++x2).take p1.length=p1:=List.take_left' rfl
     have t4:(p1++x2).length=p1.length+x2.length:=List.length_append
     have he:=vY (a:=p1) (b:=p1) (by omega) (by omega)
     rw[decide_eq_true rfl]at he
     repeat' with_reducible first
      |refine s_ ?_
      |simp only[wZZ,seval,hz1,hz2,t1,t2]
      |(first|apply qh|apply qg)<;>intro h h_<;>(try simp only[wD,reduceCtorEq]at h_)<;>(try exact wb_)<;>(try simp only[h])
      |refine cq0 hwk ?_
      |refine cq1 hsrc qb ?_
      |refine cq1 hde (zD src) ?_
      |refine t_ ?_
      |refine cq3 hto qb qb qb ?_
      |refine cq2 hw1 qb qb ?_
      |refine cq2 hw2 qb qb ?_
      |refine cq2 hw3 qb qb ?_
      |refine cq5 r1 qb qb qb qb qb ?_
      |refine cq5 r2 qb qb qb qb qb ?_
      |refine cq5 r3 qb qb qb qb qb ?_
      |refine cq2 he qb qb ?_
      |apply xJ;omega;exact wf_
     all_goals refine qw rfl (Or.inr rfl) ?_
     all_goals(try simp only[wL,seval])
     all_goals refine er_ ?_
     all_goals(try(with_reducible rfl))
   · rw[f1 hk]at r2
     rw[f2 hk]at r3
     clear f1 f2 f11 f12 f13 f21 f22 f23
     have heq:=za q1
     repeat' with_reducible first
      |refine s_ ?_
      |simp only[wZZ,seval,hz1,hz2]
      |apply qa<;>intro h h_<;>(try simp only[wD,reduceCtorEq]at h_)<;>(try exact wb_)<;>(try simp only[h])
      |refine cq0 hwk ?_
      |refine cq1 hsrc qb ?_
      |refine cq1 hde (zD src) ?_
      |refine t_ ?_
      |refine cq3 hto qb qb qb ?_
      |refine cq2 hw1 qb qb ?_
      |refine cq2 hw2 qb qb ?_
      |refine cq2 hw3 qb qb ?_
      |refine cq5 r1 qb qb qb qb qb ?_
      |refine cq5 r2 qb qb qb qb qb ?_
      |refine cq5 r3 qb qb qb qb qb ?_
      |refine cq2 heq qb qb ?_
     all_goals refine qw rfl (Or.inr rfl) ?_
     all_goals(try simp only[wL,seval])
     all_goals refine er_ ?_
     all_goals(try(with_reducible rfl))
end Go.Proofs
