/- Part of a proof that a law of the given program answers true. -/
import Derived.Test.YtjdjdbkoplmjeaaSPA
set_option maxRecDepth 20000
set_option linter.unusedSimpArgs false
set_option linter.unusedVariables false
set_option maxHeartbeats 4000000
namespace Go.Proofs
open Go.E
theorem yH {a0 b0:Nd} {y p a:Int} (ha:a0.size≤1000000000) (hb:b0.size≤1000000000):Pure Try.prog 6 [a0.V,b0.V,vi y,vi p,vi a] (.bool true):=by
 refine pure_intro Try.func6 nm_ qt9 (by show 5≤99;decide) ?_
 show ewp _ qjZ _ _
 have hw:=yB
 have hna:=j6 (t:=a0) (l:=200) o_ o_ o_
 have hca:=vw a0 20 200 o_
 have hnb:=j6 (t:=b0) (l:=200) o_ o_ o_
 have hcb:=vw b0 20 200 o_
 simp only[Int.cast_ofNat_Int]at hna hnb
 have hkA:a0.V=.agg [vi a0.sym,vi a0.prod,vi a0.at_,.sl 4 false (a0.kids.map Nd.V)]:=by obtain ⟨q1,q2,q3,q4⟩:=a0;rw[Nd.V_mk]
 have hkB:b0.V=.agg [vi b0.sym,vi b0.prod,vi b0.at_,.sl 4 false (b0.kids.map Nd.V)]:=by obtain ⟨q1,q2,q3,q4⟩:=b0;rw[Nd.V_mk]
 generalize (jF 20 200 a0).1=u at *
 generalize (jF 20 200 b0).1=v at *
 have hT:(Nd.mk y p a [u,v]).V=.agg [vi y,vi p,vi a,.sl 4 false [u.V,v.V]]:=by rw[Nd.V_mk];rfl
 have hTs:(Nd.mk y p a [u,v]).size=u.size+v.size+1:=by rw[Nd.size,Nd.sizes,Nd.sizes,Nd.sizes];omega
 have h1:=xA _ (.mk y p a [u,v]) (Nat.le_refl _) o_
 have h2:=xA _ u (Nat.le_refl _) o_
 have h3:=xA _ v (Nat.le_refl _) o_
 have y1:=xR (t:= .mk y p a [u,v]) o_
 have y2:=xR (t:=u) o_
 have y3:=xR (t:=v) o_
 have l1:=jK (t:= .mk y p a [u,v]) o_
 have l2:=jK (t:=u) o_
 have l3:=jK (t:=v) o_
 have p1:=xJ (t:= .mk y p a [u,v]) o_
 have p2:=xJ (t:=u) o_
 have p3:=xJ (t:=v) o_
 rw[hTs]at h1
 rw[hT]at h1 y1 l1 p1
 have m1:=u.yld_len
 have m2:=v.yld_len
 have m3:=u.ats_len
 have m4:=v.ats_len
 have m5:=u.prs_len
 have m6:=v.prs_len
 have hkU:u.V=.agg [vi u.sym,vi u.prod,vi u.at_,.sl 4 false (u.kids.map Nd.V)]:=by obtain ⟨q1,q2,q3,q4⟩:=u;rw[Nd.V_mk]
 have hkW:v.V=.agg [vi v.sym,vi v.prod,vi v.at_,.sl 4 false (v.kids.map Nd.V)]:=by obtain ⟨q1,q2,q3,q4⟩:=v;rw[Nd.V_mk]
 rw[hkU,hkW]at h1 y1 l1 p1
 rw[hkU]at hna h2 y2 l2 p2
 rw[hkW]at hnb h3 y3 l3 p3
 rw[hkA]at hna ⊢
 rw[hkB]at hnb ⊢
 have erT: ∀{bb:Bool} {HH:Nat→Option MObj},Er bb HH (.agg [vi y,vi p,vi a,.sl 4 true [.agg [vi u.sym,vi u.prod,vi u.at_,.sl 4 false (u.kids.map Nd.V)],.agg [vi v.sym,vi v.prod,vi v.at_,.sl 4 false (v.kids.map Nd.V)]]]) (.agg [vi y,vi p,vi a,.sl 4 false [.agg [vi u.sym,vi u.prod,vi u.at_,.sl 4 false (u.kids.map Nd.V)],.agg [vi v.sym,vi v.prod,vi v.at_,.sl 4 false (v.kids.map Nd.V)]]]):=ErL.agg (.cons (.int _ _) (.cons (.int _ _) (.cons (.int _ _) (.cons (ErL.sl (.cons qd (.cons qd .nil))) .nil))))
 have hz1:IntKind.i64.wrap ((u.size:Int)+(v.size:Int))=(u.size:Int)+v.size:=wrap64 o_ o_
 have hz2:IntKind.i64.wrap ((u.size:Int)+(v.size:Int)+1)=((u.size+v.size+1:Nat):Int):=by rw[wrap64 o_ o_];omega
 by_cases hp:p= -1
 · subst hp
   have ey:(Nd.mk y (-1) a [u,v]).yld=[y]:=by rw[Nd.yld,if_pos rfl]
   have el:(Nd.mk y (-1) a [u,v]).ats=[a]:=by rw[Nd.ats,if_pos rfl]
   have ep:(Nd.mk y (-1) a [u,v]).prs=[]:=by rw[Nd.prs,if_pos rfl]
   rw[ey]at y1
   rw[el]at l1
   rw[ep]at p1
   have e1:=qz (a:=[y]) (b:=[y]) (by simp) (by simp)
   have e2:=qz (a:=[a]) (b:=[a]) (by simp) (by simp)
   rw[decide_eq_true rfl]at e1 e2
   repeat' with_reducible first
    |refine s_ ?_
    |simp -implicitDefEqProofs only[wZZ,seval,hz1,hz2]
    |refine cq0 hw ?_
    |refine cq2 hna qd qd ?_
    |refine cq2 hnb qd qd ?_
    |refine cq1 h1 erT ?_
    |refine cq1 h2 qd ?_
    |refine cq1 h3 qd ?_
    |refine cq1 y1 erT ?_
    |refine cq1 l1 erT ?_
    |refine cq1 p1 erT ?_
    |refine t_ ?_
    |refine zy we_ we_ (qz wf_ wf_) ?_
   all_goals refine qo rfl (Or.inr rfl) ?_
   all_goals(try simp -implicitDefEqProofs only[wL,seval])
   all_goals refine er_ ?_
   all_goals(try(with_reducible rfl))
 · have ey:(Nd.mk y p a [u,v]).yld=u.yld++v.yld:=by rw[Nd.yld,if_neg hp,Nd.ylds,Nd.ylds,Nd.ylds];simp
   have el:(Nd.mk y p a [u,v]).ats=u.ats++v.ats:=by rw[Nd.ats,if_neg hp,Nd.atss,Nd.atss,Nd.atss];simp
   have ep:(Nd.mk y p a [u,v]).prs=u.prs++v.prs++[p]:=by rw[Nd.prs,if_neg hp,Nd.prss,Nd.prss,Nd.prss];simp
   rw[ey]at y1
   rw[el]at l1
   rw[ep]at p1
   have e1:=qz (a:=u.yld++v.yld) (b:=u.yld++v.yld) (by simp;omega) (by simp;omega)
   have e2:=qz (a:=u.ats++v.ats) (b:=u.ats++v.ats) (by simp;omega) (by simp;omega)
   have e3:=qz (a:=u.prs++v.prs++[p]) (b:=u.prs++v.prs++[p]) (by simp;omega) (by simp;omega)
   rw[decide_eq_true rfl]at e1 e2 e3
   repeat' with_reducible first
    |refine s_ ?_
    |simp -implicitDefEqProofs only[wZZ,seval,hz1,hz2]
    |apply qa<;>intro h h_<;>(try simp only[wD,reduceCtorEq]at h_)<;>(try exact wb_)<;>(try simp only[h])
    |refine cq0 hw ?_
    |refine cq2 hna qd qd ?_
    |refine cq2 hnb qd qd ?_
    |refine cq1 h1 erT ?_
    |refine cq1 h2 qd ?_
    |refine cq1 h3 qd ?_
    |refine cq1 y1 erT ?_
    |refine cq1 l1 erT ?_
    |refine cq1 p1 erT ?_
    |refine cq1 y2 qd ?_
    |refine cq1 l2 qd ?_
    |refine cq1 p2 qd ?_
    |refine cq1 y3 qd ?_
    |refine cq1 l3 qd ?_
    |refine cq1 p3 qd ?_
    |apply qaz;(focus(first|exact zf.sl|exact zf.asl|exact zf.str));exact wf_;(focus(unfold maxLen;first|omega|(simp only[wZ]<;>omega)))
    |(refine qey ?_;simp -implicitDefEqProofs only[wM,wN,seval,hz1,hz2];apply qoi;(focus(first|exact zf.sl|exact zf.asl|exact zf.str));(exact wf_);(focus(unfold maxLen;first|omega|(simp only[wZ]<;>omega))))
    |refine t_ ?_
    |refine zy we_ we_ (qz wf_ wf_) ?_
   all_goals refine qo rfl (Or.inr rfl) ?_
   all_goals(try simp -implicitDefEqProofs only[wL,seval])
   all_goals refine er_ ?_
   all_goals(try(with_reducible rfl))
end Go.Proofs
