/- Part of a proof that a law of the given program answers true. -/
import Derived.Test.YtjdjdbkoplmjeaaSNF
import Derived.Test.YtjdjdbkoplmjeaaSKA
set_option maxRecDepth 20000
set_option linter.unusedSimpArgs false
set_option linter.unusedVariables false
set_option maxHeartbeats 4000000
namespace Go.Proofs
open Go.E
theorem qbX (t:Nd) {l:Nat} (h:1≤l):(jF 20 l t).1.size≤l:=by have:=vw t 20 l h;omega
theorem vG {x:GrI} {t:Nd} (hb1:x.rules.length≤1099511627776) (hb2: ∀l∈x.rules,l.length≤1099511627776) (hib:x.inner.length≤1099511627776) (hlb:x.levels.length≤1099511627776) (hb:t.size≤1000000000):Pure Try.prog 3 [x.V,t.V] (.bool true):=by
 refine pure_intro Try.func3 nm_ qv3 (by show 2≤30;decide) ?_
 show ewp _ qkb _ _
 have hw:=yB
 have hs:=Zd hb1 hb2 hib hlb
 have hgr:=jY (src:=qJ x) (QR x) (fun _=>kU x)
 rw[JS x]at hgr
 have hg:=gok (JS x)
 have hn:=qek x
 have hnd:=j6 (t:=t) (l:=300) o_ o_ o_
 have hc:=qbX t (l:=300) o_
 generalize (jF 20 300 t).1=u at *
 have ht:=Zc (t:=u) hg hn o_
 have h1:=xA u.size u (Nat.le_refl _) o_
 have h2:=Xf u.size u (Nat.le_refl _) o_
 have e:u.sizeR=u.size:=u.sizeR_eq (by have:=u.sizeR_le;omega)
 rw[e]at h2
 simp only[Int.cast_ofNat_Int]at hnd
 have hkV:t.V=.agg [vi t.sym,vi t.prod,vi t.at_,.sl 4 false (t.kids.map Nd.V)]:=by obtain ⟨q1,q2,q3,q4⟩:=t;rw[Nd.V_mk]
 have hkU:u.V=.agg [vi u.sym,vi u.prod,vi u.at_,.sl 4 false (u.kids.map Nd.V)]:=by obtain ⟨q1,q2,q3,q4⟩:=u;rw[Nd.V_mk]
 rw[hkU]at hnd ht h1 h2
 rw[hkV]at hnd ⊢
 generalize yE (qJ x)=g at *
 generalize qJ x=sr at *
 repeat' with_reducible first
  |refine s_ ?_
  |simp -implicitDefEqProofs only[wZZ,seval]
  |refine cq0 hw ?_
  |refine cq1 hs qd ?_
  |refine cq1 hgr (VF _) ?_
  |refine cq2 hnd qd qd ?_
  |refine cq2 ht qd qd ?_
  |refine cq1 h1 qd ?_
  |refine cq1 h2 qd ?_
  |refine t_ ?_
 all_goals refine qo rfl (Or.inr rfl) ?_
 all_goals(try simp -implicitDefEqProofs only[wL,seval])
 all_goals refine er_ ?_
 all_goals(try(with_reducible rfl))
end Go.Proofs
