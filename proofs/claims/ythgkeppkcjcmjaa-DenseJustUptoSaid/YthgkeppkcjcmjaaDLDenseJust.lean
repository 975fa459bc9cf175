/- Part of a proof that a law of the given program answers true. -/
import Derived.Test.YthgkeppkcjcmjaaDDM
import Derived.Test.YthgkeppkcjcmjaaDJC
set_option linter.unusedSimpArgs false
set_option linter.unusedVariables false
set_option maxHeartbeats 8000000
namespace Go.Proofs
open Go.E
theorem qf9 {g:Grammar} {m:List Sta} {A:List (List (Int×Int))} {G:List (List Int)} (hg:GOk g) (hM:MOk g m) (hG:MGo g m) (hT:TabOk g m A G) {l:List Int} {dp sp:Nat} (h:(zR g A G l dp sp).steps≠0):1≤(zR g A G l dp sp).deep:=by
 unfold zR at *
 rw[jf]at *
 cases hs:stp g A G l [0] {} with
 |inl k=>rw[hs]at h;exact absurd rfl h
 | inr p =>
   obtain ⟨d,st',r'⟩:=p
   rw[hs]at h
   dsimp only at h ⊢
   obtain ⟨e1,e2,e3,e4,e5,e6,x,e7⟩:=JE hs
   have hd:1≤d:=by
    obtain ⟨t,ht,htl⟩:=VN l 0 hg.tk
    unfold stp at hs
    dsimp only[List.headD_cons]at hs
    rw[ht]at hs
    split at hs
    · cases hs
    · split at hs
      · cases hs;simp
      · split at hs
        · rename_i h2
          obtain ⟨p,x,l',q0,st0,n,row,a1,a2,a3,a4,a5,a6,a7,a8,a9,_⟩:=V4 hg hM hG hT (Path.base) hG.len htl h2
          rw[a1,Int.toNat_natCast,a9]at hs
          cases hs
          simp only[List.length_cons,List.length_nil]at a6 ⊢
          omega
        · cases hs
   by_cases hl:sp≤({}:RunR).steps∨dp<d
   · rw[if_pos hl]at h;exact absurd rfl h
   · rw[if_neg hl]at h ⊢
     have hsp:({}:RunR).steps=0:=rfl
     have:=jE g A G l dp sp sp st' r' (by omega) (by omega)
     omega
theorem Qy {x:GrI} {w:List Int} (hb1:x.rules.length≤1099511627776) (hb2: ∀l∈x.rules,l.length≤1099511627776) (hib:x.inner.length≤1099511627776) (hlb:x.levels.length≤1099511627776) (hw:w.length≤1099511627776):Pure Try.prog 5 [x.V,.sl 1 false (w.map (V.int .i64))] (.bool true):=by
 refine pure_intro Try.func5 qOT qLS (by show 2≤81;decide) ?_
 show ewp _ qtt _ _
 have hwk:=zK
 have hsrc:=zL (x:=x) hb1 hb2 hib hlb
 obtain ⟨E,hde,hok⟩:=qJ5 x
 generalize hX:qC x=src at *
 clear hX hb1 hb2 hib hlb
 cases hb:zT src with
 | false=>
   rw[hb]at hde
   clear hok
   generalize KE (yY src E)=rw_ at *
   generalize Jg src E=A at *
   generalize Xj src=G at *
   generalize qE src=g at *
   repeat' with_reducible first
    |refine s_ ?_
    |simp only[wZZ,seval]
    |refine cq0 hwk ?_
    |refine cq1 hsrc qb ?_
    |refine cq1 hde (zD src) ?_
    |refine t_ ?_
   all_goals refine qw rfl (Or.inr rfl) ?_
   all_goals(try simp only[wL,seval])
   all_goals refine er_ ?_
   all_goals(try(with_reducible rfl))
 | true =>
   rw[hb]at hde
   obtain ⟨hg,hM,hG,hT⟩:=hok hb
   clear hok
   generalize KE (yY src E)=rw_ at *
   generalize Jg src E=A at *
   generalize Xj src=G at *
   generalize qR src=m at *
   generalize qE src=g at *
   have htk:=hg.tk2
   have hto:=zy (g:=g) (l:=w) (n:=30) (by omega) (by omega) hw
   simp only[Int.cast_ofNat_Int]at hto
   have hl1:(jI g w 30).length≤1000000:=by unfold jI;rw[List.length_map,List.length_take];omega
   generalize jI g w 30=a at *
   have r1:=zl (l:=a) (depth:=3000) (steps:=3000) hg hM hG hT hl1
   rw[show qX 3000 100000=3000 from rfl,show qX 3000 1000000=3000 from rfl]at r1
   have q1:=yg (g:=g) (A:=A) (G:=G) (l:=a) (dp:=3000) (sp:=3000) (by omega)
   have f1:=qcK (g:=g) (A:=A) (G:=G) (l:=a) (dp:=3000) (sp:=3000) 3001 [0] {} (by simp) (by simp) (by simp) (by simp)
   have f2:=fun dp' sp' hk=>qaj (g:=g) (A:=A) (G:=G) (l:=a) (dp:=3000) (dp':=dp') (sp:=3000) (sp':=sp') 3001 (sp'+1) [0] {} (by simp) (by simp) (by simp) hk
   have f3:=jE g A G a 3000 3000 3001 [0] {} (by simp) (by simp)
   have f5:=qf9 hg hM hG hT (l:=a) (dp:=3000) (sp:=3000)
   change (zR g A G a 3000 3000).kind=3→(zR g A G a 3000 3000).steps=3000∨(zR g A G a 3000 3000).deep=3000 at f1
   have f4:(zR g A G a 3000 3000).steps≤3000∧(zR g A G a 3000 3000).deep≤3000:=⟨f3.2.1,by have:=f3.2.2.2.1;simp at this;exact this⟩
   clear f3
   have f6: ∀(dp' sp':Nat),(zR g A G a 3000 3000).kind≠3→((zR g A G a 3000 3000).deep≤dp'→(zR g A G a 3000 3000).steps≤sp'→zR g A G a dp' sp'=zR g A G a 3000 3000)∧(sp'<(zR g A G a 3000 3000).steps→(zR g A G a dp' sp').kind=3)∧(dp'<(zR g A G a 3000 3000).deep→(zR g A G a dp' sp').kind=3):=fun dp' sp' hk=>
    ⟨(f2 dp' sp' hk).1,(f2 dp' sp' hk).2.1 (Nat.zero_le _),(f2 dp' sp' hk).2.2 (Nat.zero_le _) (Nat.zero_le _)⟩
   clear f2
   generalize zR g A G a 3000 3000=R1 at *
   have hfa: ∀(dp' sp':Nat),dp'≤3000→sp'≤3000→Pure Try.prog 18 [g.V,qdW A G,.sl 1 false (a.map (V.int .i64)),vi dp',vi sp'] (zR g A G a dp' sp').V:=fun dp' sp' h1 h2=>by
    have:=zl (l:=a) (depth:=(dp':Nat)) (steps:=(sp':Nat)) hg hM hG hT hl1
    rw[Xp (by omega),Xp (by omega)]at this
    exact this
   by_cases hk:R1.kind=3
   · have f7:=f1 hk
     clear f1 f5 f6 hfa
     repeat' with_reducible first
      |refine s_ ?_
      |simp only[wZZ,seval]
      |(first|apply qa|apply qh|apply qg)<;>intro h h_<;>(try simp only[wD,reduceCtorEq]at h_)<;>(try exact wb_)<;>(try simp only[h])
      |refine cq0 hwk ?_
      |refine cq1 hsrc qb ?_
      |refine cq1 hde (zD src) ?_
      |refine t_ ?_
      |refine cq3 hto qb qb qb ?_
      |refine cq5 r1 qb qb qb qb qb ?_
     all_goals refine qw rfl (Or.inr rfl) ?_
     all_goals(try simp only[wL,seval])
     all_goals refine er_ ?_
     all_goals(try(with_reducible rfl))
     all_goals exact decide_eq_true (by omega)
   · clear f1
     have r2:=hfa R1.deep R1.steps f4.2 f4.1
     rw[(f6 R1.deep R1.steps hk).1 (Nat.le_refl _) (Nat.le_refl _)]at r2
     have r3:=hfa R1.deep (R1.steps - 1) f4.2 (by omega)
     have r4:=hfa (R1.deep - 1) R1.steps (by omega) f4.1
     have k3:R1.steps≠0→(zR g A G a R1.deep (R1.steps - 1)).kind=3:=fun h=>(f6 R1.deep (R1.steps - 1) hk).2.1 (by omega)
     have k4:R1.steps≠0→(zR g A G a (R1.deep - 1) R1.steps).kind=3:=fun h=>(f6 (R1.deep - 1) R1.steps hk).2.2 (by have:=f5 h;omega)
     clear f6 hfa
     generalize zR g A G a R1.deep (R1.steps - 1)=R3 at *
     generalize zR g A G a (R1.deep - 1) R1.steps=R4 at *
     have heq:=za q1
     by_cases hs:R1.steps=0
     · clear k3 k4 r3 r4 f5
       repeat' with_reducible first
        |refine s_ ?_
        |simp only[wZZ,seval]
        |(first|apply qa|apply qh|apply qg)<;>intro h h_<;>(try simp only[wD,reduceCtorEq]at h_)<;>(try exact wb_)<;>(try simp only[h])
        |refine cq0 hwk ?_
        |refine cq1 hsrc qb ?_
        |refine cq1 hde (zD src) ?_
        |refine t_ ?_
        |refine cq3 hto qb qb qb ?_
        |refine cq5 r1 qb qb qb qb qb ?_
        |refine cq5 r2 qb qb qb qb qb ?_
        |refine cq2 heq qb qb ?_
       all_goals refine qw rfl (Or.inr rfl) ?_
       all_goals(try simp only[wL,seval])
       all_goals refine er_ ?_
       all_goals(try(with_reducible rfl))
     · have k5:=k3 hs
       have k6:=k4 hs
       have f7:=f5 hs
       clear k3 k4 f5
       have hz1:IntKind.i64.wrap ((R1.steps:Int) - 1)=((R1.steps - 1:Nat):Int):=by rw[show (R1.steps:Int) - 1=((R1.steps - 1:Nat):Int) by omega];exact wrap64 (by omega) (by omega)
       have hz2:IntKind.i64.wrap ((R1.deep:Int) - 1)=((R1.deep - 1:Nat):Int):=by rw[show (R1.deep:Int) - 1=((R1.deep - 1:Nat):Int) by omega];exact wrap64 (by omega) (by omega)
       obtain ⟨kk3,a3,s3,d3,p3⟩:=R3
       obtain ⟨kk4,a4,s4,d4,p4⟩:=R4
       dsimp only at k5 k6
       subst k5 k6
       repeat' with_reducible first
        |refine s_ ?_
        |simp only[wZZ,seval,hz1,hz2]
        |(first|apply qa|apply qh|apply qg)<;>intro h h_<;>(try simp only[wD,reduceCtorEq]at h_)<;>(try exact wb_)<;>(try simp only[h])
        |(refine JY (v:=vi 3) rfl ?_)
        |refine cq0 hwk ?_
        |refine cq1 hsrc qb ?_
        |refine cq1 hde (zD src) ?_
        |refine t_ ?_
        |refine cq3 hto qb qb qb ?_
        |refine cq5 r1 qb qb qb qb qb ?_
        |refine cq5 r2 qb qb qb qb qb ?_
        |refine cq5 r3 qb qb qb qb qb ?_
        |refine cq5 r4 qb qb qb qb qb ?_
        |refine cq2 heq qb qb ?_
       all_goals refine qw rfl (Or.inr rfl) ?_
       all_goals(try simp only[wL,seval])
       all_goals refine er_ ?_
       all_goals(try(with_reducible rfl))
end Go.Proofs
