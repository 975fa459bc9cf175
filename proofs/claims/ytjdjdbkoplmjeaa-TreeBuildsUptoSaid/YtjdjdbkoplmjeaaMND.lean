/- Part of a proof that a law of the given program answers true. -/
import Derived.Test.YtjdjdbkoplmjeaaMFA
import Derived.Test.YtjdjdbkoplmjeaaMNL
import Derived.Test.YtjdjdbkoplmjeaaMKA
import Derived.Test.YtjdjdbkoplmjeaaMEC
set_option linter.unusedSimpArgs false
set_option linter.unusedVariables false
set_option maxHeartbeats 4000000
set_option maxRecDepth 20000
namespace Go.Proofs
open Go.E
def qtS (c:UInt8):List UInt8:=if Qd c=false then[]else if (kX c).toNat=0 then[39,c,39]else[39,92,kX c,39]
theorem qhd (c:UInt8):(qtS c).length≤4:=by
 unfold qtS
 split
 · simp
 · split<;>simp
theorem Y0 {a b:List UInt8} {K:V→Prop} (h:a.length+b.length≤10) (hk:K (.str (a++b))):onS (xJ .add (.str a) (.str b)) K:=vk o_ hk
theorem qji (c:UInt8):UInt8.ofNat ((c.toNat:Nat):Int).toNat=c:=by simp
theorem J6 {c:UInt8}:Pure Try.prog 81 [.int .u8 c.toNat] (.str (qtS c)):=by
 refine pure_intro Try.func81 nm_ qtA (by show 1≤24;decide) ?_
 show ewp _ qgJ _ _
 have hq:=yU (c:=c)
 have h1:=c.toNat_lt
 have h2:=(kX c).toNat_lt
 have hof:=qji c
 have hof2:=qji (kX c)
 cases h:Qd c with
 | false=>
   have e:qtS c=[]:=by unfold qtS;rw[if_pos h]
   rw[h]at hq
   rw[e]
   repeat' with_reducible first
    |refine s_ ?_
    |simp -implicitDefEqProofs only[wZZ,seval]
    |refine cq1 hq qc ?_
   refine qA rfl (Or.inr rfl) ?_
   simp -implicitDefEqProofs only[wL,seval]
   refine er_ ?_
   try(with_reducible rfl)
 | true=>
   rw[h]at hq
   by_cases h3:(kX c).toNat=0
   · have e:qtS c=[39,c,39]:=by unfold qtS;rw[if_neg (by rw[h];simp),if_pos h3]
     rw[h3]at hq
     rw[e]
     repeat' with_reducible first
      |refine s_ ?_
      |simp -implicitDefEqProofs only[wZZ,seval,hof]
      |refine cq1 hq qc ?_
      |apply qdW;omega;omega
      |apply Y0;(focus(simp only[List.length_cons,List.length_nil,List.length_append];omega))
     refine qA rfl (Or.inr rfl) ?_
     simp -implicitDefEqProofs only[wL,seval]
     refine er_ ?_
     try(with_reducible rfl)
     all_goals simp
   · have e:qtS c=[39,92,kX c,39]:=by unfold qtS;rw[if_neg (by rw[h];simp),if_neg h3]
     rw[e]
     generalize kX c=d at *
     repeat' with_reducible first
      |refine s_ ?_
      |simp -implicitDefEqProofs only[wZZ,seval,hof2]
      |apply qa<;>intro h h_<;>(try simp only[wD,reduceCtorEq]at h_)<;>(try exact wb_)<;>(try simp only[h])
      |refine cq1 hq qc ?_
      |apply qdW;omega;omega
      |apply Y0;(focus(simp only[List.length_cons,List.length_nil,List.length_append];omega))
     refine qA rfl (Or.inr rfl) ?_
     simp -implicitDefEqProofs only[wL,seval]
     refine er_ ?_
     try(with_reducible rfl)
     all_goals simp
def Yb (c:UInt8):Bool:=decide (32≤c.toNat) && decide (c.toNat≤126) && decide (c.toNat≠39) && decide (c.toNat≠92)
theorem qbE {c:UInt8}:Pure Try.prog 83 [.int .u8 c.toNat] (.bool (Yb c)):=by
 refine pure_intro Try.func83 nm_ qoG (by show 1≤17;decide) ?_
 show ewp _ qzJ _ _
 repeat' with_reducible first
  |refine s_ ?_
  |simp -implicitDefEqProofs only[wZZ,seval]
  |(first|apply qh|apply qi)<;>intro h h_<;>(try simp only[wD,reduceCtorEq]at h_)<;>(try exact wb_)<;>(try simp only[h])
 all_goals refine qA rfl (Or.inr rfl) ?_
 all_goals(simp -implicitDefEqProofs only[wL,seval])
 all_goals refine yG ?_
 all_goals(rw[Bool.eq_iff_iff];simp[Yb];omega)
theorem strings_IndexByte {s:List UInt8} {c:UInt8}:Pure Try.prog 84 [.str s,.int .u8 c.toNat] (vi (Lib.indexByte s c)):=by
 refine⟨⟨Try.f84,Try.func84,by kernel_rfl,by kernel_rfl⟩,fun w lim ra hG hR=>?_⟩
 obtain ⟨h2,hR⟩:=hR
 obtain ⟨r0,r1,rfl⟩: ∃r0 r1,ra= #[r0,r1]:=by
  rcases ra with ⟨l⟩
  match l,h2 with
  |[x,y],_=>exact⟨x,y,rfl⟩
 have e0:=hR 0 _ r0 rfl rfl
 have e1:=hR 1 _ r1 rfl rfl
 cases e0;cases e1
 refine(qdv ⟨s.toArray⟩ c.toNat w).mono ?_
 rintro e w' ⟨rfl,rfl⟩
 have:((c.toNat:Int)).toNat.toUInt8=c:=by simp
 rw[this]
 exact⟨_,rfl,Go.RowKit.Below.refl _ _,.int _ _⟩
theorem qdL {c:UInt8} (h:Yb c=true):qtS c=[39,c,39]:=by
 unfold Yb at h
 simp only[Bool.and_eq_true,decide_eq_true_eq]at h
 obtain ⟨⟨⟨h1,h2⟩,h3⟩,h4⟩:=h
 unfold qtS
 rw[if_neg (by simp[Qd];omega),if_pos]
 unfold kX
 repeat rw[if_neg o_]
 rfl
theorem qdj {c:UInt8}:Pure Try.prog 75 [.int .u8 c.toNat] (.str (qtS c)):=by
 refine pure_intro Try.func75 nm_ qtw (by show 1≤21;decide) ?_
 show ewp _ qfC _ _
 have hp:=qbE (c:=c)
 have hi:=strings_IndexByte (s:=[10,9,13,92,39]) (c:=c)
 have h1:=c.toNat_lt
 have hof:=qji c
 cases h:Yb c with
 | true=>
   rw[h]at hp
   rw[qdL h]
   repeat' with_reducible first
    |refine s_ ?_
    |simp -implicitDefEqProofs only[wZZ,seval,hof]
    |refine cq1 hp qc ?_
    |apply qdW;omega;omega
    |apply Y0;(focus(simp only[List.length_cons,List.length_nil,List.length_append];omega))
   refine qA rfl (Or.inr rfl) ?_
   simp -implicitDefEqProofs only[wL,seval]
   refine er_ ?_
   try(with_reducible rfl)
   all_goals simp
 | false=>
   rw[h]at hp
   by_cases e0:c=10
   · subst e0
     have e:Lib.indexByte [10,9,13,92,39] 10=0:=by decide
     have eq:qtS 10=[39,92,110,39]:=by decide
     rw[e]at hi
     rw[eq]
     repeat' with_reducible first
      |refine s_ ?_
      |simp -implicitDefEqProofs only[wZZ,seval,Int.reduceAdd]
      |refine cq1 hp qc ?_
      |refine cq2 hi qc qc ?_
      |simp -implicitDefEqProofs (disch:=omega) only[w64,if_neg]
     refine qA rfl (Or.inr rfl) ?_
     simp -implicitDefEqProofs only[wL,seval]
     refine er_ ?_
     try(with_reducible rfl)
     all_goals rfl
   by_cases e1:c=9
   · subst e1
     have e:Lib.indexByte [10,9,13,92,39] 9=1:=by decide
     have eq:qtS 9=[39,92,116,39]:=by decide
     rw[e]at hi
     rw[eq]
     repeat' with_reducible first
      |refine s_ ?_
      |simp -implicitDefEqProofs only[wZZ,seval,Int.reduceAdd]
      |refine cq1 hp qc ?_
      |refine cq2 hi qc qc ?_
      |simp -implicitDefEqProofs (disch:=omega) only[w64,if_neg]
     refine qA rfl (Or.inr rfl) ?_
     simp -implicitDefEqProofs only[wL,seval]
     refine er_ ?_
     try(with_reducible rfl)
     all_goals rfl
   by_cases e2:c=13
   · subst e2
     have e:Lib.indexByte [10,9,13,92,39] 13=2:=by decide
     have eq:qtS 13=[39,92,114,39]:=by decide
     rw[e]at hi
     rw[eq]
     repeat' with_reducible first
      |refine s_ ?_
      |simp -implicitDefEqProofs only[wZZ,seval,Int.reduceAdd]
      |refine cq1 hp qc ?_
      |refine cq2 hi qc qc ?_
      |simp -implicitDefEqProofs (disch:=omega) only[w64,if_neg]
     refine qA rfl (Or.inr rfl) ?_
     simp -implicitDefEqProofs only[wL,seval]
     refine er_ ?_
     try(with_reducible rfl)
     all_goals rfl
   by_cases e3:c=92
   · subst e3
     have e:Lib.indexByte [10,9,13,92,39] 92=3:=by decide
     have eq:qtS 92=[39,92,92,39]:=by decide
     rw[e]at hi
     rw[eq]
     repeat' with_reducible first
      |refine s_ ?_
      |simp -implicitDefEqProofs only[wZZ,seval,Int.reduceAdd]
      |refine cq1 hp qc ?_
      |refine cq2 hi qc qc ?_
      |simp -implicitDefEqProofs (disch:=omega) only[w64,if_neg]
     refine qA rfl (Or.inr rfl) ?_
     simp -implicitDefEqProofs only[wL,seval]
     refine er_ ?_
     try(with_reducible rfl)
     all_goals rfl
   by_cases e4:c=39
   · subst e4
     have e:Lib.indexByte [10,9,13,92,39] 39=4:=by decide
     have eq:qtS 39=[39,92,39,39]:=by decide
     rw[e]at hi
     rw[eq]
     repeat' with_reducible first
      |refine s_ ?_
      |simp -implicitDefEqProofs only[wZZ,seval,Int.reduceAdd]
      |refine cq1 hp qc ?_
      |refine cq2 hi qc qc ?_
      |simp -implicitDefEqProofs (disch:=omega) only[w64,if_neg]
     refine qA rfl (Or.inr rfl) ?_
     simp -implicitDefEqProofs only[wL,seval]
     refine er_ ?_
     try(with_reducible rfl)
     all_goals rfl
   have e:Lib.indexByte [10,9,13,92,39] c= -1:=by
    simp[Lib.indexByte,Ne.symm e0,Ne.symm e1,Ne.symm e2,Ne.symm e3,Ne.symm e4]
   have hne: ∀k:Nat,c.toNat=k→k<256→c=UInt8.ofNat k:=fun k h h2=>by rw[← h];simp
   have eq:qtS c=[]:=by
    unfold qtS
    rw[if_pos]
    have n0: ¬ c.toNat=10:=fun h=>e0 (hne 10 h (by decide))
    have n1: ¬ c.toNat=9:=fun h=>e1 (hne 9 h (by decide))
    have n2: ¬ c.toNat=13:=fun h=>e2 (hne 13 h (by decide))
    have n3: ¬ c.toNat=92:=fun h=>e3 (hne 92 h (by decide))
    have n4: ¬ c.toNat=39:=fun h=>e4 (hne 39 h (by decide))
    simp[Yb,n3,n4]at h
    simp[Qd,n0,n1,n2,n3,n4]
    exact h
   rw[e]at hi
   rw[eq]
   repeat' with_reducible first
    |refine s_ ?_
    |simp -implicitDefEqProofs only[wZZ,seval]
    |refine cq1 hp qc ?_
    |refine cq2 hi qc qc ?_
   refine qA rfl (Or.inr rfl) ?_
   simp -implicitDefEqProofs only[wL,seval]
   refine er_ ?_
   try(with_reducible rfl)
end Go.Proofs
