/- Part of a proof that a law of the given program answers true. -/
import Derived.Test.YtjdjdbkoplmjeaaGreatDoorQFA
import Derived.Test.YtjdjdbkoplmjeaaGreatDoorQNL
import Derived.Test.YtjdjdbkoplmjeaaGreatDoorQKA
import Derived.Test.YtjdjdbkoplmjeaaGreatDoorQEC
set_option linter.unusedSimpArgs false
set_option linter.unusedVariables false
set_option maxHeartbeats 4000000
set_option maxRecDepth 20000
namespace Go.Proofs
open Go.E
def qtS (c:UInt8):List UInt8:=if Zy c=false then[]else if (KL c).toNat=0 then[39,c,39]else[39,92,KL c,39]
theorem qfU {a b:List UInt8} {K:V→Prop} (h:a.length+b.length≤10) (hk:K (.str (a++b))):onS (xh .add (.str a) (.str b)) K:=ZK o_ hk
theorem qIA (c:UInt8):UInt8.ofNat ((c.toNat:Nat):Int).toNat=c:=by simp
def Yb (c:UInt8):Bool:=decide (32≤c.toNat) && decide (c.toNat≤126) && decide (c.toNat≠39) && decide (c.toNat≠92)
theorem qce {c:UInt8}:Pure Tryz.prog 128 [.int .u8 c.toNat] (.bool (Yb c)):=by
 refine pure_intro Tryz.func128 nm_ qnQ (by show 1≤17;decide) ?_
 show ewp _ qgR _ _
 repeat' with_reducible first
  |refine s_ ?_
  |simp -implicitDefEqProofs only[wZZ,seval]
  |(first|apply qj|apply qx)<;>intro h h_<;>(try simp only[wD,reduceCtorEq]at h_)<;>(try exact wb_)<;>(try simp only[h])
 all_goals refine qD rfl (Or.inr rfl) ?_
 all_goals(simp -implicitDefEqProofs only[wL,seval])
 all_goals refine ZC ?_
 all_goals(rw[Bool.eq_iff_iff];simp[Yb];omega)
theorem strings_IndexByte {s:List UInt8} {c:UInt8}:Pure Tryz.prog 129 [.str s,.int .u8 c.toNat] (vi (Lib.indexByte s c)):=by
 refine⟨⟨Tryz.f129,Tryz.func129,by kernel_rfl,by kernel_rfl⟩,fun w lim ra hG hR=>?_⟩
 obtain ⟨h2,hR⟩:=hR
 obtain ⟨r0,r1,rfl⟩: ∃r0 r1,ra= #[r0,r1]:=by
  rcases ra with ⟨l⟩
  match l,h2 with
  |[x,y],_=>exact⟨x,y,rfl⟩
 have e0:=hR 0 _ r0 rfl rfl
 have e1:=hR 1 _ r1 rfl rfl
 cases e0;cases e1
 refine(qdx ⟨s.toArray⟩ c.toNat w).mono ?_
 rintro e w' ⟨rfl,rfl⟩
 have:((c.toNat:Int)).toNat.toUInt8=c:=by simp
 rw[this]
 exact⟨_,rfl,Go.RowKit.Below.refl _ _,.int _ _⟩
theorem qds {c:UInt8} (h:Yb c=true):qtS c=[39,c,39]:=by
 unfold Yb at h
 simp only[Bool.and_eq_true,decide_eq_true_eq]at h
 obtain ⟨⟨⟨h1,h2⟩,h3⟩,h4⟩:=h
 unfold qtS
 rw[if_neg (by simp[Zy];omega),if_pos]
 unfold KL
 repeat rw[if_neg o_]
 rfl
theorem qd5 {c:UInt8}:Pure Tryz.prog 114 [.int .u8 c.toNat] (.str (qtS c)):=by
 refine pure_intro Tryz.func114 nm_ qkU (by show 1≤21;decide) ?_
 show ewp _ qeK _ _
 have hp:=qce (c:=c)
 have hi:=strings_IndexByte (s:=[10,9,13,92,39]) (c:=c)
 have h1:=c.toNat_lt
 have hof:=qIA c
 cases h:Yb c with
 | true=>
   rw[h]at hp
   rw[qds h]
   repeat' with_reducible first
    |refine s_ ?_
    |simp -implicitDefEqProofs only[wZZ,seval,hof]
    |refine cq1 hp qg ?_
    |apply qDm;omega;omega
    |apply qfU;(focus(simp only[List.length_cons,List.length_nil,List.length_append];omega))
   refine qD rfl (Or.inr rfl) ?_
   simp -implicitDefEqProofs only[wL,seval]
   refine er_ ?_
   try(with_reducible rfl)
   all_goals simp
 | false=>
   rw[h]at hp
   by_cases e0:c=10
   · subst e0
     have e:Lib.indexByte [10,9,13,92,39] 10=0:=by decide
     have eq:qtS 10=[39,92,110,39]:=by decide
     rw[e]at hi
     rw[eq]
     repeat' with_reducible first
      |refine s_ ?_
      |simp -implicitDefEqProofs only[wZZ,seval,Int.reduceAdd]
      |refine cq1 hp qg ?_
      |refine cq2 hi qg qg ?_
      |simp -implicitDefEqProofs (disch:=omega) only[w64,if_neg]
     refine qD rfl (Or.inr rfl) ?_
     simp -implicitDefEqProofs only[wL,seval]
     refine er_ ?_
     try(with_reducible rfl)
     all_goals rfl
   by_cases e1:c=9
   · subst e1
     have e:Lib.indexByte [10,9,13,92,39] 9=1:=by decide
     have eq:qtS 9=[39,92,116,39]:=by decide
     rw[e]at hi
     rw[eq]
     repeat' with_reducible first
      |refine s_ ?_
      |simp -implicitDefEqProofs only[wZZ,seval,Int.reduceAdd]
      |refine cq1 hp qg ?_
      |refine cq2 hi qg qg ?_
      |simp -implicitDefEqProofs (disch:=omega) only[w64,if_neg]
     refine qD rfl (Or.inr rfl) ?_
     simp -implicitDefEqProofs only[wL,seval]
     refine er_ ?_
     try(with_reducible rfl)
     all_goals rfl
   by_cases e2:c=13
   · subst e2
     have e:Lib.indexByte [10,9,13,92,39] 13=2:=by decide
     have eq:qtS 13=[39,92,114,39]:=by decide
     rw[e]at hi
     rw[eq]
     repeat' with_reducible first
      |refine s_ ?_
      |simp -implicitDefEqProofs only[wZZ,seval,Int.reduceAdd]
      |refine cq1 hp qg ?_
      |refine cq2 hi qg qg ?_
      |simp -implicitDefEqProofs (disch:=omega) only[w64,if_neg]
     refine qD rfl (Or.inr rfl) ?_
     simp -implicitDefEqProofs only[wL,seval]
     refine er_ ?_
     try(with_reducible rfl)
     all_goals rfl
   by_cases e3:c=92
   · subst e3
     have e:Lib.indexByte [10,9,13,92,39] 92=3:=by decide
     have eq:qtS 92=[39,92,92,39]:=by decide
     rw[e]at hi
     rw[eq]
     repeat' with_reducible first
      |refine s_ ?_
      |simp -implicitDefEqProofs only[wZZ,seval,Int.reduceAdd]
      |refine cq1 hp qg ?_
      |refine cq2 hi qg qg ?_
      |simp -implicitDefEqProofs (disch:=omega) only[w64,if_neg]
     refine qD rfl (Or.inr rfl) ?_
     simp -implicitDefEqProofs only[wL,seval]
     refine er_ ?_
     try(with_reducible rfl)
     all_goals rfl
   by_cases e4:c=39
   · subst e4
     have e:Lib.indexByte [10,9,13,92,39] 39=4:=by decide
     have eq:qtS 39=[39,92,39,39]:=by decide
     rw[e]at hi
     rw[eq]
     repeat' with_reducible first
      |refine s_ ?_
      |simp -implicitDefEqProofs only[wZZ,seval,Int.reduceAdd]
      |refine cq1 hp qg ?_
      |refine cq2 hi qg qg ?_
      |simp -implicitDefEqProofs (disch:=omega) only[w64,if_neg]
     refine qD rfl (Or.inr rfl) ?_
     simp -implicitDefEqProofs only[wL,seval]
     refine er_ ?_
     try(with_reducible rfl)
     all_goals rfl
   have e:Lib.indexByte [10,9,13,92,39] c= -1:=by
    simp[Lib.indexByte,Ne.symm e0,Ne.symm e1,Ne.symm e2,Ne.symm e3,Ne.symm e4]
   have hne: ∀k:Nat,c.toNat=k→k<256→c=UInt8.ofNat k:=fun k h h2=>by rw[← h];simp
   have eq:qtS c=[]:=by
    unfold qtS
    rw[if_pos]
    have n0: ¬ c.toNat=10:=fun h=>e0 (hne 10 h (by decide))
    have n1: ¬ c.toNat=9:=fun h=>e1 (hne 9 h (by decide))
    have n2: ¬ c.toNat=13:=fun h=>e2 (hne 13 h (by decide))
    have n3: ¬ c.toNat=92:=fun h=>e3 (hne 92 h (by decide))
    have n4: ¬ c.toNat=39:=fun h=>e4 (hne 39 h (by decide))
    simp[Yb,n3,n4]at h
    simp[Zy,n0,n1,n2,n3,n4]
    exact h
   rw[e]at hi
   rw[eq]
   repeat' with_reducible first
    |refine s_ ?_
    |simp -implicitDefEqProofs only[wZZ,seval]
    |refine cq1 hp qg ?_
    |refine cq2 hi qg qg ?_
   refine qD rfl (Or.inr rfl) ?_
   simp -implicitDefEqProofs only[wL,seval]
   refine er_ ?_
   try(with_reducible rfl)

def qEO (t:Tok):List UInt8:=if t.lit then qtS (t.name.headD 0)else t.name
def qgu (g:Grammar) (s:Int):List UInt8:=if s<1000 then((g.toks[s.toNat]?).map qEO).getD []else((g.nons[(s - 1000).toNat]?).map Non.name).getD []
def qJS (g:Grammar) (s:Int):Prop:=(∃(t:Nat) (x:Tok),s=t∧t<1000∧g.toks[t]?=some x∧(x.lit=true→x.name≠[]))∨ ∃(k:Nat) (x:Non),s=1000+(k:Int)∧g.nons[k]?=some x
theorem qdN {g:Grammar} {s:Int} (h:qJS g s) (ht:g.toks.length≤1000) (hn:g.nons.length≤100000):Pure Tryz.prog 97 [g.V,vi s] (.str (qgu g s)):=by
 refine pure_intro Tryz.func97 nm_ qrq (by show 2≤65;decide) ?_
 show ewp _ qgU _ _
 rcases h with ⟨t,x,rfl,ht2,hg,hx⟩|⟨k,x,rfl,hg⟩
 · have hl:=(List.getElem?_eq_some_iff.1 hg).1
   have e:qgu g (t:Int)=qEO x:=by unfold qgu;rw[if_pos o_,Int.toNat_natCast,hg];rfl
   rw[e]
   obtain ⟨nm,lt,nu,lv,as_,tg⟩:=x
   cases lt with
   | true=>
     cases nm with
     |nil=>exact absurd rfl (hx rfl)
     | cons c r=>
       have hq:=qd5 (c:=c)
       have e2:qEO ⟨c::r,true,nu,lv,as_,tg⟩=qtS c:=rfl
       rw[e2]
       repeat' with_reducible first
        |refine s_ ?_
        |simp -implicitDefEqProofs only[wZZ,seval]
        |(first|apply qj|apply qx)<;>intro h h_<;>(try simp only[wD,reduceCtorEq]at h_)<;>(try exact wb_)<;>(try simp only[h])
        |refine t_ ?_
        |apply qud;omega;exact wu_
        |refine cq1 hq qg ?_
       refine qD rfl (Or.inr rfl) ?_
       simp -implicitDefEqProofs only[wL,seval]
       refine er_ ?_
       try(with_reducible rfl)
   | false=>
     have e2:qEO ⟨nm,false,nu,lv,as_,tg⟩=nm:=rfl
     rw[e2]
     repeat' with_reducible first
      |refine s_ ?_
      |simp -implicitDefEqProofs only[wZZ,seval]
      |(first|apply qa|apply qj|apply qx)<;>intro h h_<;>(try simp only[wD,reduceCtorEq]at h_)<;>(try exact wb_)<;>(try simp only[h])
      |refine t_ ?_
     refine qD rfl (Or.inr rfl) ?_
     simp -implicitDefEqProofs only[wL,seval]
     refine er_ ?_
     try(with_reducible rfl)
 · have hl:=(List.getElem?_eq_some_iff.1 hg).1
   have e:qgu g (1000+(k:Int))=x.name:=by unfold qgu;rw[if_neg o_,show (1000+(k:Int) - 1000).toNat=k by omega,hg];rfl
   rw[e]
   obtain ⟨nm,tg⟩:=x
   have hz:IntKind.i64.wrap (1000+(k:Int) - 1000)=(k:Int):=by rw[wrap64 o_ o_];omega
   repeat' with_reducible first
    |refine s_ ?_
    |simp -implicitDefEqProofs only[wZZ,seval,hz]
    |(first|apply qa|apply qj|apply qx)<;>intro h h_<;>(try simp only[wD,reduceCtorEq]at h_)<;>(try exact wb_)<;>(try simp only[h])
    |refine t_ ?_
   refine qD rfl (Or.inr rfl) ?_
   simp -implicitDefEqProofs only[wL,seval]
   refine er_ ?_
   try(with_reducible rfl)
end Go.Proofs
