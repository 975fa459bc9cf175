/- Part of a proof that a law of the given program answers true. -/
import Derived.Test.YtpnfbnlhjdnnpaaWYG
import Derived.Test.YtpnfbnlhjdnnpaaWYB
import Derived.Test.YtpnfbnlhjdnnpaaWRB
import Derived.Test.YtpnfbnlhjdnnpaaWMA
set_option linter.unusedSimpArgs false
set_option linter.unusedVariables false
set_option maxHeartbeats 4000000
namespace Go.Proofs
open Go.E
theorem cnt_ok {g : Grammar} (h : GOk g) : Cnt g g.nons.length where
 nl := rfl
 nb := by have := h.nn2; omega
 pb := by have := h.pl2; omega
 pl := h.left
 pr := fun p hp s hs => by
  rcases h.right p hp s hs with ⟨t, rfl, ht⟩ | hk
  · left; have := h.tk2; omega
  · exact Or.inr hk
 rb := fun p hp => by have := h.rlen p hp; omega
theorem intsN_len (l : List Int) {n m : Nat} (hl : l.length ≤ m) : (intsN l n).length ≤ m := by
 unfold intsN; split
 · rw [List.length_take]; omega
 · exact hl
theorem yuccalaw14_ManyTrees {y : Source} {p q : List Int} (hy : y.Fits) (hp : p.length ≤ 1099511627776) (hq : q.length ≤ 1099511627776) : Pure Try.prog 6 [y.V, .sl 1 false (p.map (V.int .i64)), .sl 1 false (q.map (V.int .i64))] (.bool true) := by
 refine pure_intro Try.func6 e6_nm e6_ok (by show 3 ≤ 81; decide) ?_
 show ewp _ e6n43 _ _
 have hw := wakes_pure
 have hcut := yuccalaw0_Cut hy
 have hgr := yuccaref16_Grammar (src := cutS y) (cutS_fits y) (cutS_small y)
 generalize hsrc : cutS y = src at *
 cases hb : gramB src with
 | false =>
   rw [hb] at hgr
   repeat' with_reducible first
    | refine s_ ?_
    | simp -implicitDefEqProofs only [wZZ, seval]
    | (apply callQ0 (hp := hw))
    | (apply callQ1 (hp := hcut); (focus exact src_er y))
    | (apply callQ1 (hp := hgr); (focus exact src_er src))
    | (apply stQ_whole; (exact wu_); (exact wu_))
    | (apply ldQ_whole)
    | (apply boxQ_i; (exact wu_); (exact wu_))
   all_goals refine post1 rfl (Or.inr rfl) ?_
   all_goals (try simp -implicitDefEqProofs only [wL, seval])
   all_goals (first | refine er_bool ?_ | refine er_int ?_ | refine er_str ?_ | refine er_sl_eq ?_ | refine er_asl_eq ?_)
   all_goals (try (with_reducible rfl))
 | true =>
   rw [hb] at hgr
   have hg := gok hb
   generalize gramS src = g at *
   have htl := hg.tk2; have hnl := hg.nn2
   obtain ⟨p0, r0, hpr, _, k, hpk, hkn⟩ := hg.head
   have hin1 := yuccalaw0_Ints (l := p) (n := 20) hp (by omega)
   have hin2 := yuccalaw0_Ints (l := q) (n := 20) hq (by omega)
   rw [show ((20 : Nat) : Int) = 20 from rfl] at hin1 hin2
   have hl1 := intsN_len p (n := 20) hp
   have hl2 := intsN_len q (n := 20) hq
   generalize intsN p 20 = P1 at *
   generalize intsN q 20 = P2 at *
   obtain ⟨_, ⟨⟨s1, i1, a1, ks1⟩, ok1, rfl, ht⟩, pg1⟩ := grow_ex (P := P1) hg hl1 ⟨p0, r0, hpr, hpk⟩ hkn
   obtain ⟨_, ⟨⟨s2, i2, a2, ks2⟩, ok2, rfl, hu⟩, pg2⟩ := grow_ex (P := P2) hg hl2 ⟨p0, r0, hpr, hpk⟩ hkn
   have e1 := Nd.V_mk s1 i1 a1 ks1
   have e2 := Nd.V_mk s2 i2 a2 ks2
   cases ok1 with
   | false =>
     rw [e1] at pg1
     rw [e2] at pg2
     repeat' with_reducible first
      | refine s_ ?_
      | simp -implicitDefEqProofs only [wZZ, seval]
      | (apply callQ0 (hp := hw))
      | (apply callQ1 (hp := hcut); (focus exact src_er y))
      | (apply callQ1 (hp := hgr); (focus exact src_er src))
      | (apply stQ_whole; (exact wu_); (exact wu_))
      | (apply callQ2 (hp := hin1); (focus exact er_cl); (focus exact er_cl))
      | (apply callQ2 (hp := hin2); (focus exact er_cl); (focus exact er_cl))
      | (apply callQ2 (hp := pg1); (focus exact er_cl); (focus exact er_cl))
      | (apply callQ2 (hp := pg2); (focus exact er_cl); (focus exact er_cl))
      | (apply ldQ_whole)
      | (apply boxQ_i; (exact wu_); (exact wu_))
     all_goals refine post1 rfl (Or.inr rfl) ?_
     all_goals (try simp -implicitDefEqProofs only [wL, seval])
     all_goals (first | refine er_bool ?_ | refine er_int ?_ | refine er_str ?_ | refine er_sl_eq ?_ | refine er_asl_eq ?_)
     all_goals (try (with_reducible rfl))
   | true =>
     cases ok2 with
     | false =>
       rw [e1] at pg1
       rw [e2] at pg2
       repeat' with_reducible first
        | refine s_ ?_
        | simp -implicitDefEqProofs only [wZZ, seval]
        | (apply callQ0 (hp := hw))
        | (apply callQ1 (hp := hcut); (focus exact src_er y))
        | (apply callQ1 (hp := hgr); (focus exact src_er src))
        | (apply stQ_whole; (exact wu_); (exact wu_))
        | (apply callQ2 (hp := hin1); (focus exact er_cl); (focus exact er_cl))
        | (apply callQ2 (hp := hin2); (focus exact er_cl); (focus exact er_cl))
        | (apply callQ2 (hp := pg1); (focus exact er_cl); (focus exact er_cl))
        | (apply callQ2 (hp := pg2); (focus exact er_cl); (focus exact er_cl))
        | (apply ldQ_whole)
        | (apply boxQ_i; (exact wu_); (exact wu_))
       all_goals refine post1 rfl (Or.inr rfl) ?_
       all_goals (try simp -implicitDefEqProofs only [wL, seval])
       all_goals (first | refine er_bool ?_ | refine er_int ?_ | refine er_str ?_ | refine er_sl_eq ?_ | refine er_asl_eq ?_)
       all_goals (try (with_reducible rfl))
     | true =>
       obtain ⟨b1, d1, j1, t1⟩ := ht rfl
       obtain ⟨b2, d2, j2, t2⟩ := hu rfl
       have z1 := ref_Size _ _ (Nat.le_refl _) (show (Nd.mk s1 i1 a1 ks1).size ≤ 1000000000000 by omega)
       have z2 := ref_Size _ _ (Nat.le_refl _) (show (Nd.mk s2 i2 a2 ks2).size ≤ 1000000000000 by omega)
       have w1 := tree_Yield (show (Nd.mk s1 i1 a1 ks1).size ≤ 1000000000 by omega)
       have w2 := tree_Yield (show (Nd.mk s2 i2 a2 ks2).size ≤ 1000000000 by omega)
       have l1 := Nd.yld_len (Nd.mk s1 i1 a1 ks1)
       have l2 := Nd.yld_len (Nd.mk s2 i2 a2 ks2)
       have es := treeD_prod t1
       obtain ⟨x, hx, pc⟩ := many_Count (sy := 1000 + (k : Int)) (w := (Nd.mk s1 i1 a1 ks1).yld) (cnt_ok hg) (by omega) (by omega) (by omega)
       obtain ⟨c1, c2⟩ := tree_counts (d' := d2) (j' := j2) (u := Nd.mk s2 i2 a2 ks2) (cnt_ok hg) t1 (by omega) (by omega) (by omega) hx
       have qi := yuccaref0_EqInts (a := (Nd.mk s1 i1 a1 ks1).yld) (b := (Nd.mk s2 i2 a2 ks2).yld) (by omega) (by omega)
       have qn := ref_EqNode _ (Nd.mk s1 i1 a1 ks1) (Nd.mk s2 i2 a2 ks2) (Nat.le_refl _) (by omega) (by omega)
       have hne : (Nd.mk s1 i1 a1 ks1).yld = (Nd.mk s2 i2 a2 ks2).yld → (Nd.mk s1 i1 a1 ks1).eqb (Nd.mk s2 i2 a2 ks2) = false → 24 < (Nd.mk s1 i1 a1 ks1).yld.length ∨ x = 2 := fun h1 h2 => by
        by_cases h3 : 24 < (Nd.mk s1 i1 a1 ks1).yld.length
        · exact Or.inl h3
        · exact Or.inr ((c2 (by omega)).2 t2 h1 fun e => by rw [(Nd.eqb_iff _ _).2 e] at h2; cases h2)
       have c3 : (Nd.mk s1 i1 a1 ks1).yld.length ≤ 24 → 1 ≤ x := fun h => (c2 h).1
       have c4 := @Classical.em ((Nd.mk s1 i1 a1 ks1).yld = (Nd.mk s2 i2 a2 ks2).yld)
       have es : s1 = 1000 + (k : Int) := es
       subst es
       rw [e1] at pg1 z1 w1 qn
       rw [e2] at pg2 z2 w2 qn
       generalize (Nd.mk (1000 + (k : Int)) i1 a1 ks1).sizeR = n1 at *
       generalize (Nd.mk s2 i2 a2 ks2).sizeR = n2 at *
       generalize (Nd.mk (1000 + (k : Int)) i1 a1 ks1).eqb (Nd.mk s2 i2 a2 ks2) = bq at *
       generalize (Nd.mk (1000 + (k : Int)) i1 a1 ks1).yld = Y1 at *
       generalize (Nd.mk s2 i2 a2 ks2).yld = Y2 at *
       clear ht hu t1 t2 c2 hx e1 e2 b1 b2
       by_cases hn1 : 3000 < n1
       · repeat' with_reducible first
          | refine s_ ?_
          | simp -implicitDefEqProofs only [wZZ, seval]
          | ((first | refine gdQ_iT (fun h => ?_) (fun h => ?_) | refine gdQ_iF (fun h => ?_) (fun h => ?_)) <;> have h_ := h <;> (try simp only [wD, reduceCtorEq] at h_) <;> (try exact wb_) <;> (try simp only [h]))
          | (apply callQ0 (hp := hw))
          | (apply callQ1 (hp := hcut); (focus exact src_er y))
          | (apply callQ1 (hp := hgr); (focus exact src_er src))
          | (apply stQ_whole; (exact wu_); (exact wu_))
          | (apply callQ2 (hp := hin1); (focus exact er_cl); (focus exact er_cl))
          | (apply callQ2 (hp := hin2); (focus exact er_cl); (focus exact er_cl))
          | (apply callQ2 (hp := pg1); (focus exact er_cl); (focus exact er_cl))
          | (apply callQ2 (hp := pg2); (focus exact er_cl); (focus exact er_cl))
          | (apply callQ1 (hp := z1); (focus exact er_cl))
          | (apply ldQ_whole)
          | (apply boxQ_i; (exact wu_); (exact wu_))
         all_goals refine post1 rfl (Or.inr rfl) ?_
         all_goals (try simp -implicitDefEqProofs only [wL, seval])
         all_goals (first | refine er_bool ?_ | refine er_int ?_ | refine er_str ?_ | refine er_sl_eq ?_ | refine er_asl_eq ?_)
         all_goals (try (with_reducible rfl))
       · by_cases hn2 : 3000 < n2
         · repeat' with_reducible first
            | refine s_ ?_
            | simp -implicitDefEqProofs only [wZZ, seval]
            | (refine condQ_j (fun h h_ => ?_) (fun h h_ => ?_) <;> (try simp only [wD, reduceCtorEq] at h_) <;> (try exact wb_) <;> (try simp only [h]))
            | ((first | refine gdQ_iT (fun h => ?_) (fun h => ?_) | refine gdQ_iF (fun h => ?_) (fun h => ?_)) <;> have h_ := h <;> (try simp only [wD, reduceCtorEq] at h_) <;> (try exact wb_) <;> (try simp only [h]))
            | (apply callQ0 (hp := hw))
            | (apply callQ1 (hp := hcut); (focus exact src_er y))
            | (apply callQ1 (hp := hgr); (focus exact src_er src))
            | (apply stQ_whole; (exact wu_); (exact wu_))
            | (apply callQ2 (hp := hin1); (focus exact er_cl); (focus exact er_cl))
            | (apply callQ2 (hp := hin2); (focus exact er_cl); (focus exact er_cl))
            | (apply callQ2 (hp := pg1); (focus exact er_cl); (focus exact er_cl))
            | (apply callQ2 (hp := pg2); (focus exact er_cl); (focus exact er_cl))
            | (apply callQ1 (hp := z1); (focus exact er_cl))
            | (apply callQ1 (hp := z2); (focus exact er_cl))
            | (apply ldQ_whole)
            | (apply boxQ_i; (exact wu_); (exact wu_))
           all_goals refine post1 rfl (Or.inr rfl) ?_
           all_goals (try simp -implicitDefEqProofs only [wL, seval])
           all_goals (first | refine er_bool ?_ | refine er_int ?_ | refine er_str ?_ | refine er_sl_eq ?_ | refine er_asl_eq ?_)
           all_goals (try (with_reducible rfl))
         · by_cases hy : 24 < Y1.length
           · have hx1 := c1 hy
             subst hx1
             repeat' with_reducible first
              | refine s_ ?_
              | simp -implicitDefEqProofs only [wZZ, seval]
              | (refine condQ_j (fun h h_ => ?_) (fun h h_ => ?_) <;> (try simp only [wD, reduceCtorEq] at h_) <;> (try exact wb_) <;> (try simp only [h]))
              | ((first | refine gdQ_iT (fun h => ?_) (fun h => ?_) | refine gdQ_iF (fun h => ?_) (fun h => ?_)) <;> have h_ := h <;> (try simp only [wD, reduceCtorEq] at h_) <;> (try exact wb_) <;> (try simp only [h]))
              | (apply callQ0 (hp := hw))
              | (apply callQ1 (hp := hcut); (focus exact src_er y))
              | (apply callQ1 (hp := hgr); (focus exact src_er src))
              | (apply stQ_whole; (exact wu_); (exact wu_))
              | (apply callQ2 (hp := hin1); (focus exact er_cl); (focus exact er_cl))
              | (apply callQ2 (hp := hin2); (focus exact er_cl); (focus exact er_cl))
              | (apply callQ2 (hp := pg1); (focus exact er_cl); (focus exact er_cl))
              | (apply callQ2 (hp := pg2); (focus exact er_cl); (focus exact er_cl))
              | (apply callQ1 (hp := z1); (focus exact er_cl))
              | (apply callQ1 (hp := z2); (focus exact er_cl))
              | (apply callQ1 (hp := w1); (focus exact er_cl))
              | (apply callQ3 (hp := pc); (focus exact er_cl); (focus exact er_cl); (focus exact er_cl))
              | (apply ldQ_whole)
              | (apply ldQ_cell; (exact wu_))
              | (apply boxQ_i; (exact wu_); (exact wu_))
             all_goals refine post1 rfl (Or.inr rfl) ?_
             all_goals (try simp -implicitDefEqProofs only [wL, seval])
             all_goals (first | refine er_bool ?_ | refine er_int ?_ | refine er_str ?_ | refine er_sl_eq ?_ | refine er_asl_eq ?_)
             all_goals (try (with_reducible rfl))
           · have h1x := c3 (by omega)
             by_cases hyy : Y1 = Y2
             · rw [decide_eq_true hyy] at qi
               cases bq with
               | true =>
                 repeat' with_reducible first
                  | refine s_ ?_
                  | simp -implicitDefEqProofs only [wZZ, seval]
                  | (refine condQ_j (fun h h_ => ?_) (fun h h_ => ?_) <;> (try simp only [wD, reduceCtorEq] at h_) <;> (try exact wb_) <;> (try simp only [h]))
                  | ((first | refine gdQ_iT (fun h => ?_) (fun h => ?_) | refine gdQ_iF (fun h => ?_) (fun h => ?_)) <;> have h_ := h <;> (try simp only [wD, reduceCtorEq] at h_) <;> (try exact wb_) <;> (try simp only [h]))
                  | (apply callQ0 (hp := hw))
                  | (apply callQ1 (hp := hcut); (focus exact src_er y))
                  | (apply callQ1 (hp := hgr); (focus exact src_er src))
                  | (apply stQ_whole; (exact wu_); (exact wu_))
                  | (apply callQ2 (hp := hin1); (focus exact er_cl); (focus exact er_cl))
                  | (apply callQ2 (hp := hin2); (focus exact er_cl); (focus exact er_cl))
                  | (apply callQ2 (hp := pg1); (focus exact er_cl); (focus exact er_cl))
                  | (apply callQ2 (hp := pg2); (focus exact er_cl); (focus exact er_cl))
                  | (apply callQ1 (hp := z1); (focus exact er_cl))
                  | (apply callQ1 (hp := z2); (focus exact er_cl))
                  | (apply callQ1 (hp := w1); (focus exact er_cl))
                  | (apply callQ1 (hp := w2); (focus exact er_cl))
                  | (apply callQ3 (hp := pc); (focus exact er_cl); (focus exact er_cl); (focus exact er_cl))
                  | (apply callQ2 (hp := qi); (focus exact er_cl); (focus exact er_cl))
                  | (apply callQ2 (hp := qn); (focus exact er_cl); (focus exact er_cl))
                  | (apply ldQ_whole)
                  | (apply ldQ_cell; (exact wu_))
                  | (apply boxQ_i; (exact wu_); (exact wu_))
                 all_goals refine post1 rfl (Or.inr rfl) ?_
                 all_goals (try simp -implicitDefEqProofs only [wL, seval])
                 all_goals (first | refine er_bool ?_ | refine er_int ?_ | refine er_str ?_ | refine er_sl_eq ?_ | refine er_asl_eq ?_)
                 all_goals (try (with_reducible rfl))
                 all_goals exact decide_eq_true h1x
               | false =>
                 have hx2 : x = 2 := (hne hyy rfl).resolve_left hy
                 subst hx2
                 repeat' with_reducible first
                  | refine s_ ?_
                  | simp -implicitDefEqProofs only [wZZ, seval]
                  | (refine condQ_j (fun h h_ => ?_) (fun h h_ => ?_) <;> (try simp only [wD, reduceCtorEq] at h_) <;> (try exact wb_) <;> (try simp only [h]))
                  | ((first | refine gdQ_iT (fun h => ?_) (fun h => ?_) | refine gdQ_iF (fun h => ?_) (fun h => ?_)) <;> have h_ := h <;> (try simp only [wD, reduceCtorEq] at h_) <;> (try exact wb_) <;> (try simp only [h]))
                  | (apply callQ0 (hp := hw))
                  | (apply callQ1 (hp := hcut); (focus exact src_er y))
                  | (apply callQ1 (hp := hgr); (focus exact src_er src))
                  | (apply stQ_whole; (exact wu_); (exact wu_))
                  | (apply callQ2 (hp := hin1); (focus exact er_cl); (focus exact er_cl))
                  | (apply callQ2 (hp := hin2); (focus exact er_cl); (focus exact er_cl))
                  | (apply callQ2 (hp := pg1); (focus exact er_cl); (focus exact er_cl))
                  | (apply callQ2 (hp := pg2); (focus exact er_cl); (focus exact er_cl))
                  | (apply callQ1 (hp := z1); (focus exact er_cl))
                  | (apply callQ1 (hp := z2); (focus exact er_cl))
                  | (apply callQ1 (hp := w1); (focus exact er_cl))
                  | (apply callQ1 (hp := w2); (focus exact er_cl))
                  | (apply callQ3 (hp := pc); (focus exact er_cl); (focus exact er_cl); (focus exact er_cl))
                  | (apply callQ2 (hp := qi); (focus exact er_cl); (focus exact er_cl))
                  | (apply callQ2 (hp := qn); (focus exact er_cl); (focus exact er_cl))
                  | (apply ldQ_whole)
                  | (apply ldQ_cell; (exact wu_))
                  | (apply boxQ_i; (exact wu_); (exact wu_))
                 all_goals refine post1 rfl (Or.inr rfl) ?_
                 all_goals (try simp -implicitDefEqProofs only [wL, seval])
                 all_goals (first | refine er_bool ?_ | refine er_int ?_ | refine er_str ?_ | refine er_sl_eq ?_ | refine er_asl_eq ?_)
                 all_goals (try (with_reducible rfl))
             · rw [decide_eq_false hyy] at qi
               repeat' with_reducible first
                | refine s_ ?_
                | simp -implicitDefEqProofs only [wZZ, seval]
                | (refine condQ_j (fun h h_ => ?_) (fun h h_ => ?_) <;> (try simp only [wD, reduceCtorEq] at h_) <;> (try exact wb_) <;> (try simp only [h]))
                | ((first | refine gdQ_iT (fun h => ?_) (fun h => ?_) | refine gdQ_iF (fun h => ?_) (fun h => ?_)) <;> have h_ := h <;> (try simp only [wD, reduceCtorEq] at h_) <;> (try exact wb_) <;> (try simp only [h]))
                | (apply callQ0 (hp := hw))
                | (apply callQ1 (hp := hcut); (focus exact src_er y))
                | (apply callQ1 (hp := hgr); (focus exact src_er src))
                | (apply stQ_whole; (exact wu_); (exact wu_))
                | (apply callQ2 (hp := hin1); (focus exact er_cl); (focus exact er_cl))
                | (apply callQ2 (hp := hin2); (focus exact er_cl); (focus exact er_cl))
                | (apply callQ2 (hp := pg1); (focus exact er_cl); (focus exact er_cl))
                | (apply callQ2 (hp := pg2); (focus exact er_cl); (focus exact er_cl))
                | (apply callQ1 (hp := z1); (focus exact er_cl))
                | (apply callQ1 (hp := z2); (focus exact er_cl))
                | (apply callQ1 (hp := w1); (focus exact er_cl))
                | (apply callQ1 (hp := w2); (focus exact er_cl))
                | (apply callQ3 (hp := pc); (focus exact er_cl); (focus exact er_cl); (focus exact er_cl))
                | (apply callQ2 (hp := qi); (focus exact er_cl); (focus exact er_cl))
                | (apply ldQ_whole)
                | (apply ldQ_cell; (exact wu_))
                | (apply boxQ_i; (exact wu_); (exact wu_))
               all_goals refine post1 rfl (Or.inr rfl) ?_
               all_goals (try simp -implicitDefEqProofs only [wL, seval])
               all_goals (first | refine er_bool ?_ | refine er_int ?_ | refine er_str ?_ | refine er_sl_eq ?_ | refine er_asl_eq ?_)
               all_goals (try (with_reducible rfl))
               all_goals exact decide_eq_true h1x
end Go.Proofs
