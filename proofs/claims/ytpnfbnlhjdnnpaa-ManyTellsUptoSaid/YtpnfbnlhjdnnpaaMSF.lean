/- Part of a proof that a law of the given program answers true. -/
import Derived.Test.YtpnfbnlhjdnnpaaMSE
import Derived.Test.YtpnfbnlhjdnnpaaMRB
import Derived.Test.YtpnfbnlhjdnnpaaMMA
import Derived.Test.YtpnfbnlhjdnnpaaMSA
set_option linter.unusedSimpArgs false
set_option linter.unusedVariables false
set_option maxHeartbeats 4000000
namespace Go.Proofs
open Go.E
theorem GOk.cnt {g : Grammar} (h : GOk g) : Cnt g g.nons.length where
 nl := rfl
 nb := by have := h.nn2; omega
 pb := by have := h.pl2; omega
 pl := h.left
 pr := fun p hp s hs => by
  rcases h.right p hp s hs with ⟨t, rfl, ht⟩ | hk
  · left; have := h.tk2; omega
  · exact Or.inr hk
 rb := fun p hp => by have := h.rlen p hp; omega
theorem gram2 (x : GrI) (y : Source) (i : Nat) (src : Source) (h : [cutS y, sourceS x][i]? = some src) : src.Fits ∧ (mayB src = true → Small src) := by
 match i, h with
 | 0, h => cases h; exact ⟨cutS_fits y, cutS_small y⟩
 | 1, h => cases h; exact ⟨sourceS_fits x, fun _ => sourceS_small x⟩
 | i + 2, h => cases h
theorem both_Count {g : Grammar} {sy : Int} {w : List Int} (hg : GOk g) (hs : sy < 9223372036854775808) (hw : w.length ≤ 1000000) : ∃ x : Int, Pure Try.prog 13 [g.V, vi sy, .sl 1 false (w.map (V.int .i64))] (vi x) ∧ Pure Try.prog 14 [g.V, vi sy, .sl 1 false (w.map (V.int .i64))] (vi x) := by
 have htk := hg.tk2
 obtain ⟨x, h1, p1⟩ := many_Count (sy := sy) (w := w) hg.cnt hs hw (by omega)
 obtain ⟨z, h2, p2⟩ := ref_Count (sy := sy) (w := w) hg.cnt hs hw (by omega)
 rw [h2.uniq h1] at p2
 exact ⟨x, p1, p2⟩
theorem mod_ex {sy : Int} {n : Nat} (h : 1 ≤ n) : ∃ k : Nat, sy % (n : Int) = (k : Int) ∧ k < n := by
 have h1 := Int.emod_nonneg sy (show (n : Int) ≠ 0 by omega)
 have h2 := Int.emod_lt_of_pos sy (show (0 : Int) < (n : Int) by omega)
 exact ⟨(sy % (n : Int)).toNat, by omega, by omega⟩
theorem yuccalaw14_ManyTells {y : Source} {x : GrI} {sy : Int} {l : List Int} (hy : y.Fits) (hb1 : x.rules.length ≤ 1099511627776) (hb2 : ∀ l ∈ x.rules, l.length ≤ 1099511627776) (hib : x.inner.length ≤ 1099511627776) (hlb : x.levels.length ≤ 1099511627776) (hl : l.length ≤ 1099511627776) (hs : sy < 9223372036854775808) : Pure Try.prog 3 [y.V, x.V, vi sy, .sl 1 false (l.map (V.int .i64))] (.bool true) := by
 refine pure_intro Try.func3 e3_nm e3_ok (by show 4 ≤ 92; decide) ?_
 show ewp _ e3n36 _ _
 have hw := wakes_pure
 have hcut := yuccalaw0_Cut hy
 have hsrc := yuccalaw0_Source (x := x) hb1 hb2 hib hlb
 have hsl : V.sl 4 true [(cutS y).V, (sourceS x).V] = .sl 4 true ([cutS y, sourceS x].map Source.V) := rfl
 repeat' with_reducible first
  | refine s_ ?_
  | simp -implicitDefEqProofs only [wZZ, seval]
  | (apply callQ0 (hp := hw))
  | (apply callQ1 (hp := hcut); (focus exact src_er y))
  | (apply callQ1 (hp := hsrc); (focus exact er_cl))
  | (apply fil_part; (exact wu_); (exact wu_); (exact wu_); (focus ((try simp -implicitDefEqProofs only [wY]); rfl)))
  | (apply ldQ_whole)
  | (apply boxQ_i; (exact wu_); (exact wu_))
 rw [hsl]
 have h2 := gram2 x y
 generalize hL : [cutS y, sourceS x] = L at *
 have hLl : L.length = 2 := by rw [← hL]; rfl
 clear hL hsl
 refine ewp_loopN ?nx1 (fun (i : Nat) s => s.f 2 = ?v1_2 ∧ s.f 3 = ?v1_3 ∧ s.f 9 = ?v1_9 ∧ s.f 10 = vi i ∧ (i ≤ L.length)) (fun i => L.length - i) (0) wj_ (by refine ⟨?_, ?_, ?_, ?_, (by first | omega | (simp; done) | assumption)⟩ <;> first | (simp -implicitDefEqProofs only [wL, wM, wN, wX, seval, Option.some.injEq] <;> exact wt_) | rfl | exact ⟨_, rfl⟩) ?_
 intro i s hnx ⟨g2, g3, g9, g10, k1_0⟩
 have hz : IntKind.i64.wrap ((i + 1 : Nat) : Int) = ((i + 1 : Nat) : Int) := wrap64 (by omega) (by omega)
 by_cases hi : i < L.length
 · have hgi : L[i]? = some L[i] := List.getElem?_eq_getElem hi
   obtain ⟨hf, hS⟩ := h2 i _ hgi
   have hgr := yuccaref16_Grammar hf hS
   generalize L[i] = src at *
   cases hb : gramB src with
   | false =>
     rw [hb] at hgr
     repeat' with_reducible first
      | refine s_ ?_
      | simp -implicitDefEqProofs only [wZZ, seval, g2, g3, g9, g10, hz]
      | (refine condQ_j (fun h h_ => ?_) (fun h h_ => ?_) <;> (try simp only [wD, reduceCtorEq] at h_) <;> (try exact wb_) <;> (try simp only [h]))
      | (apply ia_slQ; (focus omega); (focus with_unfolding_all exact hgi))
      | (apply callQ1 (hp := hgr); (focus exact src_er src))
      | (apply stQ_whole; (exact wu_); (exact wu_))
     exact ⟨by ((try simp only [wN]) <;> omega), i + 1, by omega, trivial, trivial, trivial, rfl, by omega⟩
   | true =>
     rw [hb] at hgr
     have hg := gok hb
     have hnl := hg.nn2; have hnl1 := hg.nn; have htl := hg.tk2; have htl1 := hg.tk
     generalize gramS src = g at *
     have htk := yuccalaw14_toks (g := g) (l := l) (n := 26) (by omega) (by omega) hl
     rw [show ((26 : Nat) : Int) = 26 from rfl] at htk
     have hul : (toksN g l 26).length ≤ 26 := by unfold toksN; rw [List.length_map, List.length_take]; omega
     generalize toksN g l 26 = u at htk hul
     have hin := yuccalaw0_Ints (l := l) (n := 9) hl (by omega)
     rw [show ((9 : Nat) : Int) = 9 from rfl] at hin
     have hrl : (intsN l 9).length ≤ 9 := by unfold intsN; (try split) <;> (try rw [List.length_take]) <;> omega
     generalize intsN l 9 = r at *
     have hw1 := yuccaref0_Within (i := sy) (n := (g.nons.length : Int)) (by omega) (by omega)
     have hw2 := yuccaref0_Within (i := sy) (n := (g.toks.length : Int)) (by omega) (by omega)
     obtain ⟨k, hk, hkn⟩ := mod_ex (sy := sy) (n := g.nons.length) (by omega)
     obtain ⟨t, ht, htn⟩ := mod_ex (sy := sy) (n := g.toks.length) (by omega)
     rw [hk] at hw1
     rw [ht] at hw2
     obtain ⟨x1, p1, q1⟩ := both_Count (sy := sy) (w := r) hg hs (by omega)
     obtain ⟨x2, p2, q2⟩ := both_Count (sy := 1000 + (k : Int)) (w := u) hg (by omega) (by omega)
     obtain ⟨x3, p3, q3⟩ := both_Count (sy := (t : Int)) (w := u) hg (by omega) (by omega)
     have hz2 : IntKind.i64.wrap (1000 + (k : Int)) = 1000 + (k : Int) := wrap64 (by omega) (by omega)
     repeat' with_reducible first
      | refine s_ ?_
      | simp -implicitDefEqProofs only [wZZ, seval, g2, g3, g9, g10, hz, hz2, beq_self_eq_true]
      | (refine condQ_j (fun h h_ => ?_) (fun h h_ => ?_) <;> (try simp only [wD, reduceCtorEq] at h_) <;> (try exact wb_) <;> (try simp only [h]))
      | (apply ia_slQ; (focus omega); (focus with_unfolding_all exact hgi))
      | (apply callQ1 (hp := hgr); (focus exact src_er src))
      | (apply stQ_whole; (exact wu_); (exact wu_))
      | (apply callQ3 (hp := htk); (focus exact er_cl); (focus exact er_cl); (focus exact er_cl))
      | (apply callQ2 (hp := hin); (focus exact er_cl); (focus exact er_cl))
      | (apply callQ2 (hp := hw1); (focus exact er_cl); (focus exact er_cl))
      | (apply callQ2 (hp := hw2); (focus exact er_cl); (focus exact er_cl))
      | (apply callQ3 (hp := p1); (focus exact er_cl); (focus exact er_cl); (focus exact er_cl))
      | (apply callQ3 (hp := q1); (focus exact er_cl); (focus exact er_cl); (focus exact er_cl))
      | (apply callQ3 (hp := p2); (focus exact er_cl); (focus exact er_cl); (focus exact er_cl))
      | (apply callQ3 (hp := q2); (focus exact er_cl); (focus exact er_cl); (focus exact er_cl))
      | (apply callQ3 (hp := p3); (focus exact er_cl); (focus exact er_cl); (focus exact er_cl))
      | (apply callQ3 (hp := q3); (focus exact er_cl); (focus exact er_cl); (focus exact er_cl))
      | (apply ldQ_whole)
      | (apply ldQ_cell; (exact wu_))
     exact ⟨by ((try simp only [wN]) <;> omega), i + 1, by omega, trivial, trivial, trivial, rfl, by omega⟩
 · have e : i = L.length := by omega
   repeat' with_reducible first
    | refine s_ ?_
    | simp -implicitDefEqProofs only [wZZ, seval, g2, g3, g9, g10, hz]
    | (refine condQ_j (fun h h_ => ?_) (fun h h_ => ?_) <;> (try simp only [wD, reduceCtorEq] at h_) <;> (try exact wb_) <;> (try simp only [h]))
   all_goals refine post1 rfl (Or.inr rfl) ?_
   all_goals (try simp -implicitDefEqProofs only [wL, seval, g2, g3, g9, g10])
   all_goals (first | refine er_bool ?_ | refine er_int ?_ | refine er_str ?_ | refine er_sl_eq ?_ | refine er_asl_eq ?_)
   all_goals (try (with_reducible rfl))
end Go.Proofs
