/- Part of a proof that a law of the given program answers true. -/
import Derived.Test.YtpnfbnlhjdnnpaaDoorTRB
import Derived.Test.YtpnfbnlhjdnnpaaDoorTRD
import Derived.Test.YtpnfbnlhjdnnpaaDoorTLC
set_option linter.unusedSimpArgs false
set_option linter.unusedVariables false
set_option maxHeartbeats 4000000
namespace Go.Proofs
open Go.E
theorem yuccaref9_Symbol {g : Grammar} {x : Int} (hg : GOk g) : Pure Tryd.prog 39 [g.V, vi x] (.bool (symOkB g.toks.length g.nons.length x)) := by
 refine pure_intro Tryd.func39 e39_nm e39_ok (by show 2 ≤ 26; decide) ?_
 show ewp _ e39n3 _ _
 have hnl := hg.nn2; have htl := hg.tk2
 have hz : IntKind.i64.wrap (1000 + (g.nons.length : Int)) = 1000 + (g.nons.length : Int) := wrap64 (by omega) (by omega)
 by_cases h0 : 0 ≤ x
 · by_cases h1 : x < g.toks.length
   · have e : symOkB g.toks.length g.nons.length x = true := by unfold symOkB; simp; omega
     rw [e]
     repeat' with_reducible first
      | refine s_ ?_
      | simp -implicitDefEqProofs only [wZZ, seval, hz]
      | ((first | refine gdQ_iT (fun h => ?_) (fun h => ?_) | refine gdQ_iF (fun h => ?_) (fun h => ?_)) <;> have h_ := h <;> (try simp only [wD, reduceCtorEq] at h_) <;> (try exact wb_) <;> (try simp only [h]))
      | (apply ldQ_cell; (exact wu_))
      | (apply boxQ_i; (exact wu_); (exact wu_))
     all_goals refine post1 rfl (Or.inr rfl) ?_
     all_goals (try simp -implicitDefEqProofs only [wL, seval])
     all_goals (first | refine er_bool ?_ | refine er_int ?_ | refine er_str ?_ | refine er_sl_eq ?_ | refine er_asl_eq ?_)
     all_goals (try (with_reducible rfl))
   · by_cases h2 : 1000 ≤ x
     · by_cases h3 : x < 1000 + (g.nons.length : Int)
       · have e : symOkB g.toks.length g.nons.length x = true := by unfold symOkB; simp; omega
         rw [e]
         repeat' with_reducible first
          | refine s_ ?_
          | simp -implicitDefEqProofs only [wZZ, seval, hz]
          | ((first | refine gdQ_iT (fun h => ?_) (fun h => ?_) | refine gdQ_iF (fun h => ?_) (fun h => ?_)) <;> have h_ := h <;> (try simp only [wD, reduceCtorEq] at h_) <;> (try exact wb_) <;> (try simp only [h]))
          | (apply ldQ_cell; (exact wu_))
          | (apply boxQ_i; (exact wu_); (exact wu_))
         all_goals refine post1 rfl (Or.inr rfl) ?_
         all_goals (try simp -implicitDefEqProofs only [wL, seval])
         all_goals (first | refine er_bool ?_ | refine er_int ?_ | refine er_str ?_ | refine er_sl_eq ?_ | refine er_asl_eq ?_)
         all_goals (try (with_reducible rfl))
         exact decide_eq_true h3
       · have e : symOkB g.toks.length g.nons.length x = false := by unfold symOkB; simp; omega
         rw [e]
         repeat' with_reducible first
          | refine s_ ?_
          | simp -implicitDefEqProofs only [wZZ, seval, hz]
          | ((first | refine gdQ_iT (fun h => ?_) (fun h => ?_) | refine gdQ_iF (fun h => ?_) (fun h => ?_)) <;> have h_ := h <;> (try simp only [wD, reduceCtorEq] at h_) <;> (try exact wb_) <;> (try simp only [h]))
          | (apply ldQ_cell; (exact wu_))
          | (apply boxQ_i; (exact wu_); (exact wu_))
         all_goals refine post1 rfl (Or.inr rfl) ?_
         all_goals (try simp -implicitDefEqProofs only [wL, seval])
         all_goals (first | refine er_bool ?_ | refine er_int ?_ | refine er_str ?_ | refine er_sl_eq ?_ | refine er_asl_eq ?_)
         all_goals (try (with_reducible rfl))
         exact decide_eq_false h3
     · have e : symOkB g.toks.length g.nons.length x = false := by unfold symOkB; simp; omega
       rw [e]
       repeat' with_reducible first
        | refine s_ ?_
        | simp -implicitDefEqProofs only [wZZ, seval, hz]
        | ((first | refine gdQ_iT (fun h => ?_) (fun h => ?_) | refine gdQ_iF (fun h => ?_) (fun h => ?_)) <;> have h_ := h <;> (try simp only [wD, reduceCtorEq] at h_) <;> (try exact wb_) <;> (try simp only [h]))
        | (apply ldQ_cell; (exact wu_))
        | (apply boxQ_i; (exact wu_); (exact wu_))
       all_goals refine post1 rfl (Or.inr rfl) ?_
       all_goals (try simp -implicitDefEqProofs only [wL, seval])
       all_goals (first | refine er_bool ?_ | refine er_int ?_ | refine er_str ?_ | refine er_sl_eq ?_ | refine er_asl_eq ?_)
       all_goals (try (with_reducible rfl))
 · have e : symOkB g.toks.length g.nons.length x = false := by unfold symOkB; simp; omega
   rw [e]
   repeat' with_reducible first
    | refine s_ ?_
    | simp -implicitDefEqProofs only [wZZ, seval, hz]
    | ((first | refine gdQ_iT (fun h => ?_) (fun h => ?_) | refine gdQ_iF (fun h => ?_) (fun h => ?_)) <;> have h_ := h <;> (try simp only [wD, reduceCtorEq] at h_) <;> (try exact wb_) <;> (try simp only [h]))
    | (apply boxQ_i; (exact wu_); (exact wu_))
   all_goals refine post1 rfl (Or.inr rfl) ?_
   all_goals (try simp -implicitDefEqProofs only [wL, seval])
   all_goals (first | refine er_bool ?_ | refine er_int ?_ | refine er_str ?_ | refine er_sl_eq ?_ | refine er_asl_eq ?_)
   all_goals (try (with_reducible rfl))
theorem lstA_fits (S : Nat → Nat → Bool) (E : Nat → Bool) : ∀ (l : List Int) (a : Nat → Bool), (lstA S E l a).2 = fitsB false E l
 | [], a => rfl
 | x :: r, a => by
   rw [lstA]
   show _ = ((if x < 1000 then false else E (x - 1000).toNat) && fitsB false E r)
   by_cases hx : x < 1000
   · rw [if_pos hx, if_pos hx]; rfl
   · rw [if_neg hx, if_neg hx]
     by_cases hE : E (x - 1000).toNat = true
     · rw [if_pos hE, hE, Bool.true_and]; exact lstA_fits S E r _
     · have : E (x - 1000).toNat = false := by simpa using hE
       rw [if_neg hE, this]; rfl
theorem yuccaref9_List {g : Grammar} {E : Nat → Bool} {S : Nat → Nat → Bool} {l : List Int} (hg : GOk g) (hE : IsGrow g false E) (hS : IsFirst g E S) (hl : l.length ≤ 1000000) : Pure Tryd.prog 14 [g.V, .sl 1 false (l.map (V.int .i64))] (.tup [.sl 1 false ((firstL g.toks.length g.nons.length S E l).1.map (V.int .i64)), .bool (firstL g.toks.length g.nons.length S E l).2]) := by
 refine pure_intro Tryd.func14 e14_nm e14_ok (by show 2 ≤ 31; decide) ?_
 show ewp _ e14n22 _ _
 have hnl := hg.nn2; have htl := hg.tk2
 obtain ⟨E1, hE1, hnull⟩ := yuccaref9_Null hg
 obtain rfl := hE1.uniq hE
 obtain ⟨S1, hS1, hfirst⟩ := yuccaref9_First hg hE1
 obtain rfl := hS1.uniq hS
 have hcb := Cl_bol g.nons.length E1
 repeat' with_reducible first
  | refine s_ ?_
  | simp -implicitDefEqProofs only [wZZ, seval]
  | (apply boxQ_i; (exact wu_); (exact wu_))
 refine ewp_loopN ?nx1 (fun (i : Nat) s => s.f 1 = ?v1_1 ∧ s.f 2 = ?v1_2 ∧ s.H 0 = some (MObj.own 5 [g.V] false) ∧ s.f 6 = vi i ∧ (i ≤ l.length) ∧ (∀ x ∈ l.take i, symOkB g.toks.length g.nons.length x = true)) (fun i => l.length - i) (0) wj_ (by refine ⟨?_, ?_, ?_, ?_, (by first | omega | (simp; done) | assumption), (by first | omega | (simp; done) | assumption)⟩ <;> first | (simp -implicitDefEqProofs only [wL, wM, wN, wX, seval, Option.some.injEq] <;> exact wt_) | rfl | exact ⟨_, rfl⟩) ?_
 intro i s hnx ⟨g1, g2, o0, g6, k1_0, k1_1⟩
 have hz : IntKind.i64.wrap ((i + 1 : Nat) : Int) = ((i + 1 : Nat) : Int) := wrap64 (by omega) (by omega)
 by_cases hi : i < l.length
 · have hbad : symOkB g.toks.length g.nons.length l[i] = false → firstL g.toks.length g.nons.length S1 E1 l = ([], false) := fun h => by
    unfold firstL; rw [if_neg]; intro e; rw [List.all_eq_true] at e; have := e _ (List.getElem_mem hi); rw [h] at this; cases this
   have hgood : symOkB g.toks.length g.nons.length l[i] = true → ∀ x ∈ l.take (i + 1), symOkB g.toks.length g.nons.length x = true := fun h x hx => by
    rw [List.take_add_one, List.getElem?_eq_getElem hi] at hx
    rcases List.mem_append.1 hx with hx | hx
    · exact k1_1 x hx
    · simp at hx; subst hx; exact h
   have hgi : l[i]? = some l[i] := List.getElem?_eq_getElem hi
   have hsy := yuccaref9_Symbol (g := g) (x := l[i]) hg
   generalize l[i] = x at *
   cases hb : symOkB g.toks.length g.nons.length x with
   | false =>
     rw [hb] at hsy
     rw [hbad hb]
     repeat' with_reducible first
      | refine s_ ?_
      | simp -implicitDefEqProofs only [wZZ, seval, g1, g2, g6, o0, hz]
      | (refine condQ_j (fun h h_ => ?_) (fun h h_ => ?_) <;> (try simp only [wD, reduceCtorEq] at h_) <;> (try exact wb_) <;> (try simp only [h]))
      | (apply ia_slQ; (focus omega); (focus with_unfolding_all exact hgi))
      | (apply callQ2 (hp := hsy); (focus exact er_cl); (focus exact er_cl))
      | (apply ldQ_whole)
     refine post2 rfl (Or.inr rfl) ?_
     (simp -implicitDefEqProofs only [wL, seval])
     exact ErL.tup (.cons er_sl (.cons (.bool _) .nil))
   | true =>
     rw [hb] at hsy
     repeat' with_reducible first
      | refine s_ ?_
      | simp -implicitDefEqProofs only [wZZ, seval, g1, g2, g6, o0, hz]
      | (refine condQ_j (fun h h_ => ?_) (fun h h_ => ?_) <;> (try simp only [wD, reduceCtorEq] at h_) <;> (try exact wb_) <;> (try simp only [h]))
      | (apply ia_slQ; (focus omega); (focus with_unfolding_all exact hgi))
      | (apply callQ2 (hp := hsy); (focus exact er_cl); (focus exact er_cl))
      | (apply ldQ_whole)
     exact ⟨by ((try simp only [wN]) <;> omega), i + 1, by omega, trivial, trivial, trivial, rfl, by omega, hgood hb⟩
 · rw [List.take_of_length_le (by omega)] at k1_1
   have e : firstL g.toks.length g.nons.length S1 E1 l = (lst (lstF S1 E1 l).1 1024, (lstF S1 E1 l).2) := by unfold firstL; rw [if_pos (List.all_eq_true.2 k1_1)]
   rw [e, lstA_fits]
   have hsi : ∀ s ∈ l, SymIn g.toks.length g.nons.length s := fun s hs => symOkB_iff.1 (k1_1 s hs)
   have hsy : ∀ s ∈ l, s < 1000 ∨ ∃ k : Nat, s = 1000 + (k : Int) ∧ k < g.nons.length := fun s hs => by
    rcases hsi s hs with ⟨t, e, h⟩ | h
    · exact Or.inl (by omega)
    · exact Or.inr h
   have hemp := yuccaref9_Empties (n := g.nons.length) (F := E1) (l := l) (by omega) hl hsy
   repeat' with_reducible first
    | refine s_ ?_
    | simp -implicitDefEqProofs only [wZZ, seval, g1, g2, g6, o0]
    | (refine condQ_j (fun h h_ => ?_) (fun h h_ => ?_) <;> (try simp only [wD, reduceCtorEq] at h_) <;> (try exact wb_) <;> (try simp only [h]))
    | (apply callQ1 (hp := hnull); (focus exact er_cl))
    | (apply callQ1 (hp := hfirst); (focus exact er_cl))
    | (apply ldQ_whole)
   refine callQWc rfl rfl rfl ((ofE (n := g.nons.length) (nt := g.toks.length) (S := S1) (E := E1) (l := l) (by omega) hl hsi (by omega) (Or.inl rfl)).mono ?_)
   rintro v1 H1 n1 ⟨q1, ⟨c1, rfl⟩, q2⟩
   repeat' with_reducible first
    | refine ewp_ret ?_
    | simp -implicitDefEqProofs only [wZZ, seval, g1, g2, g6, o0]
    | (apply callQ2 (hp := hemp); (focus exact er_cl); (focus exact er_cl))
   refine post2 rfl (Or.inr rfl) ?_
   (simp -implicitDefEqProofs only [wL, seval])
   exact ErL.tup (.cons er_sl (.cons (.bool _) .nil))
def givenX (nt nn : Nat) (x : Int) : Int := if (nt : Int) ≤ x % (nt + nn + 1 : Nat) then 1000 + x % (nt + nn + 1 : Nat) - nt else x % (nt + nn + 1 : Nat)
def givenS (nt nn : Nat) (l : List Int) : List Int := (l.take 10).map (givenX nt nn)
theorem yuccalaw12_given {g : Grammar} {l : List Int} (hg : GOk g) (hl : l.length ≤ 1099511627776) : Pure Tryd.prog 12 [g.V, .sl 1 false (l.map (V.int .i64))] (.sl 1 false ((givenS g.toks.length g.nons.length l).map (V.int .i64))) := by
 refine pure_intro Tryd.func12 e12_nm e12_ok (by show 2 ≤ 47; decide) ?_
 show ewp _ e12n25 _ _
 have hnl := hg.nn2; have htl := hg.tk2
 have hz2 : IntKind.i64.wrap ((g.toks.length : Int) + (g.nons.length : Int)) = ((g.toks.length + g.nons.length : Nat) : Int) := by rw [wrap64 (by omega) (by omega)]; omega
 have hz3 : IntKind.i64.wrap ((g.toks.length + g.nons.length + 1 : Nat) : Int) = ((g.toks.length + g.nons.length + 1 : Nat) : Int) := wrap64 (by omega) (by omega)
 repeat' with_reducible first
  | refine s_ ?_
  | simp -implicitDefEqProofs only [wZZ, seval]
  | (apply boxQ_i; (exact wu_); (exact wu_))
 refine ewp_loopN ?nx1 (fun (i : Nat) s => s.f 1 = ?v1_1 ∧ s.f 2 = ?v1_2 ∧ s.H 0 = some (.own 5 [g.V] false) ∧ (∃ v, s.f 5 = v ∧ Gr s.H s.next 1 (((l.take i).map (givenX g.toks.length g.nons.length)).map (V.int .i64)) v) ∧ s.f 6 = vi i ∧ (i ≤ l.length) ∧ (i ≤ 10)) (fun i => l.length - i) (0) wj_ (by refine ⟨?_, ?_, ?_, ?_, ?_, (by first | omega | (simp; done) | assumption), (by first | omega | (simp; done) | assumption)⟩ <;> first | (simp -implicitDefEqProofs only [wL, wM, wN, wX, seval, Option.some.injEq] <;> exact wt_) | rfl | exact ⟨_, rfl⟩) ?_
 intro i s hnx ⟨g1, g2, o0, ⟨v5, g5, G5⟩, g6, k1_0, k1_1⟩
 have hz : IntKind.i64.wrap ((i + 1 : Nat) : Int) = ((i + 1 : Nat) : Int) := wrap64 (by omega) (by omega)
 have hlt : (l.take i).length = i := by rw [List.length_take]; omega
 by_cases hi : i < l.length ∧ i < 10
 · have hgi : l[i]? = some l[i] := List.getElem?_eq_getElem hi.1
   have htk2 : l.take (i + 1) = l.take i ++ [l[i]] := by rw [List.take_add_one, hgi]; rfl
   have hw := yuccaref0_Within (i := l[i]) (n := ((g.toks.length + g.nons.length + 1 : Nat) : Int)) (by omega) (by omega)
   generalize l[i] = x at *
   obtain ⟨k, hk⟩ : ∃ k : Nat, x % ((g.toks.length + g.nons.length + 1 : Nat) : Int) = k := ⟨(x % ((g.toks.length + g.nons.length + 1 : Nat) : Int)).toNat, by have := Int.emod_nonneg x (show ((g.toks.length + g.nons.length + 1 : Nat) : Int) ≠ 0 by omega); omega⟩
   have hkl : k < g.toks.length + g.nons.length + 1 := by have := Int.emod_lt_of_pos x (show (0 : Int) < ((g.toks.length + g.nons.length + 1 : Nat) : Int) by omega); omega
   rw [hk] at hw
   have hz4 : IntKind.i64.wrap (1000 + (k : Int)) = 1000 + (k : Int) := wrap64 (by omega) (by omega)
   by_cases hkt : g.toks.length ≤ k
   · have hz5 : IntKind.i64.wrap (1000 + (k : Int) - (g.toks.length : Int)) = 1000 + (k : Int) - (g.toks.length : Int) := wrap64 (by omega) (by omega)
     have hpx : givenX g.toks.length g.nons.length x = 1000 + (k : Int) - (g.toks.length : Int) := by unfold givenX; rw [hk, if_pos (by omega)]
     have hst : (l.take (i + 1)).map (givenX g.toks.length g.nons.length) = (l.take i).map (givenX g.toks.length g.nons.length) ++ [1000 + (k : Int) - (g.toks.length : Int)] := by rw [htk2, List.map_append]; simp [hpx]
     repeat' with_reducible first
      | refine s_ ?_
      | simp -implicitDefEqProofs only [wZZ, seval, g1, g2, g5, g6, o0, Gr.dropO G5 o0, hz, hz2, hz3, hz4, hz5, hlt, G5.len]
      | (refine condQ_j (fun h h_ => ?_) (fun h h_ => ?_) <;> (try simp only [wD, reduceCtorEq] at h_) <;> (try exact wb_) <;> (try simp only [h]))
      | ((first | refine gdQ_iT (fun h => ?_) (fun h => ?_) | refine gdQ_iF (fun h => ?_) (fun h => ?_)) <;> have h_ := h <;> (try simp only [wD, reduceCtorEq] at h_) <;> (try exact wb_) <;> (try simp only [h]))
      | (apply ia_slQ; (focus omega); (focus with_unfolding_all exact hgi))
      | (apply callQ2 (hp := hw); (focus exact er_cl); (focus exact er_cl))
      | (apply appQ_G (hg := G5); (focus (first | rfl | (simp -implicitDefEqProofs only [wM]; done))); (focus (first | exact SrcN.sl | exact SrcN.asl | exact SrcN.gr G5 | exact SrcN.str)); (exact wf_); (focus (unfold maxLen; first | omega | (simp only [wZ] <;> omega))))
      | (apply ldQ_cell; (exact wu_))
     refine ⟨wk_, i + 1, (by omega), ?_⟩
     refine ⟨?_, ?_, ?_, ?_, ?_, ?_, ?_⟩
     iterate 5 (focus (first | (simp -implicitDefEqProofs only [wL, wM, wN, wX, seval, Option.some.injEq, g1, g2, g5, g6, o0, Gr.dropO G5 o0, hst] <;> first | rfl | exact ⟨_, rfl⟩ | exact ⟨_, rfl, by first | assumption | exact Gr.nil | exact Gr.tok rfl (by omega) | exact Gr.tok (by simp -implicitDefEqProofs only [wM, seval] <;> rfl) (by omega) | exact Gr.clip | exact G5.to (by first | rfl | (simp [*]; done)) (by omega) rfl⟩) | rfl | exact ⟨_, rfl⟩))
     all_goals try omega
   · have hpx : givenX g.toks.length g.nons.length x = (k : Int) := by unfold givenX; rw [hk, if_neg (by omega)]
     have hst : (l.take (i + 1)).map (givenX g.toks.length g.nons.length) = (l.take i).map (givenX g.toks.length g.nons.length) ++ [(k : Int)] := by rw [htk2, List.map_append]; simp [hpx]
     repeat' with_reducible first
      | refine s_ ?_
      | simp -implicitDefEqProofs only [wZZ, seval, g1, g2, g5, g6, o0, Gr.dropO G5 o0, hz, hz2, hz3, hz4, hlt, G5.len]
      | (refine condQ_j (fun h h_ => ?_) (fun h h_ => ?_) <;> (try simp only [wD, reduceCtorEq] at h_) <;> (try exact wb_) <;> (try simp only [h]))
      | ((first | refine gdQ_iT (fun h => ?_) (fun h => ?_) | refine gdQ_iF (fun h => ?_) (fun h => ?_)) <;> have h_ := h <;> (try simp only [wD, reduceCtorEq] at h_) <;> (try exact wb_) <;> (try simp only [h]))
      | (apply ia_slQ; (focus omega); (focus with_unfolding_all exact hgi))
      | (apply callQ2 (hp := hw); (focus exact er_cl); (focus exact er_cl))
      | (apply appQ_G (hg := G5); (focus (first | rfl | (simp -implicitDefEqProofs only [wM]; done))); (focus (first | exact SrcN.sl | exact SrcN.asl | exact SrcN.gr G5 | exact SrcN.str)); (exact wf_); (focus (unfold maxLen; first | omega | (simp only [wZ] <;> omega))))
      | (apply ldQ_cell; (exact wu_))
     refine ⟨wk_, i + 1, (by omega), ?_⟩
     refine ⟨?_, ?_, ?_, ?_, ?_, ?_, ?_⟩
     iterate 5 (focus (first | (simp -implicitDefEqProofs only [wL, wM, wN, wX, seval, Option.some.injEq, g1, g2, g5, g6, o0, Gr.dropO G5 o0, hst] <;> first | rfl | exact ⟨_, rfl⟩ | exact ⟨_, rfl, by first | assumption | exact Gr.nil | exact Gr.tok rfl (by omega) | exact Gr.tok (by simp -implicitDefEqProofs only [wM, seval] <;> rfl) (by omega) | exact Gr.clip | exact G5.to (by first | rfl | (simp [*]; done)) (by omega) rfl⟩) | rfl | exact ⟨_, rfl⟩))
     all_goals try omega
 · have e : givenS g.toks.length g.nons.length l = (l.take i).map (givenX g.toks.length g.nons.length) := by
    unfold givenS
    by_cases h : i = 10
    · rw [h]
    · rw [List.take_of_length_le (by omega), List.take_of_length_le (by omega)]
   rw [e]
   repeat' with_reducible first
    | refine s_ ?_
    | simp -implicitDefEqProofs only [wZZ, seval, g1, g2, g5, g6, o0, Gr.dropO G5 o0, G5.len]
    | (refine condQ_j (fun h h_ => ?_) (fun h h_ => ?_) <;> (try simp only [wD, reduceCtorEq] at h_) <;> (try exact wb_) <;> (try simp only [h]))
    | ((first | refine gdQ_iT (fun h => ?_) (fun h => ?_) | refine gdQ_iF (fun h => ?_) (fun h => ?_)) <;> have h_ := h <;> (try simp only [wD, reduceCtorEq] at h_) <;> (try exact wb_) <;> (try simp only [h]))
   all_goals refine post1 rfl (Or.inr rfl) ?_
   all_goals (try simp -implicitDefEqProofs only [wL, seval, g1, g2, g5, g6])
   all_goals (first | refine er_bool ?_ | refine er_int ?_ | refine er_str ?_ | refine er_sl_eq ?_ | refine er_asl_eq ?_ | refine G5.er ?_)
   all_goals (try (with_reducible rfl))

theorem ofL_small {g : Grammar} {E : Nat → Bool} {S : Nat → Nat → Bool} (n : Nat) : ∀ l ∈ ofL n S, l.length ≤ 1000000 := fun l hl => by
 unfold ofL at hl
 obtain ⟨k, _, rfl⟩ := List.mem_map.1 hl
 have := lst_len (S k) 1024; omega
theorem gram2 (x : GrI) (y : Source) (i : Nat) (src : Source) (h : [cutS y, sourceS x][i]? = some src) : src.Fits ∧ (mayB src = true → Small src) := by
 match i, h with
 | 0, h => cases h; exact ⟨cutS_fits y, cutS_small y⟩
 | 1, h => cases h; exact ⟨sourceS_fits x, fun _ => sourceS_small x⟩
 | i + 2, h => cases h
theorem yuccalaw12_FirstTells {y : Source} {x : GrI} {l : List Int} (hy : y.Fits) (hb1 : x.rules.length ≤ 1099511627776) (hb2 : ∀ l ∈ x.rules, l.length ≤ 1099511627776) (hib : x.inner.length ≤ 1099511627776) (hlb : x.levels.length ≤ 1099511627776) (hl : l.length ≤ 1099511627776) : Pure Tryd.prog 3 [y.V, x.V, .sl 1 false (l.map (V.int .i64))] (.bool true) := by
 refine pure_intro Tryd.func3 e3_nm e3_ok (by show 3 ≤ 101; decide) ?_
 show ewp _ e3n46 _ _
 have hw := yuccalaw12_wakes
 have hcut := yuccalaw0_Cut hy
 have hsrc := yuccalaw0_Source (x := x) hb1 hb2 hib hlb
 have hsl : V.sl 4 true [(cutS y).V, (sourceS x).V] = .sl 4 true ([cutS y, sourceS x].map Source.V) := rfl
 repeat' with_reducible first
  | refine s_ ?_
  | simp -implicitDefEqProofs only [wZZ, seval]
  | (apply callQ0 (hp := hw))
  | (apply callQ1 (hp := hcut); (focus exact src_er y))
  | (apply callQ1 (hp := hsrc); (focus exact er_cl))
  | (apply fil_part; (exact wu_); (exact wu_); (exact wu_); (focus ((try simp -implicitDefEqProofs only [wY]); rfl)))
  | (apply ldQ_whole)
  | (apply boxQ_i; (exact wu_); (exact wu_))
 rw [hsl]
 have h2 := gram2 x y
 generalize hL : [cutS y, sourceS x] = L at *
 have hLl : L.length = 2 := by rw [← hL]; rfl
 clear hL hsl
 refine ewp_loopN ?nx1 (fun (i : Nat) s => s.f 2 = ?v1_2 ∧ s.f 7 = ?v1_7 ∧ s.f 8 = vi i ∧ (i ≤ L.length)) (fun i => L.length - i) (0) wj_ (by refine ⟨?_, ?_, ?_, (by first | omega | (simp; done) | assumption)⟩ <;> first | (simp -implicitDefEqProofs only [wL, wM, wN, wX, seval, Option.some.injEq] <;> exact wt_) | rfl | exact ⟨_, rfl⟩) ?_
 intro i s hnx ⟨g2, g7, g8, k1_0⟩
 have hz : IntKind.i64.wrap ((i + 1 : Nat) : Int) = ((i + 1 : Nat) : Int) := wrap64 (by omega) (by omega)
 by_cases hi : i < L.length
 · have hgi : L[i]? = some L[i] := List.getElem?_eq_getElem hi
   obtain ⟨hf, hS⟩ := h2 i _ hgi
   have hgr := yuccaref16_Grammar hf hS
   generalize L[i] = src at *
   have hge : Er false (fun _ => none) src.V src.V := src_er src
   cases hb : gramB src with
   | false =>
     rw [hb] at hgr
     repeat' with_reducible first
      | refine s_ ?_
      | simp -implicitDefEqProofs only [wZZ, seval, g2, g7, g8, hz]
      | (refine condQ_j (fun h h_ => ?_) (fun h h_ => ?_) <;> (try simp only [wD, reduceCtorEq] at h_) <;> (try exact wb_) <;> (try simp only [h]))
      | (apply ia_slQ; (focus omega); (focus with_unfolding_all exact hgi))
      | (apply callQ1 (hp := hgr); (focus exact src_er src))
      | (apply stQ_whole; (exact wu_); (exact wu_))
     exact ⟨by ((try simp only [wN]) <;> omega), i + 1, by omega, trivial, trivial, rfl, by omega⟩
   | true =>
     rw [hb] at hgr
     have hg := gok hb
     obtain ⟨E, hE, hvg⟩ := vain_grow (token := false) hg
     obtain ⟨S, hS⟩ := first_ex hg hvg
     obtain ⟨S', hS', hF⟩ := yuccaref9_First hg hE
     obtain rfl := hS'.uniq hS
     have hgv := yuccalaw12_given (l := l) hg hl
     have hml : (givenS (gramS src).toks.length (gramS src).nons.length l).length ≤ 10 := by unfold givenS; rw [List.length_map, List.length_take]; omega
     generalize givenS (gramS src).toks.length (gramS src).nons.length l = M at *
     have hin := yuccalaw0_Ints (l := l) (n := 6) hl (by omega)
     have hrl : (intsN l 6).length ≤ 6 := by unfold intsN; (try split) <;> (try rw [List.length_take]) <;> omega
     generalize intsN l 6 = R at *
     have c1 := first_List (l := M) hg hvg hS (by omega)
     have c2 := yuccaref9_List (l := M) hg hE hS (by omega)
     have c3 := first_List (l := R) hg hvg hS (by omega)
     have c4 := yuccaref9_List (l := R) hg hE hS (by omega)
     have n1 := firstL_len (gramS src).toks.length (gramS src).nons.length S' E M
     have n2 := firstL_len (gramS src).toks.length (gramS src).nons.length S' E R
     have hof := first_Of hg hvg hS
     have hsm := ofL_small (g := gramS src) (E := E) (S := S') (gramS src).nons.length
     have hol := ofL_len (gramS src).nons.length S'
     have hnl := hg.nn2
     generalize ofL (gramS src).nons.length S' = O at *
     have hel := yuccaref0_EqLists (a := O) (b := O) (by omega) (by omega) hsm hsm
     rw [decide_eq_true rfl] at hel
     generalize (firstL (gramS src).toks.length (gramS src).nons.length S' E M) = A at *
     generalize (firstL (gramS src).toks.length (gramS src).nons.length S' E R) = B at *
     obtain ⟨A, a⟩ := A
     obtain ⟨B, b⟩ := B
     dsimp only at *
     have e1 := yuccaref0_EqInts (a := A) (b := A) (by omega) (by omega)
     have e2 := yuccaref0_EqInts (a := B) (b := B) (by omega) (by omega)
     rw [decide_eq_true rfl] at e1 e2
     generalize gramS src = g at *
     repeat' with_reducible first
      | refine s_ ?_
      | simp -implicitDefEqProofs only [wZZ, seval, g2, g7, g8, hz]
      | (refine condQ_j (fun h h_ => ?_) (fun h h_ => ?_) <;> (try simp only [wD, reduceCtorEq] at h_) <;> (try exact wb_) <;> (try simp only [h]))
      | (apply ia_slQ; (focus omega); (focus with_unfolding_all exact hgi))
      | (apply callQ1 (hp := hgr); (focus exact src_er src))
      | (apply stQ_whole; (exact wu_); (exact wu_))
      | (apply callQ2 (hp := hgv); (focus exact er_cl); (focus exact er_cl))
      | (apply callQ2 (hp := c1); (focus exact er_cl); (focus exact er_cl))
      | (apply callQ2 (hp := c2); (focus exact er_cl); (focus exact er_cl))
      | (apply callQ2 (hp := hin); (focus exact er_cl); (focus exact er_cl))
      | (apply callQ2 (hp := c3); (focus exact er_cl); (focus exact er_cl))
      | (apply callQ2 (hp := c4); (focus exact er_cl); (focus exact er_cl))
      | (apply callQ1 (hp := hof); (focus exact er_cl))
      | (apply callQ1 (hp := hF); (focus exact er_cl))
      | (apply callQ2 (hp := hel); (focus exact er_cl); (focus exact er_cl))
      | (apply callQ2 (hp := e1); (focus exact er_cl); (focus exact er_cl))
      | (apply callQ2 (hp := e2); (focus exact er_cl); (focus exact er_cl))
      | (apply ldQ_whole)
     exact ⟨by ((try simp only [wN]) <;> omega), i + 1, by omega, trivial, trivial, rfl, by omega⟩
 · have e : i = L.length := by omega
   repeat' with_reducible first
    | refine s_ ?_
    | simp -implicitDefEqProofs only [wZZ, seval, g2, g7, g8, hz]
    | (refine condQ_j (fun h h_ => ?_) (fun h h_ => ?_) <;> (try simp only [wD, reduceCtorEq] at h_) <;> (try exact wb_) <;> (try simp only [h]))
   all_goals refine post1 rfl (Or.inr rfl) ?_
   all_goals (try simp -implicitDefEqProofs only [wL, seval, g2, g7, g8])
   all_goals (first | refine er_bool ?_ | refine er_int ?_ | refine er_str ?_ | refine er_sl_eq ?_ | refine er_asl_eq ?_)
   all_goals (try (with_reducible rfl))
end Go.Proofs
