/- Part of a proof that a law of the given program answers true. -/
import Derived.Test.YtpnfbnlhjdnnpaaWYE
import Derived.Test.YtpnfbnlhjdnnpaaWSA
set_option linter.unusedSimpArgs false
set_option linter.unusedVariables false
set_option maxHeartbeats 4000000
namespace Go.Proofs
open Go.E
theorem yuccaref0_Has {a : List Int} {x : Int} (ha : a.length ≤ 4611686018427387903) : Pure Try.prog 34 [ints a, vi x] (.bool (decide (x ∈ a))) := by
 refine pure_intro Try.func34 e34_nm e34_ok (by show 2 ≤ 18; decide) ?_
 show ewp _ e34n20 _ _
 repeat' with_reducible first
  | refine s_ ?_
  | simp -implicitDefEqProofs only [wZZ, seval]
 refine ewp_loopN ?nx1 (fun (k : Nat) s => s.f 0 = ?v1_0 ∧ s.f 1 = ?v1_1 ∧ s.f 5 = vi k ∧ (k ≤ a.length) ∧ (x ∉ a.take k)) (fun k => a.length - k) (0) wj_ (by refine ⟨?_, ?_, ?_, (by first | omega | (simp; done) | assumption), (by first | omega | (simp; done) | assumption)⟩ <;> first | (simp -implicitDefEqProofs only [wL, wM, wN, wX, seval, Option.some.injEq] <;> exact wt_) | rfl | exact ⟨_, rfl⟩) ?_
 intro k s hnx ⟨g0, g1, g5, k1_0, k1_1⟩
 repeat' with_reducible first
  | refine s_ ?_
  | simp -implicitDefEqProofs only [wZZ, seval, g0, g1, g5]
  | (refine condQ_j (fun h h_ => ?_) (fun h h_ => ?_) <;> (try simp only [wD, reduceCtorEq] at h_) <;> (try exact wb_) <;> (try simp only [h]))
  | (apply ia_slQ; (focus omega); (exact wd_))
  | simp -implicitDefEqProofs (disch := omega) only [w64, if_neg]
 · refine post1 rfl (Or.inr rfl) ?_
   simp -implicitDefEqProofs only [wL, seval, g0, g1, g5]
   first | refine er_bool ?_ | refine er_int ?_ | refine er_str ?_ | refine er_sl_eq ?_ | refine er_asl_eq ?_
   try (with_reducible rfl)
   rw [eq_comm, decide_eq_true_eq, ← h_]; exact List.getElem_mem _
 · refine ⟨wk_, k + 1, (by omega), ?_⟩
   refine ⟨?_, ?_, ?_, ?_, ?_⟩
   iterate 3 (focus (first | (simp -implicitDefEqProofs only [wL, wM, wN, wX, seval, Option.some.injEq, g0, g1, g5] <;> exact wt_) | rfl | exact ⟨_, rfl⟩))
   all_goals try omega
   rw [List.take_add_one, List.getElem?_eq_getElem (by omega)]
   simp only [Option.toList_some, List.mem_append, List.mem_singleton, not_or]
   exact ⟨k1_1, fun e => h_ e.symm⟩
 · refine post1 rfl (Or.inr rfl) ?_
   simp -implicitDefEqProofs only [wL, seval, g0, g1, g5]
   first | refine er_bool ?_ | refine er_int ?_ | refine er_str ?_ | refine er_sl_eq ?_ | refine er_asl_eq ?_
   try (with_reducible rfl)
   rw [eq_comm, decide_eq_false_iff_not]
   rwa [List.take_of_length_le (by omega)] at k1_1
def pickB (E : Nat → Bool) (k : Nat) (p : GPr) : Bool := decide (p.left = (k : Int)) && fitsB true E p.right
def pickL (g : Grammar) (E : Nat → Bool) (k n : Nat) : List Int := ((List.range n).filter fun i => (g.prods[i]?.map (pickB E k)).getD false).map fun (i : Nat) => (i : Int)
theorem pickL_succ {g : Grammar} {E : Nat → Bool} {k n : Nat} {p : GPr} (hp : g.prods[n]? = some p) : pickL g E k (n + 1) = pickL g E k n ++ (if pickB E k p = true then [(n : Int)] else []) := by
 unfold pickL
 rw [List.range_succ, List.filter_append, List.map_append]
 cases h : pickB E k p <;> simp [hp, h]
theorem pickL_len (g : Grammar) (E : Nat → Bool) (k n : Nat) : (pickL g E k n).length ≤ n := by
 unfold pickL; rw [List.length_map]
 exact Nat.le_trans (List.length_filter_le _ _) (by rw [List.length_range]; exact Nat.le_refl _)
theorem pickL_mem {g : Grammar} {E : Nat → Bool} {k n : Nat} {x : Int} (h : x ∈ pickL g E k n) : ∃ (m : Nat) (p : GPr), x = (m : Int) ∧ g.prods[m]? = some p ∧ p.left = (k : Int) ∧ fitsB true E p.right = true := by
 unfold pickL at h
 simp only [List.mem_map, List.mem_filter, List.mem_range] at h
 obtain ⟨m, ⟨_, h1⟩, rfl⟩ := h
 cases hp : g.prods[m]? with
 | none => rw [hp] at h1; cases h1
 | some p =>
   rw [hp] at h1
   have h2 : pickB E k p = true := h1
   unfold pickB at h2
   rw [Bool.and_eq_true, decide_eq_true_eq] at h2
   exact ⟨m, p, rfl, hp, h2.1, h2.2⟩
theorem pickL_ex {g : Grammar} {E : Nat → Bool} {k m : Nat} {p : GPr} (hp : g.prods[m]? = some p) (hl : p.left = (k : Int)) (hf : fitsB true E p.right = true) : 1 ≤ (pickL g E k g.prods.length).length := by
 have hm : (m : Int) ∈ pickL g E k g.prods.length := by
  unfold pickL
  simp only [List.mem_map, List.mem_filter, List.mem_range]
  refine ⟨m, ⟨(List.getElem?_eq_some_iff.1 hp).1, ?_⟩, rfl⟩
  rw [hp]
  show pickB E k p = true
  unfold pickB
  rw [Bool.and_eq_true, decide_eq_true_eq]; exact ⟨hl, hf⟩
 exact List.length_pos_of_mem hm
theorem vain_dec {n : Nat} {E : Nat → Bool} {s : Int} (h : s < 1000 ∨ ∃ k : Nat, s = 1000 + (k : Int) ∧ k < n) : decide (s ∈ vainL n E) = !(if s < 1000 then true else E (s - 1000).toNat) := by
 rcases h with h | ⟨k, rfl, hk⟩
 · rw [if_pos h]; exact decide_eq_false (vainL_tok h)
 · rw [if_neg (by omega), show (1000 + (k : Int) - 1000).toNat = k by omega, Bool.eq_iff_iff, decide_eq_true_eq, vainL_mem hk]
   cases E k <;> simp
theorem ndPick {s0 : St} {g : Grammar} {l : Nat → Int} {E : Nat → Bool} {P : List Int} {a c wi k : Nat} {Q : Exit → St → Prop} (hg : GOk g)
 (f0 : s0.f 0 = .ptr wi 0 0) (f1 : s0.f 1 = vi (1000 + (k : Int))) (hw : s0.H wi = some (.own 10 [grV g l E P a c] false)) (l1 : wi < s0.next) (hk : k < g.nons.length) (hex : ∃ (m : Nat) (p : GPr), g.prods[m]? = some p ∧ p.left = (k : Int) ∧ fitsB true E p.right = true) (hP0 : 0 < P.length) (hP : P.length ≤ 1099511627776)
 (hQ : ∀ s' (m : Nat) (p : GPr), s'.f 7 = vi m → g.prods[m]? = some p → p.left = (k : Int) → fitsB true E p.right = true → s'.H wi = some (.own 10 [grV g l E (P.drop 1) a c] false) → (∀ j, j < s0.next → j ≠ wi → s'.H j = s0.H j) → s'.f 0 = s0.f 0 → s'.f 1 = s0.f 1 → s'.f 2 = s0.f 2 → s'.f 6 = s0.f 6 → s0.next ≤ s'.next → Q .normal s') : ewp Try.prog e35n51 Q s0 := by
 have hpl := hg.pl2
 have hnl := hg.nn2
 have hvl := vainL_len g.nons.length E
 have hzs : IntKind.i64.wrap (1000 + (k : Int) - 1000) = (k : Int) := by rw [wrap64 (by omega) (by omega)]; omega
 repeat' with_reducible first
  | refine s_ ?_
  | simp -implicitDefEqProofs only [wZZ, seval, f0, f1]
 refine ewp_loopN ?nx1 (fun (i : Nat) s => s.f 0 = ?v1_0 ∧ s.f 1 = ?v1_1 ∧ s.f 2 = ?v1_2 ∧ s.f 6 = ?v1_6 ∧ (∃ v, s.f 8 = v ∧ Gr s.H s.next 1 ((pickL g E k i).map (V.int .i64)) v) ∧ s.f 9 = vi i ∧ (i ≤ g.prods.length) ∧ ((s.H wi = some (MObj.own 10 [grV g l E P a c] false))) ∧ ((∀ j, j < s0.next → j ≠ wi → s.H j = s0.H j)) ∧ ((∀ j, gid (s.f 8) = some j → s0.next ≤ j))) (fun i => g.prods.length - i) (0) wj_ (by refine ⟨?_, ?_, ?_, ?_, ?_, ?_, (by first | omega | (simp; done) | assumption), (by (simp only [wM]; (repeat first | rw [if_pos trivial] | rw [if_pos rfl] | rw [if_neg (by omega)])); exact hw), (by intro j h1 h2; (simp only [wM]; (repeat first | rw [if_pos trivial] | rw [if_pos rfl] | rw [if_neg (by omega)]))), (by intro j h; (simp only [wL] at h); cases h)⟩ <;> first | (simp -implicitDefEqProofs only [wL, wM, wN, wX, seval, Option.some.injEq] <;> exact wt_) | rfl | exact ⟨_, rfl⟩) ?_
 intro i s hnx ⟨g0, g1, g2, g6, ⟨v8, g8, G8⟩, g9, k1_0, k1_1, k1_2, k1_3⟩
 have hz : IntKind.i64.wrap ((i + 1 : Nat) : Int) = ((i + 1 : Nat) : Int) := wrap64 (by omega) (by omega)
 rw [g8] at k1_3
 have hgw : gid v8 ≠ some wi := fun e => by have := k1_3 _ e; omega
 have hel := pickL_len g E k i
 by_cases hi : i < g.prods.length
 · have hmem := List.getElem_mem hi
   obtain ⟨lf, hl1, hl2⟩ := hg.left _ hmem
   have hrt := rt_ok hg hmem
   have hrl := hg.rlen _ hmem
   generalize hp : g.prods[i] = p at *
   have hgp : g.prods[i]? = some p := by rw [List.getElem?_eq_getElem hi, hp]
   clear hp
   have hst := pickL_succ (E := E) (k := k) hgp
   have hpb : pickB E k p = (decide (p.left = (k : Int)) && fitsB true E p.right) := rfl
   obtain ⟨pl, pr, pc, pco, pa, pat⟩ := p
   dsimp only at hl1 hrt hrl hpb
   subst hl1
   repeat' with_reducible first
    | refine s_ ?_
    | simp -implicitDefEqProofs only [wZZ, seval, g0, g1, g2, g6, g8, g9, f0, f1, k1_1, hz, hzs, G8.len]
    | (refine condQ_j (fun h h_ => ?_) (fun h h_ => ?_) <;> (try simp only [wD, reduceCtorEq] at h_) <;> (try exact wb_) <;> (try simp only [h]))
    | (apply ia_slQ; (focus omega); (focus with_unfolding_all exact hgp))
    | (apply ldQ_cell; (exact wu_))
    | (apply ld_ipQ; (exact wu_))
   have hG8 := G8
   refine ewp_loopN ?nx2 (fun (j : Nat) s => s.f 0 = ?v2_0 ∧ s.f 1 = ?v2_1 ∧ s.f 2 = ?v2_2 ∧ s.f 6 = ?v2_6 ∧ s.f 8 = ?v2_8 ∧ s.f 9 = ?v2_9 ∧ s.f 11 = vi j ∧ (j ≤ pr.length) ∧ ((s.H wi = some (MObj.own 10 [grV g l E P a c] false))) ∧ ((∀ j, j < s0.next → j ≠ wi → s.H j = s0.H j)) ∧ ((Gr s.H s.next 1 ((pickL g E k i).map (V.int .i64)) v8)) ∧ (s.f 10 = .bool (decide ((lf : Int) = (k : Int)) && fitsB true E (pr.take j)))) (fun j => pr.length - j) (0) wj_ (by refine ⟨?_, ?_, ?_, ?_, ?_, ?_, ?_, (by first | omega | (simp; done) | assumption), (by (simp only [wM]; (repeat first | rw [if_pos trivial] | rw [if_pos rfl] | rw [if_neg (by omega)])); exact k1_1), (by intro j h1 h2; (simp only [wM]; (repeat first | rw [if_pos trivial] | rw [if_pos rfl] | rw [if_neg (by omega)])); exact k1_2 j h1 h2), (by exact G8.mono (by ((try simp only [wN]) <;> omega)) (fun j h1 h2 => by ((try simp only [wM]); (repeat first | rw [if_pos trivial] | rw [if_pos rfl] | rw [if_neg (by omega)])))), (by (try simp -implicitDefEqProofs only [wL, wM, wN, seval, g0, g1, g2, g6, g8, g9]); simp [fitsB])⟩ <;> first | (simp -implicitDefEqProofs only [wL, wM, wN, wX, seval, Option.some.injEq, g0, g1, g2, g6, g8, g9] <;> first | rfl | exact ⟨_, rfl⟩ | exact ⟨_, rfl, by first | assumption | exact Gr.nil | exact Gr.tok rfl (by omega) | exact Gr.tok (by simp -implicitDefEqProofs only [wM, seval] <;> rfl) (by omega) | exact Gr.clip | exact G8.to (by first | rfl | (simp [*]; done)) (by omega) rfl⟩) | rfl | exact ⟨_, rfl⟩) ?_
   intro j s hnx ⟨g0, g1, g2, g6, g8, g9, g11, k2_0, k2_1, k2_2, k2_3, g10⟩
   have hzj : IntKind.i64.wrap ((j + 1 : Nat) : Int) = ((j + 1 : Nat) : Int) := wrap64 (by omega) (by omega)
   by_cases hj : j < pr.length
   · have hgj : pr[j]? = some pr[j] := List.getElem?_eq_getElem hj
     have hst2 := fitsB_snoc true E (pr.take j) pr[j]
     rw [show pr.take j ++ [pr[j]] = pr.take (j + 1) by rw [List.take_add_one, hgj]; rfl] at hst2
     have hst2 := congrArg (fun b => decide ((lf : Int) = (k : Int)) && b) hst2
     rw [← Bool.and_assoc] at hst2
     have hsr := hrt _ (List.getElem_mem hj)
     have hhas := yuccaref0_Has (a := vainL g.nons.length E) (x := pr[j]) (by omega)
     rw [vain_dec hsr] at hhas
     generalize (if pr[j] < 1000 then true else E (pr[j] - 1000).toNat) = bb at *
     generalize pr[j] = sy at *
     generalize (decide ((lf : Int) = (k : Int)) && fitsB true E (pr.take j)) = q at *
     cases q with
     | false =>
       rw [Bool.false_and] at hst2
       repeat' with_reducible first
        | refine s_ ?_
        | simp -implicitDefEqProofs only [wZZ, seval, g0, g1, g2, g6, g8, g9, g11, g10, f0, f1, k2_1, hzj]
        | (refine condQ_j (fun h h_ => ?_) (fun h h_ => ?_) <;> (try simp only [wD, reduceCtorEq] at h_) <;> (try exact wb_) <;> (try simp only [h]))
        | (apply ia_slQ; (focus omega); (focus with_unfolding_all exact hgp))
        | (apply ldQ_cell; (exact wu_))
        | (apply ld_ipQ; (exact wu_))
       refine ⟨wk_, j + 1, (by omega), ?_⟩
       refine ⟨?_, ?_, ?_, ?_, ?_, ?_, ?_, ?_, ?_, ?_, ?_, ?_⟩
       iterate 7 (focus (first | (simp -implicitDefEqProofs only [wL, wM, wN, wX, seval, Option.some.injEq, g0, g1, g2, g6, g8, g9, g11, g10, hst2, k2_1] <;> exact wt_) | rfl | exact ⟨_, rfl⟩))
       all_goals try omega
       all_goals try simp -implicitDefEqProofs only [wL, wM, wN, wX, seval, g0, g1, g2, g6, g8, g9, g11, g10, hst2, k2_1]
       exact k2_3.mono (by omega) (fun _ _ _ => rfl)
     | true =>
       cases bb with
       | false =>
         rw [Bool.and_false] at hst2
         repeat' with_reducible first
          | refine s_ ?_
          | simp -implicitDefEqProofs only [wZZ, seval, g0, g1, g2, g6, g8, g9, g11, g10, f0, f1, k2_1, hzj]
          | (refine condQ_j (fun h h_ => ?_) (fun h h_ => ?_) <;> (try simp only [wD, reduceCtorEq] at h_) <;> (try exact wb_) <;> (try simp only [h]))
          | (apply ia_slQ; (focus omega); (focus with_unfolding_all exact hgp))
          | (apply ia_slQ; (focus omega); (focus with_unfolding_all exact hgj))
          | (apply callQ2 (hp := hhas); (focus exact er_cl); (focus exact er_cl))
          | (apply ldQ_cell; (exact wu_))
          | (apply ld_ipQ; (exact wu_))
         refine ⟨wk_, j + 1, (by omega), ?_⟩
         refine ⟨?_, ?_, ?_, ?_, ?_, ?_, ?_, ?_, ?_, ?_, ?_, ?_⟩
         iterate 7 (focus (first | (simp -implicitDefEqProofs only [wL, wM, wN, wX, seval, Option.some.injEq, g0, g1, g2, g6, g8, g9, g11, g10, hst2, k2_1] <;> exact wt_) | rfl | exact ⟨_, rfl⟩))
         all_goals try omega
         all_goals try simp -implicitDefEqProofs only [wL, wM, wN, wX, seval, g0, g1, g2, g6, g8, g9, g11, g10, hst2, k2_1]
         exact k2_3.mono (by omega) (fun _ _ _ => rfl)
       | true =>
         rw [Bool.and_true] at hst2
         repeat' with_reducible first
          | refine s_ ?_
          | simp -implicitDefEqProofs only [wZZ, seval, g0, g1, g2, g6, g8, g9, g11, g10, f0, f1, k2_1, hzj]
          | (refine condQ_j (fun h h_ => ?_) (fun h h_ => ?_) <;> (try simp only [wD, reduceCtorEq] at h_) <;> (try exact wb_) <;> (try simp only [h]))
          | (apply ia_slQ; (focus omega); (focus with_unfolding_all exact hgp))
          | (apply ia_slQ; (focus omega); (focus with_unfolding_all exact hgj))
          | (apply callQ2 (hp := hhas); (focus exact er_cl); (focus exact er_cl))
          | (apply ldQ_cell; (exact wu_))
          | (apply ld_ipQ; (exact wu_))
         refine ⟨wk_, j + 1, (by omega), ?_⟩
         refine ⟨?_, ?_, ?_, ?_, ?_, ?_, ?_, ?_, ?_, ?_, ?_, ?_⟩
         iterate 7 (focus (first | (simp -implicitDefEqProofs only [wL, wM, wN, wX, seval, Option.some.injEq, g0, g1, g2, g6, g8, g9, g11, g10, hst2, k2_1] <;> exact wt_) | rfl | exact ⟨_, rfl⟩))
         all_goals try omega
         all_goals try simp -implicitDefEqProofs only [wL, wM, wN, wX, seval, g0, g1, g2, g6, g8, g9, g11, g10, hst2, k2_1]
         exact k2_3.mono (by omega) (fun _ _ _ => rfl)
   · rw [List.take_of_length_le (by omega)] at g10
     rw [← hpb] at g10
     cases hb : pickB E k { left := (lf : Int), right := pr, prec := pc, code := pco, args := pa, at_ := pat } with
     | false =>
       rw [hb] at g10
       rw [hb, if_neg (by simp), List.append_nil] at hst
       repeat' with_reducible first
        | refine s_ ?_
        | simp -implicitDefEqProofs only [wZZ, seval, g0, g1, g2, g6, g8, g9, g11, g10, f0, f1, k2_1, hz]
        | (refine condQ_j (fun h h_ => ?_) (fun h h_ => ?_) <;> (try simp only [wD, reduceCtorEq] at h_) <;> (try exact wb_) <;> (try simp only [h]))
        | (apply ia_slQ; (focus omega); (focus with_unfolding_all exact hgp))
        | (apply ldQ_cell; (exact wu_))
        | (apply ld_ipQ; (exact wu_))
       exact ⟨by ((try simp only [wN]) <;> omega), i + 1, by omega, trivial, trivial, trivial, trivial, ⟨v8, rfl, by rw [hst]; exact k2_3.mono (by ((try simp only [wN]) <;> omega)) (fun _ _ _ => rfl)⟩, rfl, by omega, trivial, k2_2, fun j h => by exact k1_3 j h⟩
     | true =>
       rw [hb] at g10
       rw [hb, if_pos rfl] at hst
       repeat' with_reducible first
        | refine s_ ?_
        | simp -implicitDefEqProofs only [wZZ, seval, g0, g1, g2, g6, g8, g9, g11, g10, f0, f1, k2_1, hz]
        | (refine condQ_j (fun h h_ => ?_) (fun h h_ => ?_) <;> (try simp only [wD, reduceCtorEq] at h_) <;> (try exact wb_) <;> (try simp only [h]))
        | (apply ia_slQ; (focus omega); (focus with_unfolding_all exact hgp))
        | (apply appQ_G rfl (k2_3.mono (Nat.le_refl _) (fun id h1 h2 => by (try simp only [wM]); (repeat rw [if_neg (by omega)]))); (focus (first | exact SrcN.sl | exact SrcN.asl)); (focus (simp only [wZ, hel]; omega)); (focus (unfold maxLen; simp only [wZ, hel]; omega)))
        | (apply ldQ_cell; (exact wu_))
        | (apply ld_ipQ; (exact wu_))
        | simp -implicitDefEqProofs (disch := omega) only [w64, if_neg]
       refine ⟨by ((try simp only [wN]) <;> omega), i + 1, by omega, trivial, trivial, trivial, trivial, ⟨_, rfl, by rw [hst]; exact Gr.tok (id := s.next + 12 + 1 + 3) (fin := (pickL g E k i).length + 1) (by ((try simp only [wM]); (repeat first | rw [if_pos trivial] | rw [if_pos rfl] | rw [if_neg (by omega)]))) (by ((try simp only [wN]) <;> omega))⟩, rfl, by omega, ?_, fun j h1 h2 => ?_, fun j h => (by cases h; omega)⟩
       · ((try simp only [wM]); (repeat first | rw [if_pos trivial] | rw [if_pos rfl] | rw [if_neg (by omega)])); rw [dropG_ne hgw]; exact k2_1
       · ((try simp only [wM]); (repeat first | rw [if_pos trivial] | rw [if_pos rfl] | rw [if_neg (by omega)])); rw [dropG_ne (fun e => by have := k1_3 _ e; omega)]; exact k2_2 j h1 h2
 · have e : i = g.prods.length := by omega
   subst e
   obtain ⟨m0, p0, hm0, hm1, hm2⟩ := hex
   have hL1 := pickL_ex (E := E) hm0 hm1 hm2
   have hmm := fun x => pickL_mem (g := g) (E := E) (k := k) (n := g.prods.length) (x := x)
   generalize pickL g E k g.prods.length = L at *
   have hg0 : P[0]? = some P[0] := List.getElem?_eq_getElem hP0
   generalize P[0] = x0 at *
   obtain ⟨q, hq, hql⟩ : ∃ q : Nat, x0 % (L.length : Int) = (q : Int) ∧ q < L.length := by
    have h1 := Int.emod_nonneg x0 (show (L.length : Int) ≠ 0 by omega)
    have h2 := Int.emod_lt_of_pos x0 (show (0 : Int) < (L.length : Int) by omega)
    exact ⟨(x0 % (L.length : Int)).toNat, by omega, by omega⟩
   have hw1 := yuccaref0_Within (i := x0) (n := (L.length : Int)) (by omega) (by omega)
   rw [hq] at hw1
   have hgq : L[q]? = some L[q] := List.getElem?_eq_getElem hql
   obtain ⟨m, p, e1, e2, e3, e4⟩ := hmm _ (List.getElem_mem hql)
   rw [e1] at hgq
   skip
   repeat' with_reducible first
    | refine s_ ?_
    | simp -implicitDefEqProofs only [wZZ, seval, g0, g1, g2, g6, g8, g9, f0, f1, k1_1, G8.len]
    | (apply ia_slQ; (focus omega); (focus with_unfolding_all exact hg0))
    | (apply callQ2 (hp := hw1); (focus exact er_cl); (focus exact er_cl))
    | (apply Gr.iaQ G8; (focus omega); (focus with_unfolding_all exact hgq))
    | (apply slm_loQ; (focus omega); (exact wf_))
    | (apply ldQ_cell; (exact wu_))
    | (apply stQ_cell; (exact wu_); (exact wu_); (exact wu_); (exact wf_))
   refine hQ _ m p (by (simp -implicitDefEqProofs only [wL, seval])) e2 e3 e4 (by ((try simp only [wM]); (repeat first | rw [if_pos trivial] | rw [if_pos rfl] | rw [if_neg (by omega)]))) (fun j h1 h2 => by ((try simp only [wM]); (repeat first | rw [if_pos trivial] | rw [if_pos rfl] | rw [if_neg (by omega)])); exact k1_2 j h1 h2) (by (simp -implicitDefEqProofs only [wL, seval, g0])) (by (simp -implicitDefEqProofs only [wL, seval, g1])) (by (simp -implicitDefEqProofs only [wL, seval, g2])) (by (simp -implicitDefEqProofs only [wL, seval, g6])) (by ((try simp only [wN]) <;> omega))
end Go.Proofs
