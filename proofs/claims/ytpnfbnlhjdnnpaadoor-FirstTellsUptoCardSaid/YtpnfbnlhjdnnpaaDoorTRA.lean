/- Part of a proof that a law of the given program answers true. -/
import Derived.Test.YtpnfbnlhjdnnpaaDoorTLB
import Derived.Test.YtpnfbnlhjdnnpaaDoorTLA
import Derived.Test.YtpnfbnlhjdnnpaaDoorTLC
set_option linter.unusedSimpArgs false
set_option linter.unusedVariables false
set_option maxHeartbeats 4000000
set_option maxRecDepth 20000
namespace Go.Proofs
open Go.E
theorem fitsB_cons (token : Bool) (h : Nat → Bool) (s : Int) (l : List Int) : fitsB token h (s :: l) = ((if s < 1000 then token else h (s - 1000).toNat) && fitsB token h l) := rfl
theorem yuccaref9_Empties {n : Nat} {F : Nat → Bool} {l : List Int} (hn : n ≤ 1000000) (hl : l.length ≤ 1000000) (hs : ∀ s ∈ l, s < 1000 ∨ ∃ k : Nat, s = 1000 + (k : Int) ∧ k < n) : Pure Tryd.prog 42 [.sl 1 false (bolC n F), .sl 1 false (l.map (V.int .i64))] (.bool (fitsB false F l)) := by
 refine pure_intro Tryd.func42 e42_nm e42_ok (by show 2 ≤ 28; decide) ?_
 show ewp _ e42n20 _ _
 have hbm : bolC n F = (List.range n).map fun k => V.bool (F k) := rfl
 rw [hbm]
 clear hbm
 repeat' with_reducible first
  | refine s_ ?_
  | simp -implicitDefEqProofs only [wZZ, seval]
 refine ewp_loopN ?nx1 (fun (i : Nat) s => s.f 0 = ?v1_0 ∧ s.f 1 = ?v1_1 ∧ s.f 5 = vi i ∧ (i ≤ l.length) ∧ (fitsB false F l = fitsB false F (l.drop i))) (fun i => l.length - i) (0) wj_ (by refine ⟨?_, ?_, ?_, (by first | omega | (simp; done) | assumption), (by simp)⟩ <;> first | (simp -implicitDefEqProofs only [wL, wM, wN, wX, seval, Option.some.injEq] <;> exact wt_) | rfl | exact ⟨_, rfl⟩) ?_
 intro i s hnx ⟨g0, g1, g5, k1_0, k1_1⟩
 have hzi : IntKind.i64.wrap ((i + 1 : Nat) : Int) = ((i + 1 : Nat) : Int) := wrap64 (by omega) (by omega)
 by_cases hi : i < l.length
 · have hgi : l[i]? = some l[i] := List.getElem?_eq_getElem hi
   have hd : l.drop i = l[i] :: l.drop (i + 1) := List.drop_eq_getElem_cons hi
   rw [hd, fitsB_cons] at k1_1
   have hsi := hs _ (List.getElem_mem hi)
   generalize l[i] = s at *
   rcases hsi with hlt | ⟨k, rfl, hk⟩
   · rw [if_pos hlt, Bool.false_and] at k1_1
     repeat' with_reducible first
      | refine s_ ?_
      | simp -implicitDefEqProofs only [wZZ, seval, g0, g1, g5, hzi, k1_1]
      | (refine condQ_j (fun h h_ => ?_) (fun h h_ => ?_) <;> (try simp only [wD, reduceCtorEq] at h_) <;> (try exact wb_) <;> (try simp only [h]))
      | ((first | refine gdQ_iT (fun h => ?_) (fun h => ?_) | refine gdQ_iF (fun h => ?_) (fun h => ?_)) <;> have h_ := h <;> (try simp only [wD, reduceCtorEq] at h_) <;> (try exact wb_) <;> (try simp only [h]))
      | (apply ia_slQ; (focus omega); (focus with_unfolding_all exact hgi))
     all_goals refine post1 rfl (Or.inr rfl) ?_
     all_goals (try simp -implicitDefEqProofs only [wL, seval, g0, g1, g5])
     all_goals (first | refine er_bool ?_ | refine er_int ?_ | refine er_str ?_ | refine er_sl_eq ?_ | refine er_asl_eq ?_)
     all_goals (try (with_reducible rfl))
   · have hz1 : IntKind.i64.wrap (1000 + (k : Int) - 1000) = (k : Int) := by rw [wrap64 (by omega) (by omega)]; omega
     have hgk : (List.range n)[k]? = some k := List.getElem?_range hk
     rw [if_neg (by omega), show (1000 + (k : Int) - 1000).toNat = k by omega] at k1_1
     cases hb : F k
     · rw [hb, Bool.false_and] at k1_1
       repeat' with_reducible first
        | refine s_ ?_
        | simp -implicitDefEqProofs only [wZZ, seval, g0, g1, g5, hzi, hz1, k1_1, hb]
        | (refine condQ_j (fun h h_ => ?_) (fun h h_ => ?_) <;> (try simp only [wD, reduceCtorEq] at h_) <;> (try exact wb_) <;> (try simp only [h]))
        | ((first | refine gdQ_iT (fun h => ?_) (fun h => ?_) | refine gdQ_iF (fun h => ?_) (fun h => ?_)) <;> have h_ := h <;> (try simp only [wD, reduceCtorEq] at h_) <;> (try exact wb_) <;> (try simp only [h]))
        | (apply ia_slQ; (focus omega); (focus with_unfolding_all exact hgi))
        | (apply ia_slQ; (focus omega); (focus with_unfolding_all exact hgk))
       all_goals refine post1 rfl (Or.inr rfl) ?_
       all_goals (try simp -implicitDefEqProofs only [wL, seval, g0, g1, g5])
       all_goals (first | refine er_bool ?_ | refine er_int ?_ | refine er_str ?_ | refine er_sl_eq ?_ | refine er_asl_eq ?_)
       all_goals (try (with_reducible rfl))
     · rw [hb, Bool.true_and] at k1_1
       repeat' with_reducible first
        | refine s_ ?_
        | simp -implicitDefEqProofs only [wZZ, seval, g0, g1, g5, hzi, hz1, hb]
        | (refine condQ_j (fun h h_ => ?_) (fun h h_ => ?_) <;> (try simp only [wD, reduceCtorEq] at h_) <;> (try exact wb_) <;> (try simp only [h]))
        | ((first | refine gdQ_iT (fun h => ?_) (fun h => ?_) | refine gdQ_iF (fun h => ?_) (fun h => ?_)) <;> have h_ := h <;> (try simp only [wD, reduceCtorEq] at h_) <;> (try exact wb_) <;> (try simp only [h]))
        | (apply ia_slQ; (focus omega); (focus with_unfolding_all exact hgi))
        | (apply ia_slQ; (focus omega); (focus with_unfolding_all exact hgk))
       exact ⟨by ((try simp only [wN]) <;> omega), i + 1, by omega, trivial, trivial, rfl, by omega, k1_1⟩
 · rw [List.drop_of_length_le (by omega)] at k1_1
   repeat' with_reducible first
    | refine s_ ?_
    | simp -implicitDefEqProofs only [wZZ, seval, g0, g1, g5, hzi]
    | (refine condQ_j (fun h h_ => ?_) (fun h h_ => ?_) <;> (try simp only [wD, reduceCtorEq] at h_) <;> (try exact wb_) <;> (try simp only [h]))
   all_goals refine post1 rfl (Or.inr rfl) ?_
   all_goals (try simp -implicitDefEqProofs only [wL, seval, g0, g1, g5])
   all_goals (first | refine er_bool ?_ | refine er_int ?_ | refine er_str ?_ | refine er_sl_eq ?_ | refine er_asl_eq ?_)
   all_goals (try (with_reducible rfl))
   all_goals (first | done | exact k1_1.symm | (rw [k1_1]; rfl))

theorem yuccaref9_Null {g : Grammar} (hg : GOk g) : ∃ E, IsGrow g false E ∧ Pure Tryd.prog 40 [g.V] (.sl 1 false (bolC g.nons.length E)) := by
 have hh := pure_ex (G := fun v => ∃ E, v = .sl 1 false (bolC g.nons.length E) ∧ IsGrow g false E) (args := [g.V]) Tryd.func40 e40_nm e40_ok (by show 1 ≤ 41; decide) ?_
 · obtain ⟨v, ⟨E, rfl, h⟩, h2⟩ := hh
   exact ⟨E, h, h2⟩
 show ewp _ e40n36 _ _
 have hnl := hg.nn2; have hpl := hg.pl2
 have hb0 := bolC_0 g.nons.length
 repeat' with_reducible first
  | refine s_ ?_
  | simp -implicitDefEqProofs only [wZZ, seval]
  | (apply ldQ_cell; (exact wu_))
  | (apply boxQ_i; (exact wu_); (exact wu_))
  | (apply mkQ_T; (exact wf_); (exact wf_); (focus (unfold maxLen; first | omega | (simp only [wZ] <;> omega))))
 rw [hb0]
 refine ewp_loopN ?nx1 (fun (q : (Nat → Bool) × Bool) s => s.f 1 = ?v1_1 ∧ s.f 3 = ?v1_3 ∧ s.H 0 = some (MObj.own 5 [g.V] false) ∧ s.f 4 = .bool q.2 ∧ ((s.H 5 = some (MObj.own 1 (bolC g.nons.length q.1) false))) ∧ ((∀ F, ClosedG g false F → ∀ k, q.1 k = true → F k = true)) ∧ ((q.2 = false → ClosedG g false q.1))) (fun q => 2 * cf q.1 g.nons.length + (if q.2 = true then 1 else 0)) ((fun _ => false, true)) wj_ (by refine ⟨?_, ?_, ?_, ?_, wc_, (by intro F _ k h; cases h), (by intro h; cases h)⟩ <;> first | (simp -implicitDefEqProofs only [wL, wM, wN, wX, seval, Option.some.injEq] <;> exact wt_) | rfl | exact ⟨_, rfl⟩) ?_
 intro q s hnx ⟨g1, g3, o0, g4, k1_0, k1_1, k1_2⟩
 obtain ⟨h, b⟩ := q
 dsimp only at *
 cases b with
 | false =>
   have hcl := k1_2 rfl
   repeat' with_reducible first
    | refine s_ ?_
    | simp -implicitDefEqProofs only [wZZ, seval, g1, g3, g4, o0, k1_0]
   refine ⟨_, ⟨h, rfl, hcl, k1_1⟩, Or.inr rfl, .msl 5 1 0 g.nons.length, ?_, er_bolM (ro := false) ?_⟩
   · show resV _ [.inl 2] = _
     simp [resV, resL, one, wL]
   · (simp only [wM]; (repeat first | rw [if_pos trivial] | rw [if_pos rfl] | rw [if_neg (by omega)])); exact k1_0
 | true =>
   repeat' with_reducible first
    | refine s_ ?_
    | simp -implicitDefEqProofs only [wZZ, seval, g1, g3, g4, o0, k1_0]
   refine ewp_loopN ?nx2 (fun (r : Nat × (Nat → Bool) × Bool) s => s.f 1 = ?v2_1 ∧ s.f 3 = ?v2_3 ∧ s.H 0 = some (MObj.own 5 [g.V] false) ∧ s.f 4 = .bool r.2.2 ∧ s.f 5 = vi r.1 ∧ (r.1 ≤ g.prods.length) ∧ ((s.H 5 = some (MObj.own 1 (bolC g.nons.length r.2.1) false))) ∧ ((∀ F, ClosedG g false F → ∀ k, r.2.1 k = true → F k = true)) ∧ ((r.2.2 = false → r.2.1 = h ∧ ∀ p ∈ g.prods.take r.1, fitsB false h p.right = true → h p.left.toNat = true)) ∧ ((r.2.2 = true → cf r.2.1 g.nons.length < cf h g.nons.length))) (fun r => g.prods.length - r.1) ((0, h, false)) wj_ (by refine ⟨?_, ?_, ?_, ?_, ?_, (by first | omega | (simp; done) | assumption), (by (simp only [wM]; (repeat first | rw [if_pos trivial] | rw [if_pos rfl] | rw [if_neg (by omega)])); exact k1_0), (by exact k1_1), (by exact fun _ => ⟨rfl, fun p hp => by simp at hp⟩), (by intro h; cases h)⟩ <;> first | (simp -implicitDefEqProofs only [wL, wM, wN, wX, seval, Option.some.injEq, g1, g3, g4, o0] <;> exact wt_) | rfl | exact ⟨_, rfl⟩) ?_
   intro r s hnx ⟨g1, g3, o0, g4, g5, k2_0, k2_1, k2_2, k2_3, k2_4⟩
   obtain ⟨i, h', b'⟩ := r
   dsimp only at *
   have hz : IntKind.i64.wrap ((i + 1 : Nat) : Int) = ((i + 1 : Nat) : Int) := wrap64 (by omega) (by omega)
   by_cases hi : i < g.prods.length
   · have hmem := List.getElem_mem hi
     obtain ⟨lf, hl1, hl2⟩ := hg.left _ hmem
     have hrt := hg.rt hmem
     have hrl := hg.rlen _ hmem
     have htk : g.prods.take (i + 1) = g.prods.take i ++ [g.prods[i]] := by rw [List.take_add_one, List.getElem?_eq_getElem hi]; rfl
     generalize hp : g.prods[i] = p at *
     have hgp : g.prods[i]? = some p := by rw [List.getElem?_eq_getElem hi, hp]
     have hpm : p ∈ g.prods := hp ▸ List.getElem_mem hi
     clear hp
     obtain ⟨pl, pr, pc, pco, pa, pat⟩ := p
     dsimp only at hl1 hrt hrl
     subst hl1
     have hnew : (b' = false → h' = h ∧ ∀ p ∈ g.prods.take i, fitsB false h p.right = true → h p.left.toNat = true) → (fitsB false h' pr = true → h' lf = true) → (b' = false → h' = h ∧ ∀ p ∈ g.prods.take (i + 1), fitsB false h p.right = true → h p.left.toNat = true) := fun q1 q2 hb => by
      obtain ⟨e1, e2⟩ := q1 hb
      refine ⟨e1, fun p hp hf => ?_⟩
      rw [htk] at hp
      rcases List.mem_append.1 hp with hp | hp
      · exact e2 p hp hf
      · rw [List.mem_singleton] at hp; subst hp
        subst e1
        exact q2 hf
     have hcl := yuccaref9_Empties (n := g.nons.length) (F := h') (l := pr) (by omega) (by omega) hrt
     repeat' with_reducible first
      | refine s_ ?_
      | simp -implicitDefEqProofs only [wZZ, seval, g1, g3, g4, g5, o0, k2_1, hz]
      | (refine condQ_j (fun h h_ => ?_) (fun h h_ => ?_) <;> (try simp only [wD, reduceCtorEq] at h_) <;> (try exact wb_) <;> (try simp only [h]))
      | ((first | refine gdQ_iT (fun h => ?_) (fun h => ?_) | refine gdQ_iF (fun h => ?_) (fun h => ?_)) <;> have h_ := h <;> (try simp only [wD, reduceCtorEq] at h_) <;> (try exact wb_) <;> (try simp only [h]))
      | (refine ldB hl2 ?_)
      | (apply ia_slQ; (focus omega); (focus with_unfolding_all exact hgp))
      | (apply callQB2 (hp := hcl); (focus (refine er_bolM (ro := false) ?_; (try simp only [wM]); (repeat rw [if_neg (by omega)]); exact k2_1)); (focus exact er_cl); (exact wu_); (focus exact Flat.bool _))
      | (refine stB hl2 ?_)
      | (apply ia_mslQ; (focus omega); (exact wf_))
      | (apply ldQ_cell; (exact wu_))
      | (apply stQ_whole; (exact wu_); (exact wu_))
     · have hfit : fitsB false h' pr = true := by assumption
       refine ⟨by ((try simp only [wN]) <;> omega), (i + 1, updN h' lf true, true), by dsimp only; omega, trivial, trivial, trivial, rfl, rfl, by dsimp only; omega, rfl, fun F hF k hk => ?_, fun e => (by cases e), fun _ => ?_⟩
       · dsimp only at hk
         unfold updN at hk
         split at hk
         · rename_i e; subst e
           exact hF _ hpm (fitsB_mono (k2_2 F hF) hfit)
         · exact k2_2 F hF k hk
       · have := (cf_upd (h := h') (k := lf) (by assumption) g.nons.length).2 hl2
         show cf (updN h' lf true) g.nons.length < _
         cases b' with
         | false => have e := (k2_3 rfl).1; subst e; omega
         | true => have := k2_4 rfl; omega
     · have hfit : fitsB false h' pr = false := by assumption
       refine ⟨by ((try simp only [wN]) <;> omega), (i + 1, h', b'), by dsimp only; omega, trivial, trivial, trivial, rfl, rfl, by dsimp only; omega, rfl, k2_2, hnew k2_3 (fun e => by rw [hfit] at e; cases e), k2_4⟩
     · refine ⟨by ((try simp only [wN]) <;> omega), (i + 1, h', b'), by dsimp only; omega, trivial, trivial, trivial, rfl, rfl, by dsimp only; omega, rfl, k2_2, hnew k2_3 (fun _ => by assumption), k2_4⟩
   · have e : i = g.prods.length := by omega
     subst e
     rw [List.take_length] at k2_3
     repeat' with_reducible first
      | refine s_ ?_
      | simp -implicitDefEqProofs only [wZZ, seval, g1, g3, g4, g5, o0, k2_1]
      | (apply ldQ_cell; (exact wu_))
     refine ⟨by ((try simp only [wN]) <;> omega), (h', b'), ?_, trivial, trivial, trivial, rfl, rfl, k2_2, fun hb => ?_⟩
     · dsimp only
       cases b' with
       | false => have e := (k2_3 rfl).1; subst e; simp
       | true => have := k2_4 rfl; simp; omega
     · obtain ⟨e1, e2⟩ := k2_3 hb
       dsimp only
       rw [e1]; exact e2

theorem put_lst {a : Nat → Bool} {x : Int} (h0 : 0 ≤ x) (h1 : x < 1024) : putL (lst a 1024) x = lst (orS a (memS [x])) 1024 := by
 refine rise_ext (putL_rise (lst_rise a 1024)) (lst_rise _ _) fun y => ?_
 rw [putL_mem, lst_mem, lst_mem]
 constructor
 · rintro (⟨k, e1, e2, e3⟩ | rfl)
   · exact ⟨k, e1, by simp [orS, e2], e3⟩
   · refine ⟨y.toNat, by omega, ?_, by omega⟩
     simp [orS, memS]; omega
 · rintro ⟨k, e1, e2, e3⟩
   simp only [orS, Bool.or_eq_true] at e2
   rcases e2 with e2 | e2
   · exact Or.inl ⟨k, e1, e2, e3⟩
   · right
     simp [memS] at e2
     omega
theorem put_take {a b : Nat → Bool} {l : List Int} (hl : l = lst b 1024) (k : Nat) : Rise ((l.take k).foldl putL (lst a 1024)) ∧ ((l.take k).foldl putL (lst a 1024)).length ≤ 1024 + k := by
 refine ⟨(foldPut _ _ (lst_rise a 1024)).1, ?_⟩
 have h1 := foldPut_len (l.take k) (lst a 1024)
 have h2 := lst_len a 1024
 have h3 : (l.take k).length ≤ k := by rw [List.length_take]; omega
 omega

def fcV (l : List Int) : V := match l with
 | [] => .sl 1 true []
 | l => intsV l
def fcC (n : Nat) (S : Nat → Nat → Bool) : List V := (List.range n).map fun k => fcV (lst (S k) 1024)
theorem fcV_er {b : Bool} {H : Nat → Option MObj} (l : List Int) : Er b H (fcV l) (intsV l) := by
 unfold fcV; split
 · exact er_sl
 · exact er_cl
theorem fcC_len (n : Nat) (S : Nat → Nat → Bool) : (fcC n S).length = n := by simp [fcC]
theorem fcC_get {n k : Nat} {S : Nat → Nat → Bool} (h : k < n) : (fcC n S)[k]? = some (fcV (lst (S k) 1024)) := by simp [fcC, h]
theorem fcC_0 (n : Nat) : List.replicate n (V.sl 1 true []) = fcC n (fun _ _ => false) := by
 have e : lst (fun _ => false) 1024 = [] := by decide +kernel
 unfold fcC
 simp only [e]
 refine List.ext_getElem? fun i => ?_
 by_cases h : i < n
 · simp [h, fcV]
 · rw [List.getElem?_eq_none (by simp; omega), List.getElem?_eq_none (by simp; omega)]
theorem fcC_er {H : Nat → Option MObj} {id n : Nat} {ro : Bool} {S : Nat → Nat → Bool} (hH : H id = some (.own 1 (fcC n S) ro)) : Er true H (.msl id 1 0 n) (.sl 1 false ((ofL n S).map intsV)) := by
 refine .msl id 1 0 n _ ro _ rfl hH (by rw [fcC_len]; omega) (by simp [ofL]) fun i c c' h1 h2 => ?_
 unfold ofL at h2
 rw [List.map_map] at h2
 by_cases h : i < n
 · rw [Nat.zero_add, fcC_get h] at h1
   rw [List.getElem?_map, List.getElem?_range h] at h2
   obtain rfl := Option.some.inj h1
   obtain rfl := Option.some.inj h2
   exact fcV_er _
 · rw [List.getElem?_eq_none (by simp; omega)] at h2; cases h2
theorem fcV_ne {l : List Int} (h : l ≠ []) : fcV l = intsV l := by
 cases l with
 | nil => exact absurd rfl h
 | cons a r => rfl
theorem fcV_flat (l : List Int) : (fcV l).cells = [fcV l] ∧ (fcV l).okCell = true ∧ (fcV l).isAgg = false := by unfold fcV; split <;> exact ⟨rfl, rfl, rfl⟩
theorem ldFc {K : V → Prop} {n k : Nat} {S : Nat → Nat → Bool} {ro : Bool} (h : k < n) (hk : K (fcV (lst (S k) 1024))) : onS (ldQ (some (.own 1 (fcC n S) ro)) false 1 k 0) K := by
 have e : ldQ (some (.own 1 (fcC n S) ro)) false 1 k 0 = some (fcV (lst (S k) 1024)) := by simp [ldQ, fcC_get h, partE, (fcV_flat _).2.2]
 rw [e]; exact hk
theorem fcC_set {n k : Nat} {S : Nat → Nat → Bool} {v : Nat → Bool} (h : k < n) : (fcC n S).set k (fcV (lst v 1024)) = fcC n (updN S k v) := by
 refine List.ext_getElem? fun i => ?_
 rw [List.getElem?_set, fcC_len]
 by_cases hi : i < n
 · by_cases e : k = i
   · subst e; rw [if_pos rfl, if_pos hi, fcC_get hi]; simp [updN]
   · rw [if_neg e, fcC_get hi, fcC_get hi]; simp [updN, Ne.symm e]
 · rw [if_neg (by omega), List.getElem?_eq_none (by rw [fcC_len]; omega), List.getElem?_eq_none (by rw [fcC_len]; omega)]
theorem stFc {K : St → Prop} {s : St} {n k id : Nat} {v : Nat → Bool} {l : List Int} {S : Nat → Nat → Bool} (h : k < n) (hl : l = lst v 1024) (hne : l ≠ []) (hk : K (s.setO id (some (.own 1 (fcC n (updN S k v)) false)))) : onS (stQ s (some (.own 1 (fcC n S) false)) 1 id k 0 (intsV l)) K := by
 have e : stQ s (some (.own 1 (fcC n S) false)) 1 id k 0 (intsV l) = some (s.setO id (some (.own 1 (fcC n (updN S k v)) false))) := by
  rw [← fcC_set h, ← hl, fcV_ne hne]
  have hf := (fcV_flat (lst (S k) 1024)).2.2
  simp only [V.isAgg] at hf
  simp only [stQ, fcC_get h, V.cells, V.okCell, storeE, V.isAgg, hf]
  simp
 rw [e]; exact hk
theorem putL_ne (l : List Int) (x : Int) : putL l x ≠ [] := fun e => by
 have : x ∈ putL l x := putL_mem.2 (Or.inr rfl)
 rw [e] at this; cases this
abbrev pot (a : Nat → Bool) (L : List Int) (k : Nat) : Nat → Bool := orS a (memS (L.take k))
theorem pot_step {a : Nat → Bool} {L : List Int} {k : Nat} {x : Int} (hg : L[k]? = some x) (h0 : 0 ≤ x) (h1 : x < 1024) : pot a L (k + 1) = orS (pot a L k) (memS [x]) := by
 funext y
 unfold pot orS memS
 rw [List.take_add_one, hg]
 simp only [Option.toList_some, List.mem_append]
 by_cases h : y < 1024 <;> simp [h, Bool.or_assoc]
theorem pot_same {a : Nat → Bool} {L : List Int} {k : Nat} {x : Int} (h0 : 0 ≤ x) (h1 : x < 1024) (h : x ∈ lst (pot a L k) 1024) : orS (pot a L k) (memS [x]) = pot a L k := by
 funext y
 obtain ⟨z, e1, e2, e3⟩ := lst_mem.1 h
 show (pot a L k y || memS [x] y) = _
 cases hm : memS [x] y with
 | false => simp
 | true =>
   simp [memS] at hm
   have : y = z := by omega
   subst this
   rw [e2]; rfl
theorem pot_in {a A : Nat → Bool} {k y : Nat} (h : pot a (lst A 1024) k y = true) : a y = true ∨ A y = true := by
 unfold pot orS at h
 rw [Bool.or_eq_true] at h
 refine h.imp id fun h => ?_
 simp only [memS, Bool.and_eq_true, decide_eq_true_eq] at h
 obtain ⟨z, e1, e2, e3⟩ := lst_mem.1 (List.mem_of_mem_take h.2)
 have : y = z := by omega
 rw [this]; exact e2
theorem pot_lt {a : Nat → Bool} {L : List Int} {k y : Nat} (ha : ∀ y, a y = true → y < 1024) (h : pot a L k y = true) : y < 1024 := by
 unfold pot orS at h
 rw [Bool.or_eq_true] at h
 rcases h with h | h
 · exact ha y h
 · simp [memS] at h; exact h.1
theorem pot_up {a : Nat → Bool} {L : List Int} {k : Nat} (S : Nat → Nat → Bool) (lf n : Nat) (hs : S lf = a) (hl : lf < n) : (updN S lf (pot a L k) = S ∧ ∀ y ∈ L.take k, 0 ≤ y → y < 1024 → a y.toNat = true) ∨ cfS (updN S lf (pot a L k)) n < cfS S n := by
 by_cases h : ∃ y, y < 1024 ∧ a y = false ∧ pot a L k y = true
 · obtain ⟨y, h1, h2, h3⟩ := h
   right
   subst hs
   exact (cfS_upd (S := S) (k := lf) (v := pot (S lf) L k) (cf_lt (fun y hy => by simp [pot, orS, hy]) h2 h3 h1) n).2 hl
 · left
   have e : pot a L k = a := by
    funext y
    cases hy : a y with
    | true => simp [pot, orS, hy]
    | false =>
      cases hp : pot a L k y with
      | false => rfl
      | true =>
        refine absurd ⟨y, ?_, hy, hp⟩ h
        unfold pot orS at hp
        rw [hy, Bool.false_or] at hp
        simp [memS] at hp
        exact hp.1
   refine ⟨?_, fun y hy h0 h1 => ?_⟩
   · rw [e]; subst hs; funext k; unfold updN; split
     · rename_i e; rw [e]
     · rfl
   · rw [← e]
     unfold pot orS
     rw [Bool.or_eq_true]; right
     simp only [memS, Bool.and_eq_true, decide_eq_true_eq]
     exact ⟨by omega, by rw [Int.toNat_of_nonneg h0]; exact hy⟩
theorem fcV_sl (l : List Int) : ∃ c, fcV l = .sl 1 c (l.map (V.int .i64)) := by unfold fcV; split <;> exact ⟨_, rfl⟩
theorem ofE {H : Nat → Option MObj} {next n nt : Nat} {fv : V} {S : Nat → Nat → Bool} {E : Nat → Bool} {l : List Int} (hn : n ≤ 1000000) (hl : l.length ≤ 1000000) (hs : ∀ s ∈ l, SymIn nt n s) (ht : nt ≤ 1000) (hfv : fv = .sl 1 false ((ofL n S).map intsV) ∨ ∃ id, fv = .msl id 1 0 n ∧ id < next ∧ H id = some (.own 1 (fcC n S) false)) : ECalls Tryd.prog 41 [fv, .sl 1 false (bolC n E), .sl 1 false (l.map (V.int .i64))] H next (fun v H' n' => next ≤ n' ∧ (∃ c, v = .sl 1 c ((lst (lstF S E l).1 1024).map (V.int .i64))) ∧ ∀ j, j < next → H' j = H j) := by
 refine ecalls_intro Tryd.func41 e41_nm e41_ok (by show 3 ≤ 59; decide) ?_
 show ewp _ e41n43 _ _
 have hbm : bolC n E = (List.range n).map fun k => V.bool (E k) := rfl
 have hl0 : V.sl 1 true [] = .sl 1 true ((lst (fun _ => false) 1024).map (V.int .i64)) := by
  have e : lst (fun _ => false) 1024 = [] := by decide +kernel
  rw [e]; rfl
 rw [hbm]
 clear hbm
 repeat' with_reducible first
  | refine s_ ?_
  | simp -implicitDefEqProofs only [wZZ, seval]
 rw [hl0]
 refine ewp_loopN ?nx1 (fun (q : Nat × (Nat → Bool)) s => s.f 0 = ?v1_0 ∧ s.f 1 = ?v1_1 ∧ s.f 2 = ?v1_2 ∧ (∃ c, s.f 7 = .sl 1 c ((lst q.2 1024).map (V.int .i64))) ∧ s.f 8 = vi q.1 ∧ (q.1 ≤ l.length) ∧ (lstA S E (l.drop q.1) q.2 = lstF S E l) ∧ ((∀ j, j < next → s.H j = H j))) (fun q => l.length - q.1) ((0, fun _ => false)) wj_ (by refine ⟨?_, ?_, ?_, ?_, ?_, (by first | omega | (simp; done) | assumption), (by rfl), (by intro j hj; ((try simp only [wM]); (repeat first | rw [if_pos trivial] | rw [if_pos rfl] | rw [if_neg (by omega)])))⟩ <;> first | (simp -implicitDefEqProofs only [wL, wM, wN, wX, seval, Option.some.injEq] <;> exact wt_) | rfl | exact ⟨_, rfl⟩) ?_
 intro q s hnx ⟨g0, g1, g2, ⟨c7, g7⟩, g8, k1_0, k1_1, k1_2⟩
 obtain ⟨i, a⟩ := q
 dsimp only at *
 have hz : IntKind.i64.wrap ((i + 1 : Nat) : Int) = ((i + 1 : Nat) : Int) := wrap64 (by omega) (by omega)
 have hla := lst_len a 1024
 by_cases hi : i < l.length
 · have hx := hs _ (List.getElem_mem hi)
   have hgi : l[i]? = some l[i] := List.getElem?_eq_getElem hi
   rw [List.drop_eq_getElem_cons hi] at k1_1
   generalize l[i] = x at *
   have hput := yuccaref0_Put (l := lst a 1024) (x := x) (by omega)
   rcases hx with ⟨t, rfl, hx⟩ | ⟨k, rfl, hk⟩
   · rw [lstA, if_pos (by omega)] at k1_1
     rw [put_lst (by omega) (by omega)] at hput
     have hlt : (t : Int) < 1000 := by omega
     rw [← k1_1]
     repeat' with_reducible first
      | refine s_ ?_
      | simp -implicitDefEqProofs only [wZZ, seval, g0, g1, g2, g7, g8, hz]
      | (refine condQ_j (fun h h_ => ?_) (fun h h_ => ?_) <;> (try simp only [wD, reduceCtorEq] at h_) <;> (try exact wb_) <;> (try simp only [h]))
      | (apply ia_slQ; (focus omega); (focus with_unfolding_all exact hgi))
      | (apply callQ2 (hp := hput); (focus exact er_sl); (focus exact er_cl))
     all_goals exact heap1 rfl (Or.inr rfl) ⟨by ((try simp only [wN]) <;> omega), ⟨false, by (simp -implicitDefEqProofs only [wL, seval])⟩, fun j hj => by ((try simp only [wM]); (repeat first | rw [if_pos trivial] | rw [if_pos rfl] | rw [if_neg (by omega)])); exact k1_2 j hj⟩
   · rw [lstA, if_neg (by omega), show (1000 + (k : Int) - 1000).toNat = k by omega] at k1_1
     have hz1 : IntKind.i64.wrap (1000 + (k : Int) - 1000) = (k : Int) := by rw [wrap64 (by omega) (by omega)]; omega
     have hgo : (ofL n S)[k]? = some (lst (S k) 1024) := by simp [ofL, hk]
     have hgb : (List.range n)[k]? = some k := List.getElem?_range hk
     have hlk := lst_len (S k) 1024
     have hft : (lst (S k) 1024).foldl putL (lst a 1024) = lst (orS a (S k)) 1024 := foldPut_lst a (S k)
     have hpt := fun j => (put_take (a := a) (b := S k) rfl j).2
     generalize hL : lst (S k) 1024 = L at *
     generalize hA : lst a 1024 = A at *
     obtain ⟨cf, hcf⟩ := fcV_sl L
     rcases hfv with hfe | ⟨id, hfe, hid, hH⟩
     case' inr => have oo := (k1_2 id hid).trans hH
     case' inl => skip
     all_goals
      repeat' with_reducible first
       | refine s_ ?_
       | simp -implicitDefEqProofs only [wZZ, seval, g0, g1, g2, g7, g8, hz, hz1, hfe]
       | (refine condQ_j (fun h h_ => ?_) (fun h h_ => ?_) <;> (try simp only [wD, reduceCtorEq] at h_) <;> (try exact wb_) <;> (try simp only [h]))
       | (apply ia_slQ; (focus omega); (focus with_unfolding_all exact hgi))
       | (apply ia_slQ; (focus omega); (focus with_unfolding_all exact hgo))
       | (apply ia_mslQ; (focus omega); (focus (rw [Int.toNat_natCast]; exact hk)))
       | (rw [oo]; refine ldFc hk ?_; rw [hL, hcf])
      refine ewp_loopN ?nx2 (fun (j : Nat) s => s.f 1 = ?v2_1 ∧ s.f 2 = ?v2_2 ∧ s.f 8 = ?v2_8 ∧ s.f 0 = fv ∧ (∃ c, s.f 7 = .sl 1 c (((L.take j).foldl putL A).map (V.int .i64))) ∧ (∃ c, s.f 9 = .sl 1 c (L.map (V.int .i64))) ∧ s.f 10 = vi j ∧ (j ≤ L.length) ∧ ((∀ j, j < next → s.H j = H j))) (fun j => L.length - j) (0) wj_ (by refine ⟨?_, ?_, ?_, ?_, ?_, ?_, ?_, (by first | omega | (simp; done) | assumption), (by intro j hj; ((try simp only [wM]); (repeat first | rw [if_pos trivial] | rw [if_pos rfl] | rw [if_neg (by omega)])); exact k1_2 j hj)⟩ <;> first | (simp -implicitDefEqProofs only [wL, wM, wN, wX, seval, Option.some.injEq, g0, g1, g2, g7, g8] <;> exact wt_) | rfl | exact ⟨_, rfl⟩) ?_
      intro j s hnx ⟨g1, g2, g8, g0, ⟨c7, g7⟩, ⟨c9, g9⟩, g10, k2_0, k2_1⟩
      have hzj : IntKind.i64.wrap ((j + 1 : Nat) : Int) = ((j + 1 : Nat) : Int) := wrap64 (by omega) (by omega)
      have hpl := hpt j
      by_cases hj : j < L.length
      · have hgj : L[j]? = some L[j] := List.getElem?_eq_getElem hj
        have hst : (L.take (j + 1)).foldl putL A = putL ((L.take j).foldl putL A) L[j] := by rw [List.take_add_one, hgj, List.foldl_append]; rfl
        have hp2 := yuccaref0_Put (l := (L.take j).foldl putL A) (x := L[j]) (by omega)
        generalize L[j] = y at *
        repeat' with_reducible first
         | refine s_ ?_
         | simp -implicitDefEqProofs only [wZZ, seval, g1, g2, g8, g0, g7, g9, g10, hzj]
         | (refine condQ_j (fun h h_ => ?_) (fun h h_ => ?_) <;> (try simp only [wD, reduceCtorEq] at h_) <;> (try exact wb_) <;> (try simp only [h]))
         | (apply ia_slQ; (focus omega); (focus with_unfolding_all exact hgj))
         | (apply callQ2 (hp := hp2); (focus exact er_sl); (focus exact er_cl))
        exact ⟨by ((try simp only [wN]) <;> omega), j + 1, by omega, trivial, trivial, trivial, trivial, ⟨_, by rw [hst]⟩, ⟨_, rfl⟩, rfl, by omega, fun i hi => by ((try simp only [wM]); (repeat first | rw [if_pos trivial] | rw [if_pos rfl] | rw [if_neg (by omega)])); exact k2_1 i hi⟩
      · have e : j = L.length := by omega
        subst e
        rw [List.take_length, hft] at g7
        cases hb : E k
        · rw [if_neg (by rw [hb]; decide)] at k1_1
          rw [← k1_1]
          repeat' with_reducible first
           | refine s_ ?_
           | simp -implicitDefEqProofs only [wZZ, seval, g1, g2, g8, g0, g7, g9, g10, hz, hz1, hb]
           | (apply ia_slQ; (focus omega); (focus with_unfolding_all exact hgi))
           | (apply ia_slQ; (focus omega); (focus with_unfolding_all exact hgb))
          exact heap1 rfl (Or.inr rfl) ⟨by ((try simp only [wN]) <;> omega), ⟨c7, by (simp -implicitDefEqProofs only [wL, seval])⟩, fun j hj => by ((try simp only [wM]); (repeat first | rw [if_pos trivial] | rw [if_pos rfl] | rw [if_neg (by omega)])); exact k2_1 j hj⟩
        · rw [if_pos hb] at k1_1
          repeat' with_reducible first
           | refine s_ ?_
           | simp -implicitDefEqProofs only [wZZ, seval, g1, g2, g8, g0, g7, g9, g10, hz, hz1, hb]
           | (apply ia_slQ; (focus omega); (focus with_unfolding_all exact hgi))
           | (apply ia_slQ; (focus omega); (focus with_unfolding_all exact hgb))
          skip
          exact ⟨by ((try simp only [wN]) <;> omega), (i + 1, orS a (S k)), by dsimp only; omega, by first | exact True.intro | exact hfe, trivial, trivial, ⟨_, rfl⟩, rfl, by dsimp only; omega, k1_1, fun j hj => by ((try simp only [wM]); (repeat first | rw [if_pos trivial] | rw [if_pos rfl] | rw [if_neg (by omega)])); exact k2_1 j hj⟩
 · rw [List.drop_of_length_le (by omega)] at k1_1
   repeat' with_reducible first
    | refine s_ ?_
    | simp -implicitDefEqProofs only [wZZ, seval, g0, g1, g2, g7, g8, hz]
    | (refine condQ_j (fun h h_ => ?_) (fun h h_ => ?_) <;> (try simp only [wD, reduceCtorEq] at h_) <;> (try exact wb_) <;> (try simp only [h]))
   refine heap1 rfl (Or.inr rfl) ⟨by ((try simp only [wN]) <;> omega), ⟨c7, ?_⟩, fun j hj => by ((try simp only [wM]); (repeat first | rw [if_pos trivial] | rw [if_pos rfl] | rw [if_neg (by omega)])); exact k1_2 j hj⟩
   (simp -implicitDefEqProofs only [wL, seval])
   rw [← k1_1]; rfl
end Go.Proofs
