/- Part of a proof that a law of the given program answers true. -/
import Derived.Test.YtpnfbnlhjdnnpaaDoorTJA
import Derived.Test.YtpnfbnlhjdnnpaaDoorTCA
import Derived.Test.YtpnfbnlhjdnnpaaDoorTKA
set_option linter.unusedSimpArgs false
set_option linter.unusedVariables false
set_option maxHeartbeats 4000000
namespace Go.Proofs
open Go.E
def fitsB (token : Bool) (h : Nat → Bool) (l : List Int) : Bool := l.all fun s => if s < 1000 then token else h (s - 1000).toNat
def ClosedG (g : Grammar) (token : Bool) (E : Nat → Bool) : Prop := ∀ p ∈ g.prods, fitsB token E p.right = true → E p.left.toNat = true
structure IsGrow (g : Grammar) (token : Bool) (E : Nat → Bool) : Prop where
 closed : ClosedG g token E
 least : ∀ F, ClosedG g token F → ∀ k, E k = true → F k = true
theorem IsGrow.uniq {g : Grammar} {token : Bool} {E F : Nat → Bool} (h : IsGrow g token E) (k : IsGrow g token F) : E = F := by
 funext n
 rw [Bool.eq_iff_iff]
 exact ⟨h.least F k.closed n, k.least E h.closed n⟩
theorem fitsB_mono {token : Bool} {h F : Nat → Bool} (hh : ∀ k, h k = true → F k = true) {l : List Int} (hl : fitsB token h l = true) : fitsB token F l = true := by
 unfold fitsB at *
 rw [List.all_eq_true] at *
 intro s hs
 have := hl s hs
 split
 · rename_i h1; rwa [if_pos h1] at this
 · rename_i h1; rw [if_neg h1] at this; exact hh _ this
theorem fitsB_step {token : Bool} {h : Nat → Bool} {l : List Int} {i : Nat} (hi : i < l.length) (ht : ∀ s ∈ l.take i, (if s < 1000 then token else h (s - 1000).toNat) = true) : (if l[i] < 1000 then token else h (l[i] - 1000).toNat) = false → fitsB token h l = false := fun hf =>
 List.all_eq_false.2 ⟨l[i], List.getElem_mem hi, by rw [hf]; exact Bool.false_ne_true⟩
def cf (h : Nat → Bool) : Nat → Nat
 | 0 => 0
 | n + 1 => cf h n + if h n = true then 0 else 1
theorem cf_upd {h : Nat → Bool} {k : Nat} (hk : h k = false) : ∀ n, (n ≤ k → cf (updN h k true) n = cf h n) ∧ (k < n → cf (updN h k true) n + 1 = cf h n)
 | 0 => ⟨fun _ => rfl, fun h => by omega⟩
 | n + 1 => by
   obtain ⟨h1, h2⟩ := cf_upd hk n
   unfold cf
   by_cases e : n = k
   · subst e
     have e2 : updN h n true n = true := by unfold updN; rw [if_pos rfl]
     rw [e2, h1 (Nat.le_refl _), hk]
     exact ⟨fun h => by omega, fun _ => by simp⟩
   · have e2 : updN h k true n = h n := by unfold updN; rw [if_neg e]
     rw [e2]
     exact ⟨fun h => by rw [h1 (by omega)], fun h => by have := h2 (by omega); omega⟩
theorem Cl_bol (n : Nat) (h : Nat → Bool) : Cls' (bolC n h) := inferInstanceAs (Cls' (List.map _ _))
theorem callF1 {P : Program} [Glob P] {cls : Cls} {id : Nat} {s : St} {K : V → St → Prop} {f a : Opd} {fid : FuncId} {caps as' : List V} {x res : V} (hf : ev s f = .fn fid caps) (ha : ev s a = x) (hc : (cls == .r) = false) (hE : Ers true s.H (x :: caps) as') (hp : Pure P fid as' res) (hfl : Flat res) (hk : K res s) : stepOp P cls id s K (.call f [a]) := by
 show (match ev s f with
  | .fn fid caps =>
    (∃ bor as' res, (cls = .r → bor = false) ∧ Ers bor s.H ([a].map (ev s) ++ caps) as' ∧ Pure P fid as' res ∧ (bor = true → Flat res) ∧ K res s) ∨
    (wCls cls = true ∧ ECalls P fid ([a].map (ev s) ++ caps) s.H s.next fun v H' next' => keepC cls s.next s.H H' ∧ K v { s with H := H', next := next' })
  | _ => False)
 rw [hf]
 subst ha
 exact Or.inl ⟨true, as', res, fun e => (by subst e; cases hc), hE, hp, fun _ => hfl, hk⟩
theorem vain_grow_1 {p : GPr} {token : Bool} {h : Nat → Bool} {n : Nat} (hr : ∀ s ∈ p.right, s < 1000 ∨ ∃ k : Nat, s = 1000 + (k : Int) ∧ k < n) (hl : p.right.length ≤ 1000000) (hn : n ≤ 1000000) : Pure Tryd.prog 60 [p.V, .iptr 1 (.bool token) 0, .iptr 1 (.sl 1 false (bolC n h)) 0] (.bool (fitsB token h p.right)) := by
 refine pure_intro Tryd.func60 e60_nm e60_ok (by show 3 ≤ 33; decide) ?_
 show ewp _ e60n22 _ _
 repeat' with_reducible first
  | refine s_ ?_
  | simp -implicitDefEqProofs only [wZZ, seval]
  | (apply ldQ_cell; (exact wu_))
  | (apply boxQ_i; (exact wu_); (exact wu_))
 refine ewp_loopN ?nx1 (fun (i : Nat) s => s.f 1 = ?v1_1 ∧ s.f 2 = ?v1_2 ∧ s.f 8 = ?v1_8 ∧ s.f 9 = ?v1_9 ∧ s.f 10 = vi i ∧ (i ≤ p.right.length) ∧ (∀ s ∈ p.right.take i, (if s < 1000 then token else h (s - 1000).toNat) = true)) (fun i => p.right.length - i) (0) wj_ (by refine ⟨?_, ?_, ?_, ?_, ?_, (by first | omega | (simp; done) | assumption), (by first | omega | (simp; done) | assumption)⟩ <;> first | (simp -implicitDefEqProofs only [wL, wM, wN, wX, seval, Option.some.injEq] <;> exact wt_) | rfl | exact ⟨_, rfl⟩) ?_
 intro i s hnx ⟨g1, g2, g8, g9, g10, k1_0, k1_1⟩
 have hz : IntKind.i64.wrap ((i + 1 : Nat) : Int) = ((i + 1 : Nat) : Int) := wrap64 (by omega) (by omega)
 by_cases hi : i < p.right.length
 · have hst := fitsB_step hi k1_1
   have hnx : (if p.right[i] < 1000 then token else h (p.right[i] - 1000).toNat) = true → ∀ s ∈ p.right.take (i + 1), (if s < 1000 then token else h (s - 1000).toNat) = true := fun hh s hs => by
    rw [List.take_add_one, List.getElem?_eq_getElem hi] at hs
    rcases List.mem_append.1 hs with hs | hs
    · exact k1_1 s hs
    · simp at hs; subst hs; exact hh
   rcases hr _ (List.getElem_mem hi) with hs | ⟨k, hk, hkn⟩
   · rw [if_pos hs] at hst hnx
     cases token with
     | true =>
       repeat' with_reducible first
        | refine s_ ?_
        | simp -implicitDefEqProofs only [wZZ, seval, g1, g2, g8, g9, g10, hz]
        | (refine condQ_j (fun h h_ => ?_) (fun h h_ => ?_) <;> (try simp only [wD, reduceCtorEq] at h_) <;> (try exact wb_) <;> (try simp only [h]))
        | ((first | refine gdQ_iT (fun h => ?_) (fun h => ?_) | refine gdQ_iF (fun h => ?_) (fun h => ?_)) <;> have h_ := h <;> (try simp only [wD, reduceCtorEq] at h_) <;> (try exact wb_) <;> (try simp only [h]))
        | (apply ia_slQ; (focus omega); (exact wd_))
       refine ⟨wk_, i + 1, (by omega), ?_⟩
       refine ⟨?_, ?_, ?_, ?_, ?_, ?_, ?_⟩
       iterate 5 (focus (first | (simp -implicitDefEqProofs only [wL, wM, wN, wX, seval, Option.some.injEq, g1, g2, g8, g9, g10] <;> exact wt_) | rfl | exact ⟨_, rfl⟩))
       all_goals try omega
       exact hnx rfl
     | false =>
       rw [hst rfl]
       repeat' with_reducible first
        | refine s_ ?_
        | simp -implicitDefEqProofs only [wZZ, seval, g1, g2, g8, g9, g10, hz]
        | (refine condQ_j (fun h h_ => ?_) (fun h h_ => ?_) <;> (try simp only [wD, reduceCtorEq] at h_) <;> (try exact wb_) <;> (try simp only [h]))
        | ((first | refine gdQ_iT (fun h => ?_) (fun h => ?_) | refine gdQ_iF (fun h => ?_) (fun h => ?_)) <;> have h_ := h <;> (try simp only [wD, reduceCtorEq] at h_) <;> (try exact wb_) <;> (try simp only [h]))
        | (apply ia_slQ; (focus omega); (exact wd_))
       refine post1 rfl (Or.inr rfl) ?_
       simp -implicitDefEqProofs only [wL, seval, g1, g2, g8, g9, g10]
       first | refine er_bool ?_ | refine er_int ?_ | refine er_str ?_ | refine er_sl_eq ?_ | refine er_asl_eq ?_
       try (with_reducible rfl)
   · have hz2 : IntKind.i64.wrap (1000 + (k : Int) - 1000) = (k : Int) := by rw [wrap64 (by omega) (by omega)]; omega
     rw [if_neg (by omega), hk, show ((1000 + (k : Int)) - 1000).toNat = k by omega] at hst hnx
     have hbg := bolC_get (h := h) hkn
     cases hb : h k with
     | true =>
       repeat' with_reducible first
        | refine s_ ?_
        | simp -implicitDefEqProofs only [wZZ, seval, g1, g2, g8, g9, g10, hz, hk, hz2, hb]
        | (refine condQ_j (fun h h_ => ?_) (fun h h_ => ?_) <;> (try simp only [wD, reduceCtorEq] at h_) <;> (try exact wb_) <;> (try simp only [h]))
        | ((first | refine gdQ_iT (fun h => ?_) (fun h => ?_) | refine gdQ_iF (fun h => ?_) (fun h => ?_)) <;> have h_ := h <;> (try simp only [wD, reduceCtorEq] at h_) <;> (try exact wb_) <;> (try simp only [h]))
        | (apply onS_i (ia_slv (by omega) (by with_unfolding_all exact hbg)))
        | (apply ia_slQ; (focus omega); (exact wd_))
       refine ⟨wk_, i + 1, (by omega), ?_⟩
       refine ⟨?_, ?_, ?_, ?_, ?_, ?_, ?_⟩
       iterate 5 (focus (first | (simp -implicitDefEqProofs only [wL, wM, wN, wX, seval, Option.some.injEq, g1, g2, g8, g9, g10] <;> exact wt_) | rfl | exact ⟨_, rfl⟩))
       all_goals try omega
       exact hnx hb
     | false =>
       rw [hst hb]
       repeat' with_reducible first
        | refine s_ ?_
        | simp -implicitDefEqProofs only [wZZ, seval, g1, g2, g8, g9, g10, hz, hk, hz2, hb]
        | (refine condQ_j (fun h h_ => ?_) (fun h h_ => ?_) <;> (try simp only [wD, reduceCtorEq] at h_) <;> (try exact wb_) <;> (try simp only [h]))
        | ((first | refine gdQ_iT (fun h => ?_) (fun h => ?_) | refine gdQ_iF (fun h => ?_) (fun h => ?_)) <;> have h_ := h <;> (try simp only [wD, reduceCtorEq] at h_) <;> (try exact wb_) <;> (try simp only [h]))
        | (apply onS_i (ia_slv (by omega) (by with_unfolding_all exact hbg)))
        | (apply ia_slQ; (focus omega); (exact wd_))
       refine post1 rfl (Or.inr rfl) ?_
       simp -implicitDefEqProofs only [wL, seval, g1, g2, g8, g9, g10]
       first | refine er_bool ?_ | refine er_int ?_ | refine er_str ?_ | refine er_sl_eq ?_ | refine er_asl_eq ?_
       try (with_reducible rfl)
 · rw [List.take_of_length_le (by omega)] at k1_1
   have e : fitsB token h p.right = true := List.all_eq_true.2 k1_1
   rw [e]
   repeat' with_reducible first
    | refine s_ ?_
    | simp -implicitDefEqProofs only [wZZ, seval, g1, g2, g8, g9, g10]
    | (refine condQ_j (fun h h_ => ?_) (fun h h_ => ?_) <;> (try simp only [wD, reduceCtorEq] at h_) <;> (try exact wb_) <;> (try simp only [h]))
   refine post1 rfl (Or.inr rfl) ?_
   simp -implicitDefEqProofs only [wL, seval, g1, g2, g8, g9, g10]
   first | refine er_bool ?_ | refine er_int ?_ | refine er_str ?_ | refine er_sl_eq ?_ | refine er_asl_eq ?_
   try (with_reducible rfl)

theorem er_ptr1 {H : Nat → Option MObj} {id sz : Nat} {ro : Bool} {e e' : V} (hH : H id = some (.own sz [e] ro)) (h : Er true H e e') : Er true H (.ptr id 0 0) (.iptr sz e' 0) := .ptr id 0 0 sz _ ro _ _ rfl hH rfl h
theorem er_bolM {H : Nat → Option MObj} {id n : Nat} {ro : Bool} {h : Nat → Bool} (hH : H id = some (.own 1 (bolC n h) ro)) : Er true H (.msl id 1 0 n) (.sl 1 false (bolC n h)) := by
 have := Cl_bol n h
 exact er_msl_eq hH (by rw [bolC_len]; omega) (by rw [List.drop_zero]; exact List.take_of_length_le (by rw [bolC_len]; omega))
instance gpr_cl (p : GPr) : Cl p.V := ⟨fun b H => ErL.agg (.cons (.int _ _) (.cons er_cl (.cons (.int _ _) (.cons (.str _) (.cons er_cl (.cons (.int _ _) .nil))))))⟩
theorem GOk.rt {g : Grammar} (h : GOk g) {p : GPr} (hp : p ∈ g.prods) : ∀ s ∈ p.right, s < 1000 ∨ ∃ k : Nat, s = 1000 + (k : Int) ∧ k < g.nons.length := fun s hs => by
 rcases h.right p hp s hs with ⟨t, e, l⟩ | ⟨k, e, l⟩
 · have := h.tk2; exact Or.inl (by omega)
 · exact Or.inr ⟨k, e, l⟩
theorem vain_grow {g : Grammar} {token : Bool} (hg : GOk g) : ∃ E, IsGrow g token E ∧ Pure Tryd.prog 44 [g.V, .bool token] (.sl 1 false (bolC g.nons.length E)) := by
 have hh := pure_ex (G := fun v => ∃ E, v = .sl 1 false (bolC g.nons.length E) ∧ IsGrow g token E) (args := [g.V, .bool token]) Tryd.func44 e44_nm e44b_ok (by show 2 ≤ 40; decide) ?_
 · obtain ⟨v, ⟨E, rfl, h⟩, h2⟩ := hh
   exact ⟨E, h, h2⟩
 show ewp _ e44bn36 _ _
 have hnl := hg.nn2; have hpl := hg.pl2
 have hb0 := bolC_0 g.nons.length
 repeat' with_reducible first
  | refine s_ ?_
  | simp -implicitDefEqProofs only [wZZ, seval]
  | (apply ldQ_cell; (exact wu_))
  | (apply stQ_one; (exact wu_); (exact wu_); (exact wu_))
  | (apply boxQ_i; (exact wu_); (exact wu_))
  | (apply mkQ_T; (exact wf_); (exact wf_); (focus (unfold maxLen; first | omega | (simp only [wZ] <;> omega))))
 rw [hb0]
 refine ewp_loopN ?nx1 (fun (q : (Nat → Bool) × Bool) s => s.f 2 = ?v1_2 ∧ s.f 5 = ?v1_5 ∧ s.f 6 = ?v1_6 ∧ s.H 0 = some (MObj.own 5 [g.V] false) ∧ s.H 1 = some (MObj.own 1 [.bool token] false) ∧ s.H 7 = some (MObj.own 1 [.msl 6 1 0 g.nons.length] false) ∧ s.f 7 = .bool q.2 ∧ ((s.H 6 = some (MObj.own 1 (bolC g.nons.length q.1) false))) ∧ ((∀ F, ClosedG g token F → ∀ k, q.1 k = true → F k = true)) ∧ ((q.2 = false → ClosedG g token q.1))) (fun q => 2 * cf q.1 g.nons.length + (if q.2 = true then 1 else 0)) ((fun _ => false, true)) wj_ (by refine ⟨?_, ?_, ?_, ?_, ?_, ?_, ?_, wc_, (by intro F _ k h; cases h), (by intro h; cases h)⟩ <;> first | (simp -implicitDefEqProofs only [wL, wM, wN, wX, seval, Option.some.injEq] <;> exact wt_) | rfl | exact ⟨_, rfl⟩) ?_
 intro q s hnx ⟨g2, g5, g6, o0, o1, o2, g7, k1_0, k1_1, k1_2⟩
 obtain ⟨h, b⟩ := q
 dsimp only at *
 cases b with
 | false =>
   have hcl := k1_2 rfl
   repeat' with_reducible first
    | refine s_ ?_
    | simp -implicitDefEqProofs only [wZZ, seval, g2, g5, g6, g7, o0, o1, o2, k1_0]
    | (apply ldQ_one; (exact wu_))
   refine ⟨_, ⟨h, rfl, hcl, k1_1⟩, Or.inr rfl, .msl 6 1 0 g.nons.length, ?_, er_bolM (ro := false) ?_⟩
   · show resV _ [.inl 4] = _
     simp [resV, resL, one, wL]
   · (simp only [wM]; (repeat first | rw [if_pos trivial] | rw [if_pos rfl] | rw [if_neg (by omega)])); exact k1_0
 | true =>
   repeat' with_reducible first
    | refine s_ ?_
    | simp -implicitDefEqProofs only [wZZ, seval, g2, g5, g6, g7, o0, o1, o2, k1_0]
    | (apply ldQ_cell; (exact wu_))
   refine ewp_loopN ?nx2 (fun (r : Nat × (Nat → Bool) × Bool) s => s.f 2 = ?v2_2 ∧ s.f 5 = ?v2_5 ∧ s.f 6 = ?v2_6 ∧ s.f 17 = ?v2_17 ∧ s.f 18 = ?v2_18 ∧ s.H 0 = some (MObj.own 5 [g.V] false) ∧ s.H 1 = some (MObj.own 1 [.bool token] false) ∧ s.H 7 = some (MObj.own 1 [.msl 6 1 0 g.nons.length] false) ∧ s.f 7 = .bool r.2.2 ∧ s.f 19 = vi r.1 ∧ (r.1 ≤ g.prods.length) ∧ ((s.H 6 = some (MObj.own 1 (bolC g.nons.length r.2.1) false))) ∧ ((∀ F, ClosedG g token F → ∀ k, r.2.1 k = true → F k = true)) ∧ ((r.2.2 = false → r.2.1 = h ∧ ∀ p ∈ g.prods.take r.1, fitsB token h p.right = true → h p.left.toNat = true)) ∧ ((r.2.2 = true → cf r.2.1 g.nons.length < cf h g.nons.length))) (fun r => g.prods.length - r.1) ((0, h, false)) wj_ (by refine ⟨?_, ?_, ?_, ?_, ?_, ?_, ?_, ?_, ?_, ?_, (by first | omega | (simp; done) | assumption), (by (simp only [wM]; (repeat first | rw [if_pos trivial] | rw [if_pos rfl] | rw [if_neg (by omega)])); exact k1_0), (by exact k1_1), (by exact fun _ => ⟨rfl, fun p hp => by simp at hp⟩), (by intro h; cases h)⟩ <;> first | (simp -implicitDefEqProofs only [wL, wM, wN, wX, seval, Option.some.injEq, g2, g5, g6, g7, o0, o1, o2] <;> exact wt_) | rfl | exact ⟨_, rfl⟩) ?_
   intro r s hnx ⟨g2, g5, g6, g17, g18, o0, o1, o2, g7, g19, k2_0, k2_1, k2_2, k2_3, k2_4⟩
   obtain ⟨i, h', b'⟩ := r
   dsimp only at *
   have hz : IntKind.i64.wrap ((i + 1 : Nat) : Int) = ((i + 1 : Nat) : Int) := wrap64 (by omega) (by omega)
   by_cases hi : i < g.prods.length
   · have hmem := List.getElem_mem hi
     obtain ⟨lf, hl1, hl2⟩ := hg.left _ hmem
     have hrt := hg.rt hmem
     have hrl := hg.rlen _ hmem
     have htk : g.prods.take (i + 1) = g.prods.take i ++ [g.prods[i]] := by rw [List.take_add_one, List.getElem?_eq_getElem hi]; rfl
     generalize hp : g.prods[i] = p at *
     have hcl := vain_grow_1 (p := p) (token := token) (h := h') (n := g.nons.length) hrt (by omega) (by omega)
     have hgp : g.prods[i]? = some p := by rw [List.getElem?_eq_getElem hi, hp]
     have hpm : p ∈ g.prods := hp ▸ List.getElem_mem hi
     clear hp
     obtain ⟨pl, pr, pc, pco, pa, pat⟩ := p
     dsimp only at hl1 hrt hrl hcl
     subst hl1
     have hnew : (b' = false → h' = h ∧ ∀ p ∈ g.prods.take i, fitsB token h p.right = true → h p.left.toNat = true) → (fitsB token h' pr = true → h' lf = true) → (b' = false → h' = h ∧ ∀ p ∈ g.prods.take (i + 1), fitsB token h p.right = true → h p.left.toNat = true) := fun q1 q2 hb => by
      obtain ⟨e1, e2⟩ := q1 hb
      refine ⟨e1, fun p hp hf => ?_⟩
      rw [htk] at hp
      rcases List.mem_append.1 hp with hp | hp
      · exact e2 p hp hf
      · rw [List.mem_singleton] at hp; subst hp
        subst e1
        exact q2 hf
     repeat' with_reducible first
      | refine s_ ?_
      | simp -implicitDefEqProofs only [wZZ, seval, g2, g5, g6, g17, g18, g7, g19, o0, o1, o2, k2_1, hz]
      | (refine condQ_j (fun h h_ => ?_) (fun h h_ => ?_) <;> (try simp only [wD, reduceCtorEq] at h_) <;> (try exact wb_) <;> (try simp only [h]))
      | ((first | refine gdQ_iT (fun h => ?_) (fun h => ?_) | refine gdQ_iF (fun h => ?_) (fun h => ?_)) <;> have h_ := h <;> (try simp only [wD, reduceCtorEq] at h_) <;> (try exact wb_) <;> (try simp only [h]))
      | (refine ldB hl2 ?_)
      | (apply ia_slQ; (focus omega); (focus with_unfolding_all exact hgp))
      | (apply ia_mslQ; (focus omega); (exact wf_))
      | (apply ldQ_whole)
      | (apply ldQ_cell; (exact wu_))
      | (apply ldQ_one; (exact wu_))
      | (apply stQ_whole; (exact wu_); (exact wu_))
      | simp -implicitDefEqProofs (disch := omega) only [w64, if_neg]
     · refine callF1 (fid := 60) (caps := [.ptr 1 0 0, .ptr 7 0 0]) (as' := [GPr.V { left := lf, right := pr, prec := pc, code := pco, args := pa, at_ := pat }, .iptr 1 (.bool token) 0, .iptr 1 (.sl 1 false (bolC g.nons.length h')) 0]) (x := GPr.V { left := lf, right := pr, prec := pc, code := pco, args := pa, at_ := pat }) (by rfl) (by rfl) rfl ?_ hcl (Flat.bool _) ?_
       · refine ers_cons er_cl (ers_cons (er_ptr1 (ro := false) (by (simp only [wM]; (repeat first | rw [if_pos trivial] | rw [if_pos rfl] | rw [if_neg (by omega)])); exact o1) (.bool _)) (ers_cons (er_ptr1 (ro := false) (by (simp only [wM]; (repeat first | rw [if_pos trivial] | rw [if_pos rfl] | rw [if_neg (by omega)])); exact o2) (er_bolM (ro := false) (by (simp only [wM]; (repeat first | rw [if_pos trivial] | rw [if_pos rfl] | rw [if_neg (by omega)])); exact k2_1))) ers_nil))
       cases hfit : fitsB token h' pr with
       | true =>
         repeat' with_reducible first
          | refine s_ ?_
          | simp -implicitDefEqProofs only [wZZ, seval, g2, g5, g6, g17, g18, g7, g19, o0, o1, o2, k2_1, hz]
          | (refine stB hl2 ?_)
          | (apply ia_mslQ; (focus omega); (exact wf_))
          | (apply ldQ_cell; (exact wu_))
          | (apply ldQ_one; (exact wu_))
          | simp -implicitDefEqProofs (disch := omega) only [w64, if_neg]
         refine ⟨by ((try simp only [wN]) <;> omega), (i + 1, updN h' lf true, true), by dsimp only; omega, trivial, trivial, trivial, trivial, trivial, trivial, trivial, trivial, rfl, rfl, by dsimp only; omega, rfl, fun F hF k hk => ?_, fun e => (by cases e), fun _ => ?_⟩
         · dsimp only at hk
           unfold updN at hk
           split at hk
           · rename_i e; subst e
             exact hF _ hpm (fitsB_mono (k2_2 F hF) hfit)
           · exact k2_2 F hF k hk
         · have := (cf_upd (h := h') (k := lf) (by assumption) g.nons.length).2 hl2
           show cf (updN h' lf true) g.nons.length < _
           cases b' with
           | false => have e := (k2_3 rfl).1; subst e; omega
           | true => have := k2_4 rfl; omega
       | false =>
         repeat' with_reducible first
          | refine s_ ?_
          | simp -implicitDefEqProofs only [wZZ, seval, g2, g5, g6, g17, g18, g7, g19, o0, o1, o2, k2_1, hz]
          | simp -implicitDefEqProofs (disch := omega) only [w64, if_neg]
         refine ⟨by ((try simp only [wN]) <;> omega), (i + 1, h', b'), by dsimp only; omega, trivial, trivial, trivial, trivial, trivial, trivial, trivial, trivial, rfl, rfl, by dsimp only; omega, rfl, k2_2, hnew k2_3 (fun e => by rw [hfit] at e; cases e), k2_4⟩
     · refine ⟨by ((try simp only [wN]) <;> omega), (i + 1, h', b'), by dsimp only; omega, trivial, trivial, trivial, trivial, trivial, trivial, trivial, trivial, rfl, rfl, by dsimp only; omega, rfl, k2_2, hnew k2_3 (fun _ => by assumption), k2_4⟩
   · have e : i = g.prods.length := by omega
     subst e
     rw [List.take_length] at k2_3
     repeat' with_reducible first
      | refine s_ ?_
      | simp -implicitDefEqProofs only [wZZ, seval, g2, g5, g6, g17, g18, g7, g19, o0, o1, o2, k2_1]
     refine ⟨by ((try simp only [wN]) <;> omega), (h', b'), ?_, trivial, trivial, trivial, trivial, trivial, trivial, rfl, rfl, k2_2, fun hb => ?_⟩
     · dsimp only
       cases b' with
       | false => have e := (k2_3 rfl).1; subst e; simp
       | true => have := k2_4 rfl; simp; omega
     · obtain ⟨e1, e2⟩ := k2_3 hb
       dsimp only
       rw [e1]; exact e2
end Go.Proofs
