/- Part of a proof that a law of the given program answers true. -/
import Derived.Test.YtpnfbnlhjdnnpaaDoorTRA
set_option linter.unusedSimpArgs false
set_option linter.unusedVariables false
set_option maxHeartbeats 4000000
namespace Go.Proofs
open Go.E
set_option maxRecDepth 4000 in
theorem yuccaref9_First {g : Grammar} (hg : GOk g) {E : Nat → Bool} (hE : IsGrow g false E) : ∃ S, IsFirst g E S ∧ Pure Tryd.prog 18 [g.V] (.sl 1 false ((ofL g.nons.length S).map intsV)) := by
 have hh := pure_ex (P := Tryd.prog) (pol := { mu := fun t => [15].contains t }) (G := fun v => ∃ S, v = .sl 1 false ((ofL g.nons.length S).map intsV) ∧ IsFirst g E S) (args := [g.V]) Tryd.func18 e18_nm e18_ok (by show 1 ≤ 66; decide) ?_
 · obtain ⟨v, ⟨S, rfl, h⟩, h2⟩ := hh
   exact ⟨S, h, h2⟩
 show ewp _ e18n51 _ _
 obtain ⟨E', hE', hnull⟩ := yuccaref9_Null hg
 obtain rfl := hE'.uniq hE
 have hnl := hg.nn2; have hpl := hg.pl2; have htk := hg.tk2
 have hb0 := fcC_0 g.nons.length
 have hcb := Cl_bol g.nons.length E'
 repeat' with_reducible first
  | refine s_ ?_
  | simp -implicitDefEqProofs only [wZZ, seval]
  | (apply callQ1 (hp := hnull); (focus exact er_cl))
  | (apply ldQ_whole)
  | (apply ldQ_cell; (exact wu_))
  | (apply boxQ_i; (exact wu_); (exact wu_))
  | (apply mkQ_T; (exact wf_); (exact wf_); (focus (unfold maxLen; first | omega | (simp only [wZ] <;> omega))))
 rw [hb0]
 refine ewp_loopN ?nx1 (fun (q : (Nat → Nat → Bool) × Bool) s => s.f 1 = ?v1_1 ∧ s.f 3 = ?v1_3 ∧ s.f 4 = ?v1_4 ∧ s.H 0 = some (MObj.own 5 [g.V] false) ∧ s.f 5 = .bool q.2 ∧ ((s.H 8 = some (MObj.own 1 (fcC g.nons.length q.1) false))) ∧ ((∀ F, ClosedF g E' F → ∀ k y, q.1 k y = true → F k y = true)) ∧ ((∀ k y, q.1 k y = true → y < 1024)) ∧ ((q.2 = false → ClosedF g E' q.1))) (fun q => 2 * cfS q.1 g.nons.length + (if q.2 = true then 1 else 0)) ((fun _ _ => false, true)) wj_ (by refine ⟨?_, ?_, ?_, ?_, ?_, wc_, (by intro F _ k y h; cases h), (by intro k y h; cases h), (by intro h; cases h)⟩ <;> first | (simp -implicitDefEqProofs only [wL, wM, wN, wX, seval, Option.some.injEq] <;> exact wt_) | rfl | exact ⟨_, rfl⟩) ?_
 intro q s hnx ⟨g1, g3, g4, o0, g5, k1_0, k1_1, k1_2, k1_3⟩
 obtain ⟨S, b⟩ := q
 dsimp only at *
 cases b with
 | false =>
   have hcl := k1_3 rfl
   repeat' with_reducible first
    | refine s_ ?_
    | simp -implicitDefEqProofs only [wZZ, seval, g1, g3, g4, g5, o0, k1_0]
   refine ⟨_, ⟨S, rfl, hcl, k1_1, k1_2⟩, Or.inr rfl, .msl 8 1 0 g.nons.length, ?_, fcC_er (ro := false) ?_⟩
   · show resV _ [.inl 2] = _
     simp [resV, resL, one, wL]
   · (simp only [wM]; (repeat first | rw [if_pos trivial] | rw [if_pos rfl] | rw [if_neg (by omega)])); exact k1_0
 | true =>
   repeat' with_reducible first
    | refine s_ ?_
    | simp -implicitDefEqProofs only [wZZ, seval, g1, g3, g4, g5, o0, k1_0]
   refine ewp_loopN ?nx2 (fun (r : Nat × (Nat → Nat → Bool) × Bool) s => s.f 1 = ?v2_1 ∧ s.f 3 = ?v2_3 ∧ s.f 4 = ?v2_4 ∧ s.H 0 = some (MObj.own 5 [g.V] false) ∧ s.f 5 = .bool r.2.2 ∧ s.f 6 = vi r.1 ∧ (r.1 ≤ g.prods.length) ∧ ((s.H 8 = some (MObj.own 1 (fcC g.nons.length r.2.1) false))) ∧ ((∀ F, ClosedF g E' F → ∀ k y, r.2.1 k y = true → F k y = true)) ∧ ((∀ k y, r.2.1 k y = true → y < 1024)) ∧ ((r.2.2 = false → r.2.1 = S ∧ ∀ p ∈ g.prods.take r.1, ∀ y, (lstF S E' p.right).1 y = true → S p.left.toNat y = true)) ∧ ((r.2.2 = true → cfS r.2.1 g.nons.length < cfS S g.nons.length))) (fun r => g.prods.length - r.1) ((0, S, false)) wj_ (by refine ⟨?_, ?_, ?_, ?_, ?_, ?_, (by first | omega | (simp; done) | assumption), (by (simp only [wM]; (repeat first | rw [if_pos trivial] | rw [if_pos rfl] | rw [if_neg (by omega)])); exact k1_0), (by exact k1_1), (by exact k1_2), (by exact fun _ => ⟨rfl, fun p hp => by simp at hp⟩), (by (intro h; cases h))⟩ <;> first | (simp -implicitDefEqProofs only [wL, wM, wN, wX, seval, Option.some.injEq, g1, g3, g4, g5, o0] <;> exact wt_) | rfl | exact ⟨_, rfl⟩) ?_
   intro r s hnx ⟨g1, g3, g4, o0, g5, g6, k2_0, k2_1, k2_2, k2_3, k2_4, k2_5⟩
   obtain ⟨i, S', b'⟩ := r
   dsimp only at *
   have hz : IntKind.i64.wrap ((i + 1 : Nat) : Int) = ((i + 1 : Nat) : Int) := wrap64 (by omega) (by omega)
   by_cases hi : i < g.prods.length
   · have hmem := List.getElem_mem hi
     obtain ⟨lf, hl1, hl2⟩ := hg.left _ hmem
     have hrt := hg.right _ hmem
     have hrl := hg.rlen _ hmem
     have hrt2 := hg.rt hmem
     have htk : g.prods.take (i + 1) = g.prods.take i ++ [g.prods[i]] := by rw [List.take_add_one, List.getElem?_eq_getElem hi]; rfl
     have hgp : g.prods[i]? = some g.prods[i] := List.getElem?_eq_getElem hi
     generalize hp : g.prods[i] = p at *
     have hpm : p ∈ g.prods := hp ▸ List.getElem_mem hi
     clear hp
     obtain ⟨pl, pr, pc, pco, pa, pat⟩ := p
     dsimp only at hl1 hrt hrl hrt2
     subst hl1
     have hsm := lstA_small (E := E') k2_3 pr (fun _ => false) (fun y h => by cases h)
     have hmon : ∀ F, ClosedF g E' F → ∀ y, (lstF S' E' pr).1 y = true → F lf y = true := fun F hF y hy => hF _ hpm y (lstA_mono (k2_2 F hF) pr _ _ (fun y h => h) y hy)
     have hdef : (lstF S' E' pr).1 = (lstF S' E' pr).1 := rfl
     generalize hA : (lstF S' E' pr).1 = A at *
     have hLl := lst_len A 1024
     have hLm : ∀ x, x ∈ lst A 1024 → 0 ≤ x ∧ x < 1024 := fun x hx => by
      obtain ⟨y, e1, e2, e3⟩ := lst_mem.1 hx; omega
     have hLA : ∀ y, A y = true → (y : Int) ∈ lst A 1024 := fun y hy => lst_mem.2 ⟨y, hsm y hy, hy, rfl⟩
     have hpin := fun k y => pot_in (a := S' lf) (A := A) (k := k) (y := y)
     have hS0 : fcC g.nons.length S' = fcC g.nons.length (updN S' lf (pot (S' lf) (lst A 1024) 0)) := by
      congr 1; funext k; unfold updN; split
      · rename_i e; subst e; funext y; simp [pot, orS, memS]
      · rfl
     generalize hL : lst A 1024 = L at *
     repeat' with_reducible first
      | refine s_ ?_
      | simp -implicitDefEqProofs only [wZZ, seval, g1, g3, g4, g5, g6, o0, k2_1, hz]
      | (refine condQ_j (fun h h_ => ?_) (fun h h_ => ?_) <;> (try simp only [wD, reduceCtorEq] at h_) <;> (try exact wb_) <;> (try simp only [h]))
      | (apply ia_slQ; (focus omega); (focus with_unfolding_all exact hgp))
      | (apply ldQ_cell; (exact wu_))
      | (apply stQ_whole; (exact wu_); (exact wu_))
     refine callQWc rfl rfl rfl ((ofE (n := g.nons.length) (nt := g.toks.length) (S := S') (E := E') (l := pr) (by omega) (by omega) hrt (by omega) (Or.inr ⟨8, rfl, by ((try simp only [wN]) <;> omega), by ((try simp only [wM]); (repeat first | rw [if_pos trivial] | rw [if_pos rfl] | rw [if_neg (by omega)])); exact k2_1⟩)).mono ?_)
     rintro v1 H1 n1 ⟨q1, ⟨c1, rfl⟩, q2⟩
     rw [hA, hL]
     try simp only [wN] at q1
     try simp only [wM, wN] at q2
     obtain ⟨d, hd⟩ : ∃ d, d = s.next + 5 + 5 := ⟨_, rfl⟩
     have o7 : H1 d = some (MObj.own 6 [V.agg [vi lf, V.sl 1 false (pr.map (V.int .i64)), vi pc, V.str pco, V.sl 1 false (pa.map (V.int .i64)), vi pat]] false) := by rw [hd, q2 _ (by omega), if_pos rfl]
     have o8 : H1 8 = some (MObj.own 1 (fcC g.nons.length S') false) := by rw [q2 8 (by omega), if_neg (by omega), if_neg (by omega)]; exact k2_1
     have o00 : H1 0 = some (MObj.own 5 [g.V] false) := by rw [q2 0 (by omega), if_neg (by omega), if_neg (by omega)]; exact o0
     generalize hP6 : MObj.own 6 [V.agg [vi lf, V.sl 1 false (pr.map (V.int .i64)), vi pc, V.str pco, V.sl 1 false (pa.map (V.int .i64)), vi pat]] false = P6 at *
     repeat' with_reducible first
      | refine s_ ?_
      | simp -implicitDefEqProofs only [wZZ, seval, g1, g3, g4, g5, g6, o0, k2_1, hz]
     refine ewp_loopN ?nx3 (fun (u : Nat × Bool) s => s.f 1 = ?v3_1 ∧ s.f 3 = ?v3_3 ∧ s.f 4 = ?v3_4 ∧ s.f 8 = ?v3_8 ∧ s.f 5 = .bool u.2 ∧ s.f 6 = vi i ∧ s.f 9 = vi u.1 ∧ (u.1 ≤ L.length) ∧ ((s.H 8 = some (MObj.own 1 (fcC g.nons.length (updN S' lf (pot (S' lf) L u.1))) false))) ∧ ((u.2 = true → b' = true ∨ ∃ y ∈ L.take u.1, S' lf y.toNat = false)) ∧ ((u.2 = false → b' = false ∧ ∀ y ∈ L.take u.1, S' lf y.toNat = true)) ∧ (s.f 7 = .ptr d 0 0 ) ∧ (s.H 0 = some (MObj.own 5 [g.V] false) ) ∧ (s.H d = some P6 )) (fun u => L.length - u.1) ((0, b')) wj_ (by refine ⟨?_, ?_, ?_, ?_, ?_, ?_, ?_, (by first | omega | (simp; done) | assumption), (by ((try simp only [wM]); (repeat first | rw [if_pos trivial] | rw [if_pos rfl] | rw [if_neg (by omega)])); rw [← hS0]; exact o8), (by exact fun h => Or.inl h), (by exact fun h => ⟨h, fun y hy => (by simp at hy)⟩), (by (try simp -implicitDefEqProofs only [wL, wM, wN, seval, g1, g3, g4, g5, g6, o0]); rw [hd]), (by (try simp -implicitDefEqProofs only [wL, wM, wN, seval, g1, g3, g4, g5, g6, o0]); exact o00), (by (try simp -implicitDefEqProofs only [wL, wM, wN, seval, g1, g3, g4, g5, g6, o0]); exact o7)⟩ <;> first | (simp -implicitDefEqProofs only [wL, wM, wN, wX, seval, Option.some.injEq, g1, g3, g4, g5, g6, o0] <;> exact wt_) | rfl | exact ⟨_, rfl⟩) ?_
     intro u s hnx ⟨g1, g3, g4, g8, g5, g6, g9, k3_0, k3_1, k3_2, k3_3, g7, o101, o102⟩
     obtain ⟨k, b3⟩ := u
     dsimp only at *
     subst hP6
     have hzk : IntKind.i64.wrap ((k + 1 : Nat) : Int) = ((k + 1 : Nat) : Int) := wrap64 (by omega) (by omega)
     by_cases hk : k < L.length
     · have hgk : L[k]? = some L[k] := List.getElem?_eq_getElem hk
       have hxm := hLm _ (List.getElem_mem hk)
       have htk3 : L.take (k + 1) = L.take k ++ [L[k]] := by rw [List.take_add_one, hgk]; rfl
       generalize L[k] = x at *
       have hps := pot_step (a := S' lf) hgk hxm.1 hxm.2
       have hlt := lst_len (pot (S' lf) L k) 1024
       have hu : updN S' lf (pot (S' lf) L k) lf = pot (S' lf) L k := by unfold updN; rw [if_pos rfl]
       have huu : updN (updN S' lf (pot (S' lf) L k)) lf (pot (S' lf) L (k + 1)) = updN S' lf (pot (S' lf) L (k + 1)) := by funext q; unfold updN; split <;> rfl
       have hhas := yuccaref0_Has (a := lst (pot (S' lf) L k) 1024) (x := x) (by omega)
       have hput := yuccaref0_Put (l := lst (pot (S' lf) L k) 1024) (x := x) (by omega)
       by_cases hin : x ∈ lst (pot (S' lf) L k) 1024
       · rw [decide_eq_true hin] at hhas
         rw [pot_same hxm.1 hxm.2 hin] at hps
         repeat' with_reducible first
          | refine s_ ?_
          | simp -implicitDefEqProofs only [wZZ, seval, g1, g3, g4, g8, g5, g6, g9, g7, o101, o102, hz, hzk]
          | (refine condQ_j (fun h h_ => ?_) (fun h h_ => ?_) <;> (try simp only [wD, reduceCtorEq] at h_) <;> (try exact wb_) <;> (try simp only [h]))
          | (apply ia_slQ; (focus omega); (focus with_unfolding_all exact hgk))
          | (rw [k3_1]; refine ldFc hl2 ?_; rw [hu])
          | (apply callQ2 (hp := hhas); (focus exact fcV_er _); (focus exact er_cl))
          | (apply ia_mslQ; (focus omega); (exact wf_))
          | (apply ldQ_cell; (exact wu_))
         refine ⟨by ((try simp only [wN]) <;> omega), (k + 1, b3), by dsimp only; omega, trivial, trivial, trivial, trivial, rfl, trivial, rfl, by dsimp only; omega, by ((try simp only [wM]); (repeat first | rw [if_pos trivial] | rw [if_pos rfl] | rw [if_neg (by omega)])); (try dsimp only); rw [hps]; exact k3_1, fun hb => ?_, fun hb => ?_, trivial, by first | exact True.intro | exact o101, by first | exact True.intro | exact o102⟩
         · refine (k3_2 hb).imp id fun ⟨y, h1, h2⟩ => ⟨y, ?_, h2⟩
           dsimp only
           rw [htk3]; exact List.mem_append_left _ h1
         · obtain ⟨h1, h2⟩ := k3_3 hb
           refine ⟨h1, fun y hy => ?_⟩
           dsimp only at hy
           rw [htk3] at hy
           rcases List.mem_append.1 hy with hy | hy
           · exact h2 y hy
           · rw [List.mem_singleton] at hy; subst hy
             obtain ⟨z, e1, e2, e3⟩ := lst_mem.1 hin
             subst e3
             rw [Int.toNat_natCast]
             unfold pot orS at e2
             rw [Bool.or_eq_true] at e2
             rcases e2 with e2 | e2
             · exact e2
             · simp only [memS, Bool.and_eq_true, decide_eq_true_eq] at e2
               exact h2 _ e2.2
       · rw [decide_eq_false hin] at hhas
         have hnx : S' lf x.toNat = false := by
          cases h : S' lf x.toNat with
          | false => rfl
          | true => exact absurd (lst_mem.2 ⟨x.toNat, by omega, by unfold pot orS; rw [h]; rfl, by omega⟩) hin
         have hpl : putL (lst (pot (S' lf) L k) 1024) x = lst (pot (S' lf) L (k + 1)) 1024 := by rw [put_lst hxm.1 hxm.2, hps]
         repeat' with_reducible first
          | refine s_ ?_
          | simp -implicitDefEqProofs only [wZZ, seval, g1, g3, g4, g8, g5, g6, g9, g7, o101, o102, hz, hzk]
          | (refine condQ_j (fun h h_ => ?_) (fun h h_ => ?_) <;> (try simp only [wD, reduceCtorEq] at h_) <;> (try exact wb_) <;> (try simp only [h]))
          | (apply ia_slQ; (focus omega); (focus with_unfolding_all exact hgk))
          | (rw [k3_1]; refine ldFc hl2 ?_; rw [hu])
          | (apply callQ2 (hp := hhas); (focus exact fcV_er _); (focus exact er_cl))
          | (apply callQ2 (hp := hput); (focus exact fcV_er _); (focus exact er_cl))
          | (rw [k3_1]; refine stFc hl2 hpl (putL_ne _ _) ?_)
          | (apply ia_mslQ; (focus omega); (exact wf_))
          | (apply ldQ_cell; (exact wu_))
          | simp -implicitDefEqProofs (disch := omega) only [w64, if_neg]
         refine ⟨by ((try simp only [wN]) <;> omega), (k + 1, true), by dsimp only; omega, trivial, trivial, trivial, trivial, rfl, trivial, rfl, by dsimp only; omega, by dsimp only; rw [huu], fun hb => Or.inr ⟨x, ?_, hnx⟩, fun hb => (by cases hb), trivial, trivial, trivial⟩
         dsimp only
         rw [htk3]; exact List.mem_append_right _ (List.mem_singleton.2 rfl)
     · have e : k = L.length := by omega
       subst e
       rw [List.take_length] at k3_2 k3_3
       have hup := pot_up (a := S' lf) (L := L) (k := L.length) S' lf g.nons.length rfl hl2
       rw [List.take_length] at hup
       repeat' with_reducible first
        | refine s_ ?_
        | simp -implicitDefEqProofs only [wZZ, seval, g1, g3, g4, g8, g5, g6, g9, g7, o101, o102, hz]
       refine ⟨by ((try simp only [wN]) <;> omega), (i + 1, updN S' lf (pot (S' lf) L L.length), b3), by dsimp only; omega, trivial, trivial, trivial, trivial, rfl, rfl, by dsimp only; omega, k3_1, fun F hF q y hq => ?_, fun q y hq => ?_, fun hb => ?_, fun hb => ?_⟩
       · dsimp only at hq
         unfold updN at hq
         split at hq
         · rename_i e; subst e
           exact (hpin _ y hq).elim (k2_2 F hF _ y) (hmon F hF y)
         · exact k2_2 F hF q y hq
       · dsimp only at hq
         unfold updN at hq
         split at hq
         · exact pot_lt (k2_3 lf) hq
         · exact k2_3 q y hq
       · obtain ⟨h1, h2⟩ := k3_3 hb
         obtain ⟨e1, e2⟩ := k2_4 h1
         have hin : ∀ y ∈ L, 0 ≤ y → y < 1024 → S' lf y.toNat = true := fun y hy _ _ => h2 y hy
         have hs : updN S' lf (pot (S' lf) L L.length) = S' := by
          funext q y
          unfold updN; split
          · rename_i e; subst e
            unfold pot orS
            rw [List.take_length]
            cases hm : memS L y with
            | false => simp
            | true =>
              simp only [memS, Bool.and_eq_true, decide_eq_true_eq] at hm
              have := h2 _ hm.2
              rw [Int.toNat_natCast] at this
              rw [this]; rfl
          · rfl
         dsimp only
         rw [hs]
         refine ⟨e1, fun p hp y hy => ?_⟩
         rw [htk] at hp
         rcases List.mem_append.1 hp with hp | hp
         · exact e2 p hp y hy
         · rw [List.mem_singleton] at hp; subst hp
           subst e1
           dsimp only at hy ⊢
           rw [hA] at hy
           have := h2 _ (hLA y hy)
           rw [Int.toNat_natCast] at this ⊢
           exact this
       · dsimp only
         rcases hup with ⟨e, hall2⟩ | hlt
         · rw [e]
           rcases k3_2 hb with h | ⟨y, h1, h2⟩
           · exact k2_5 h
           · have hm := hLm y h1
             rw [hall2 y h1 hm.1 hm.2] at h2; cases h2
         · cases b' with
           | false => have e := (k2_4 rfl).1; subst e; exact hlt
           | true => have := k2_5 rfl; omega
   · have e : i = g.prods.length := by omega
     subst e
     rw [List.take_length] at k2_4
     skip
     repeat' with_reducible first
      | refine s_ ?_
      | simp -implicitDefEqProofs only [wZZ, seval, g1, g3, g4, g5, g6, o0, k2_1]
      | (apply ldQ_cell; (exact wu_))
     refine ⟨by ((try simp only [wN]) <;> omega), (S', b'), ?_, trivial, trivial, trivial, trivial, rfl, rfl, k2_2, k2_3, fun hb => ?_⟩
     · dsimp only
       cases b' with
       | false => have e := (k2_4 rfl).1; subst e; simp
       | true => have := k2_5 rfl; simp; omega
     · obtain ⟨e1, e2⟩ := k2_4 hb
       dsimp only
       rw [e1]; exact e2
end Go.Proofs
