/- Part of a proof that a law of the given program answers true. -/
import Derived.Test.YtpnfbnlhjdnnpaaDoorTLB
import Derived.Test.YtpnfbnlhjdnnpaaDoorTJB
import Derived.Test.YtpnfbnlhjdnnpaaDoorTKA
set_option linter.unusedSimpArgs false
set_option linter.unusedVariables false
set_option maxHeartbeats 4000000
namespace Go.Proofs
open Go.E

theorem yuccaref0_EqLists {a b : List (List Int)} (ha : a.length ≤ 1000000) (hb : b.length ≤ 1000000) (ha2 : ∀ l ∈ a, l.length ≤ 1000000) (hb2 : ∀ l ∈ b, l.length ≤ 1000000) : Pure Tryd.prog 16 [.sl 1 false (a.map intsV), .sl 1 false (b.map intsV)] (.bool (decide (a = b))) := by
 refine pure_intro Tryd.func16 e16_nm e16_ok (by show 2 ≤ 27; decide) ?_
 show ewp _ e16n26 _ _
 by_cases hl : a.length = b.length
 · repeat' with_reducible first
    | refine s_ ?_
    | simp -implicitDefEqProofs only [wZZ, seval]
    | (refine condQ_j (fun h h_ => ?_) (fun h h_ => ?_) <;> (try simp only [wD, reduceCtorEq] at h_) <;> (try exact wb_) <;> (try simp only [h]))
   refine ewp_loopN ?nx1 (fun (k : Nat) s => s.f 0 = ?v1_0 ∧ s.f 1 = ?v1_1 ∧ s.f 5 = vi k ∧ (k ≤ a.length) ∧ (∀ i, i < k → a[i]? = b[i]?)) (fun k => a.length - k) (0) wj_ (by refine ⟨?_, ?_, ?_, (by first | omega | (simp; done) | assumption), (by first | omega | (simp; done) | assumption)⟩ <;> first | (simp -implicitDefEqProofs only [wL, wM, wN, wX, seval, Option.some.injEq] <;> exact wt_) | rfl | exact ⟨_, rfl⟩) ?_
   intro k s hnx ⟨g0, g1, g5, k1_0, k1_1⟩
   have hz : IntKind.i64.wrap ((k + 1 : Nat) : Int) = ((k + 1 : Nat) : Int) := wrap64 (by omega) (by omega)
   by_cases hk : k < a.length
   · have hk2 : k < b.length := by omega
     have h1 : a[k]? = some a[k] := List.getElem?_eq_getElem hk
     have h2 : b[k]? = some b[k] := List.getElem?_eq_getElem hk2
     have heq := yuccaref0_EqInts (a := a[k]) (b := b[k]) (by have := ha2 _ (List.getElem_mem hk); omega) (by have := hb2 _ (List.getElem_mem hk2); omega)
     by_cases he : a[k] = b[k]
     · rw [decide_eq_true he] at heq
       repeat' with_reducible first
        | refine s_ ?_
        | simp -implicitDefEqProofs only [wZZ, seval, g0, g1, g5, hz]
        | (refine condQ_j (fun h h_ => ?_) (fun h h_ => ?_) <;> (try simp only [wD, reduceCtorEq] at h_) <;> (try exact wb_) <;> (try simp only [h]))
        | (apply ia_slQ; (focus omega); (focus with_unfolding_all exact h1))
        | (apply ia_slQ; (focus omega); (focus with_unfolding_all exact h2))
        | (apply callQ2 (hp := heq); (focus exact er_cl); (focus exact er_cl))
       refine ⟨wk_, k + 1, (by omega), ?_⟩
       refine ⟨?_, ?_, ?_, ?_, ?_⟩
       iterate 3 (focus (first | (simp -implicitDefEqProofs only [wL, wM, wN, wX, seval, Option.some.injEq, g0, g1, g5] <;> exact wt_) | rfl | exact ⟨_, rfl⟩))
       all_goals try omega
       exact get_ext k1_1 hk hk2 he
     · rw [decide_eq_false he] at heq
       have hne : ¬ a = b := fun e => by subst e; exact he rfl
       rw [decide_eq_false hne]
       repeat' with_reducible first
        | refine s_ ?_
        | simp -implicitDefEqProofs only [wZZ, seval, g0, g1, g5, hz]
        | (refine condQ_j (fun h h_ => ?_) (fun h h_ => ?_) <;> (try simp only [wD, reduceCtorEq] at h_) <;> (try exact wb_) <;> (try simp only [h]))
        | (apply ia_slQ; (focus omega); (focus with_unfolding_all exact h1))
        | (apply ia_slQ; (focus omega); (focus with_unfolding_all exact h2))
        | (apply callQ2 (hp := heq); (focus exact er_cl); (focus exact er_cl))
       refine post1 rfl (Or.inr rfl) ?_
       simp -implicitDefEqProofs only [wL, seval, g0, g1, g5]
       first | refine er_bool ?_ | refine er_int ?_ | refine er_str ?_ | refine er_sl_eq ?_ | refine er_asl_eq ?_
       try (with_reducible rfl)
   · have e : a = b := eq_of_get (k := k) k1_1 (by omega) (by omega)
     rw [decide_eq_true e]
     repeat' with_reducible first
      | refine s_ ?_
      | simp -implicitDefEqProofs only [wZZ, seval, g0, g1, g5]
      | (refine condQ_j (fun h h_ => ?_) (fun h h_ => ?_) <;> (try simp only [wD, reduceCtorEq] at h_) <;> (try exact wb_) <;> (try simp only [h]))
     refine post1 rfl (Or.inr rfl) ?_
     simp -implicitDefEqProofs only [wL, seval, g0, g1, g5]
     first | refine er_bool ?_ | refine er_int ?_ | refine er_str ?_ | refine er_sl_eq ?_ | refine er_asl_eq ?_
     try (with_reducible rfl)
 · have hne : ¬ a = b := fun e => hl (by rw [e])
   rw [decide_eq_false hne]
   skip
   repeat' with_reducible first
    | refine s_ ?_
    | simp -implicitDefEqProofs only [wZZ, seval]
    | (refine condQ_j (fun h h_ => ?_) (fun h h_ => ?_) <;> (try simp only [wD, reduceCtorEq] at h_) <;> (try exact wb_) <;> (try simp only [h]))
   refine post1 rfl (Or.inr rfl) ?_
   simp -implicitDefEqProofs only [wL, seval]
   first | refine er_bool ?_ | refine er_int ?_ | refine er_str ?_ | refine er_sl_eq ?_ | refine er_asl_eq ?_
   try (with_reducible rfl)
def ofL (n : Nat) (S : Nat → Nat → Bool) : List (List Int) := (List.range n).map fun k => lst (S k) 1024
theorem ofL_len (n : Nat) (S : Nat → Nat → Bool) : (ofL n S).length = n := by simp [ofL]
def lsC (n i : Nat) (S : Nat → Nat → Bool) : List V := (List.range n).map fun k => if k < i then intsV (lst (S k) 1024) else .sl 1 true []
theorem lsC_len (n i : Nat) (S : Nat → Nat → Bool) : (lsC n i S).length = n := by simp [lsC]
theorem lsC_0 (n : Nat) (S : Nat → Nat → Bool) : List.replicate n (V.sl 1 true []) = lsC n 0 S := by
 refine List.ext_getElem? fun i => ?_
 by_cases h : i < n
 · simp [lsC, h]
 · rw [List.getElem?_eq_none (by simp; omega), List.getElem?_eq_none (by rw [lsC_len]; omega)]
theorem lsC_n (n : Nat) (S : Nat → Nat → Bool) : lsC n n S = (ofL n S).map intsV := by
 unfold lsC ofL
 rw [List.map_map]
 refine List.map_congr_left fun k hk => ?_
 rw [if_pos (List.mem_range.1 hk)]; rfl
theorem stLs {K : St → Prop} {s : St} {nn i id : Nat} {S : Nat → Nat → Bool} (h : i < nn) (hk : K (s.setO id (some (.own 1 (lsC nn (i + 1) S) false)))) : onS (stQ s (some (.own 1 (lsC nn i S) false)) 1 id i 0 (intsV (lst (S i) 1024))) K := by
 have hg : (lsC nn i S)[i]? = some (.sl 1 true []) := by simp [lsC, h]
 have hs : (lsC nn i S).set i (intsV (lst (S i) 1024)) = lsC nn (i + 1) S := by
  refine List.ext_getElem? fun k => ?_
  rw [List.getElem?_set, lsC_len]
  by_cases hk : k < nn
  · by_cases e : i = k
    · subst e; simp [lsC, hk]
    · rw [if_neg e]
      simp only [lsC, List.getElem?_map, List.getElem?_range hk, Option.map_some]
      by_cases e2 : k < i
      · rw [if_pos e2, if_pos (by omega)]
      · rw [if_neg e2, if_neg (by omega)]
  · rw [List.getElem?_eq_none (by rw [lsC_len]; omega), List.getElem?_eq_none (by rw [lsC_len]; omega)]
    split
    · rename_i e; exact absurd (e ▸ h) hk
    · rfl
 have e : stQ s (some (.own 1 (lsC nn i S) false)) 1 id i 0 (intsV (lst (S i) 1024)) = some (s.setO id (some (.own 1 (lsC nn (i + 1) S) false))) := by
  rw [← hs]
  simp [stQ, hg, V.cells, V.okCell, storeE, V.isAgg]
 rw [e]; exact hk
theorem first_Of {g : Grammar} {E : Nat → Bool} {S : Nat → Nat → Bool} (hg : GOk g) (hp : Pure Tryd.prog 44 [g.V, .bool false] (.sl 1 false (bolC g.nons.length E))) (hS : IsFirst g E S) : Pure Tryd.prog 17 [g.V] (.sl 1 false ((ofL g.nons.length S).map intsV)) := by
 refine pure_intro Tryd.func17 e17_nm e17_ok (by show 1 ≤ 30; decide) ?_
 show ewp _ e17n22 _ _
 have hnl := hg.nn2
 repeat' with_reducible first
  | refine ewp_reg_seq ?_
  | simp -implicitDefEqProofs only [wZZ, seval]
  | (apply ldQ_whole)
  | (apply boxQ_i; (exact wu_); (exact wu_))
 refine callQWc rfl rfl rfl ((newE hg hp).mono ?_)
 rintro v1 H1 n1 ⟨q1, ⟨m, si, S1, rfl, hm, hs, hF, b1, b2, b3, b4, b5⟩, q4⟩
 have eS := hF.uniq hS
 subst eS
 have cl := cellsW_len
 (try simp only [wN] at q1 b1 b3)
 have h0 := q4 0 wh_
 simp only [wM] at h0
 (repeat first | rw [if_pos trivial] at h0 | rw [if_pos rfl] at h0 | rw [if_neg (by omega)] at h0)
 have hl0 := lsC_0 g.nons.length S1
 repeat' with_reducible first
  | refine s_ ?_
  | simp -implicitDefEqProofs only [wZZ, seval, h0, hm]
  | (apply ldQ_cell; (exact wu_))
  | (apply mkQ_T; (exact wf_); (exact wf_); (focus (unfold maxLen; first | omega | (simp only [wZ] <;> omega))))
  | simp -implicitDefEqProofs (disch := omega) only [w64, if_neg]
 rw [hl0]
 refine ewp_loopN ?nx1 (fun (i : Nat) s => s.f 4 = ?v1_4 ∧ s.f 16 = ?v1_16 ∧ s.f 17 = ?v1_17 ∧ s.f 18 = vi i ∧ (i ≤ g.nons.length) ∧ ((s.H (n1 + 3) = some (MObj.own 1 (lsC g.nons.length i S1) false))) ∧ ((s.H si = some (MObj.own 16 (setsC g.nons.length S1) false)))) (fun i => g.nons.length - i) (0) wj_ (by refine ⟨?_, ?_, ?_, ?_, (by first | omega | (simp; done) | assumption), wc_, (by (simp only [wM]; (repeat first | rw [if_pos trivial] | rw [if_pos rfl] | rw [if_neg (by omega)])); exact hs)⟩ <;> first | (simp -implicitDefEqProofs only [wL, wM, wN, wX, seval, Option.some.injEq] <;> exact wt_) | rfl | exact ⟨_, rfl⟩) ?_
 intro i s hnx ⟨g4, g16, g17, g18, k1_0, k1_1, k1_2⟩
 have hz : IntKind.i64.wrap ((i + 1 : Nat) : Int) = ((i + 1 : Nat) : Int) := wrap64 (by omega) (by omega)
 by_cases hi : i < g.nons.length
 · have hsl := bits_Set_List (m := S1 i)
   repeat' with_reducible first
    | refine s_ ?_
    | simp -implicitDefEqProofs only [wZZ, seval, g4, g16, g17, g18, k1_1, k1_2, hz]
    | (refine condQ_j (fun h h_ => ?_) (fun h h_ => ?_) <;> (try simp only [wD, reduceCtorEq] at h_) <;> (try exact wb_) <;> (try simp only [h]))
    | (refine ldS hi ?_)
    | (apply ldQ_whole)
    | (apply stQ_whole; (exact wu_); (focus exact cl _))
    | (apply callQ1 (hp := hsl); (focus exact er_cl))
    | (refine stLs hi ?_)
    | (apply ia_mslQ; (focus omega); (exact wf_))
    | simp -implicitDefEqProofs (disch := omega) only [w64, if_neg]
   exact ⟨by ((try simp only [wN]) <;> omega), i + 1, by omega, trivial, trivial, trivial, rfl, by omega, rfl, trivial⟩
 · have e : i = g.nons.length := by omega
   subst e
   repeat' with_reducible first
    | refine s_ ?_
    | simp -implicitDefEqProofs only [wZZ, seval, g4, g16, g17, g18, k1_1]
   refine post1 (t := 2) rfl (Or.inr rfl) ?_
   (simp -implicitDefEqProofs only [wL, seval])
   have h9 : Cls' (lsC g.nons.length g.nons.length S1) := by rw [lsC_n]; exact inferInstance
   rw [← lsC_n]
   exact er_msl_eq (ro := false) (by (simp only [wM]; (repeat first | rw [if_pos trivial] | rw [if_pos rfl] | rw [if_neg (by omega)])); exact k1_1) (by rw [lsC_len]; omega) (by rw [List.drop_zero]; exact List.take_of_length_le (by rw [lsC_len]; omega))

set_option maxRecDepth 20000
@[reducible] def srcW : Source := { rules := [{ left := [97], alts := [{ parts := [{ sym := { name := [98] } }, { sym := { name := [120], lit := true } }] }] }, { left := [98], alts := [{}, { parts := [{ sym := { name := [121], lit := true } }] }] }] }
def lrP (g : Grammar) : List (Int × List Int) := g.prods.map fun p => (p.left, p.right)
theorem closedG_lr {g : Grammar} {token : Bool} {E : Nat → Bool} : ClosedG g token E ↔ ∀ q ∈ lrP g, fitsB token E q.2 = true → E q.1.toNat = true := by
 unfold ClosedG lrP
 simp only [List.mem_map, forall_exists_index, and_imp, forall_apply_eq_imp_iff₂]
theorem closedF_lr {g : Grammar} {E : Nat → Bool} {S : Nat → Nat → Bool} : ClosedF g E S ↔ ∀ q ∈ lrP g, ∀ y, (lstF S E q.2).1 y = true → S q.1.toNat y = true := by
 unfold ClosedF lrP
 simp only [List.mem_map, forall_exists_index, and_imp, forall_apply_eq_imp_iff₂]
theorem lrW : lrP (gramS srcW) = [(0, [1001]), (1, [1002, 3]), (2, []), (2, [4])] := by decide +kernel
theorem okW : gramB srcW = true := by decide +kernel
theorem lenW : (gramS srcW).toks.length = 5 ∧ (gramS srcW).nons.length = 3 := by decide +kernel
theorem smallW : Small srcW := by
 refine ⟨by simp, fun d h => ?_, fun d h => ?_, fun d h => ?_, by simp, ?_, ?_, ?_, ?_⟩
 · cases h
 · cases h
 · cases h
 · decide
 · decide
 · decide
 · decide
theorem fitsW : srcW.Fits := by
 refine ⟨by simp, by simp, by simp, fun d h => ?_, by simp, fun r hr => ?_⟩
 · cases h
 · simp only [List.mem_cons, List.not_mem_nil, or_false] at hr
   rcases hr with rfl | rfl
   · refine ⟨by simp, by simp, fun a ha => ?_⟩
     simp only [List.mem_cons, List.not_mem_nil, or_false] at ha
     subst ha
     refine ⟨by simp, fun p hp => ?_, by simp⟩
     simp only [List.mem_cons, List.not_mem_nil, or_false] at hp
     rcases hp with rfl | rfl <;> exact ⟨by simp, by simp⟩
   · refine ⟨by simp, by simp, fun a ha => ?_⟩
     simp only [List.mem_cons, List.not_mem_nil, or_false] at ha
     rcases ha with rfl | rfl
     · exact ⟨by simp, fun p hp => (by cases hp), by simp⟩
     · refine ⟨by simp, fun p hp => ?_, by simp⟩
       simp only [List.mem_cons, List.not_mem_nil, or_false] at hp
       subst hp; exact ⟨by simp, by simp⟩
def EW (k : Nat) : Bool := k == 2
def SW (k y : Nat) : Bool := (decide (k ≤ 1) && (y == 3 || y == 4)) || (k == 2 && y == 4)
theorem growW : IsGrow (gramS srcW) false EW := by
 refine ⟨closedG_lr.2 (by rw [lrW]; decide), fun F hF k hk => ?_⟩
 rw [closedG_lr, lrW] at hF
 have h2 : F 2 = true := hF (2, []) (by simp) rfl
 have : k = 2 := by simpa [EW] using hk
 subst this; exact h2
theorem firstW : IsFirst (gramS srcW) EW SW := by
 refine ⟨closedF_lr.2 ?_, fun F hF k y hk => ?_, fun k y hk => ?_⟩
 · rw [lrW]
   intro q hq y hy
   simp only [List.mem_cons, List.not_mem_nil, or_false] at hq
   rcases hq with rfl | rfl | rfl | rfl <;> simp [lstA, orS, memS, EW, SW] at hy ⊢ <;> omega
 · rw [closedF_lr, lrW] at hF
   have h24 : F 2 4 = true := hF (2, [4]) (by simp) 4 (by simp [lstA, orS, memS])
   have h14 : F 1 4 = true := hF (1, [1002, 3]) (by simp) 4 (by simp [lstA, orS, memS, EW, h24])
   have h13 : F 1 3 = true := hF (1, [1002, 3]) (by simp) 3 (by simp [lstA, orS, memS, EW])
   have h04 : F 0 4 = true := hF (0, [1001]) (by simp) 4 (by simp [lstA, orS, memS, EW, h14])
   have h03 : F 0 3 = true := hF (0, [1001]) (by simp) 3 (by simp [lstA, orS, memS, EW, h13])
   simp [SW] at hk
   have hh : (k = 0 ∨ k = 1) ∧ (y = 3 ∨ y = 4) ∨ k = 2 ∧ y = 4 := by omega
   rcases hh with ⟨rfl | rfl, rfl | rfl⟩ | ⟨rfl, rfl⟩ <;> assumption
 · simp [SW] at hk; omega
theorem vgW : Pure Tryd.prog 44 [(gramS srcW).V, .bool false] (.sl 1 false (bolC (gramS srcW).nons.length EW)) := by
 obtain ⟨E, h, hp⟩ := vain_grow (token := false) (gok okW)
 rw [growW.uniq h]; exact hp
theorem fl1 : firstL 5 3 SW EW [1002, 1002] = ([4], true) := by decide +kernel
theorem fl2 : firstL 5 3 SW EW [77] = ([], false) := by decide +kernel
theorem fl3 : firstL 5 3 SW EW [] = ([], true) := by decide +kernel
theorem fo1 : ofL 3 SW = [[3, 4], [3, 4], [4]] := by decide +kernel

theorem listW {l r : List Int} {b : Bool} (h : firstL 5 3 SW EW l = (r, b)) (hl : l.length ≤ 1000000) : Pure Tryd.prog 13 [(gramS srcW).V, .sl 1 false (l.map (V.int .i64))] (.tup [.sl 1 false (r.map (V.int .i64)), .bool b]) := by
 have := first_List (l := l) (gok okW) vgW firstW hl
 rw [lenW.1, lenW.2, h] at this
 exact this
theorem ofW : Pure Tryd.prog 17 [(gramS srcW).V] (.sl 1 false ([[3, 4], [3, 4], [4]].map intsV)) := by
 have := first_Of (gok okW) vgW firstW
 rw [lenW.2, fo1] at this
 exact this
theorem gramW : Pure Tryd.prog 11 [srcW.V] (.tup [(gramS srcW).V, .bool true]) := by
 have := yuccaref16_Grammar fitsW (fun _ => smallW)
 rw [okW] at this
 exact this
theorem erW {H : Nat → Option MObj} : Er false H (.agg [.str [], .sl 4 true [], .sl 3 true [.agg [.str [97], .sl 6 true [.agg [.sl 6 true [.agg [.str [98], .bool false, vi 0, vi 0, .str [], vi 0], .agg [.str [120], .bool true, vi 0, vi 0, .str [], vi 0]], .str [], .bool false, vi 0, vi 0, vi 0]], vi 0], .agg [.str [98], .sl 6 true [.agg [.sl 6 true [], .str [], .bool false, vi 0, vi 0, vi 0], .agg [.sl 6 true [.agg [.str [121], .bool true, vi 0, vi 0, .str [], vi 0]], .str [], .bool false, vi 0, vi 0, vi 0]], vi 0]], .str []]) srcW.V := by
 refine ErL.agg (.cons (.str _) (.cons (ErL.sl .nil) (.cons (ErL.sl ?_) (.cons (.str _) .nil))))
 refine .cons (ErL.agg (.cons (.str _) (.cons (ErL.sl ?_) (.cons (.int _ _) .nil)))) (.cons (ErL.agg (.cons (.str _) (.cons (ErL.sl ?_) (.cons (.int _ _) .nil)))) .nil)
 · refine .cons (ErL.agg (.cons (ErL.sl ?_) (.cons (.str _) (.cons (.bool _) (.cons (.int _ _) (.cons (.int _ _) (.cons (.int _ _) .nil))))))) .nil
   exact .cons (ErL.agg (.cons (.str _) (.cons (.bool _) (.cons (.int _ _) (.cons (.int _ _) (.cons (.str _) (.cons (.int _ _) .nil))))))) (.cons (ErL.agg (.cons (.str _) (.cons (.bool _) (.cons (.int _ _) (.cons (.int _ _) (.cons (.str _) (.cons (.int _ _) .nil))))))) .nil)
 · refine .cons (ErL.agg (.cons (ErL.sl .nil) (.cons (.str _) (.cons (.bool _) (.cons (.int _ _) (.cons (.int _ _) (.cons (.int _ _) .nil))))))) (.cons (ErL.agg (.cons (ErL.sl ?_) (.cons (.str _) (.cons (.bool _) (.cons (.int _ _) (.cons (.int _ _) (.cons (.int _ _) .nil))))))) .nil)
   exact .cons (ErL.agg (.cons (.str _) (.cons (.bool _) (.cons (.int _ _) (.cons (.int _ _) (.cons (.str _) (.cons (.int _ _) .nil))))))) .nil
theorem erO1 {H : Nat → Option MObj} : Er false H (.sl 1 false [intsV [3, 4], intsV [3, 4], intsV [4]]) (.sl 1 false ([[3, 4], [3, 4], [4]].map intsV)) := er_cl
theorem erO2 {H : Nat → Option MObj} : Er false H (.sl 1 true [.sl 1 true [vi 3, vi 4], .sl 1 true [vi 3, vi 4], .sl 1 true [vi 4]]) (.sl 1 false ([[3, 4], [3, 4], [4]].map intsV)) :=
 ErL.sl (.cons (er_ints (l := [3, 4])) (.cons (er_ints (l := [3, 4])) (.cons (er_ints (l := [4])) .nil)))
theorem yuccalaw12_wakes   : Pure Tryd.prog 8 [] (.bool true) := by
 refine pure_intro Tryd.func8 e8_nm e8_ok (by show 0 ≤ 81; decide) ?_
 show ewp _ e8n13 _ _
 have hgr := gramW; have ho := ofW
 have h1 := listW fl1 (by simp); have h2 := listW fl2 (by simp); have h3 := listW fl3 (by simp)
 have heq := yuccaref0_EqLists (a := [[3, 4], [3, 4], [4]]) (b := [[3, 4], [3, 4], [4]]) (by simp) (by simp) (by simp) (by simp)
 have hei := yuccaref0_EqInts (a := [4]) (b := [4]) (by simp) (by simp)
 rw [decide_eq_true rfl] at heq hei
 generalize gramS srcW = g at *
 repeat' with_reducible first
  | refine s_ ?_
  | simp -implicitDefEqProofs only [wZZ, seval]
  | (apply callQ1 (hp := hgr); (focus (with_unfolding_all exact erW)))
  | (apply callQ2 (hp := h1); (focus exact er_cl); (focus (with_unfolding_all first | exact er_ints | exact er_sl)))
  | (apply callQ2 (hp := h2); (focus exact er_cl); (focus (with_unfolding_all first | exact er_ints | exact er_sl)))
  | (apply callQ2 (hp := h3); (focus exact er_cl); (focus (with_unfolding_all first | exact er_ints | exact er_sl)))
  | (apply callQ1 (hp := ho); (focus exact er_cl))
  | (apply callQ2 (hp := heq); (focus (with_unfolding_all exact erO1)); (focus (with_unfolding_all exact erO2)))
  | (apply callQ2 (hp := hei); (focus (with_unfolding_all first | exact er_ints | exact er_cl | exact er_sl)); (focus (with_unfolding_all first | exact er_ints | exact er_sl)))
  | (apply fil_part; (exact wu_); (exact wu_); (exact wu_); (focus ((try simp -implicitDefEqProofs only [wY]); rfl)))
  | (apply bld_nil)
  | (apply bld_part; (exact wu_); (exact wu_); (exact wu_); (focus ((try simp -implicitDefEqProofs only [wE, Nat.reduceAdd]); rfl)))
  | (apply ldQ_whole)
  | (apply stQ_whole; (exact wu_); (exact wu_))
 all_goals refine post1 rfl (Or.inr rfl) ?_
 all_goals (try simp -implicitDefEqProofs only [wL, seval])
 all_goals (first | refine er_bool ?_ | refine er_int ?_ | refine er_str ?_ | refine er_sl_eq ?_ | refine er_asl_eq ?_)
 all_goals (try (with_reducible rfl))

theorem foldPut (bs : List Int) : ∀ (l : List Int), Rise l → Rise (bs.foldl putL l) ∧ ∀ x, x ∈ bs.foldl putL l ↔ x ∈ l ∨ x ∈ bs := by
 induction bs with
 | nil => intro l h; exact ⟨h, fun x => by simp⟩
 | cons b r ih =>
   intro l h
   obtain ⟨h1, h2⟩ := ih (putL l b) (putL_rise h)
   refine ⟨h1, fun x => ?_⟩
   rw [List.foldl_cons, h2, putL_mem, List.mem_cons, or_assoc]
theorem foldPut_len (bs : List Int) : ∀ (l : List Int), (bs.foldl putL l).length ≤ l.length + bs.length := by
 induction bs with
 | nil => intro l; simp
 | cons b r ih => intro l; have := ih (putL l b); have := putL_len l b; rw [List.foldl_cons, List.length_cons]; omega
theorem foldPut_lst (A B : Nat → Bool) : (lst B 1024).foldl putL (lst A 1024) = lst (fun y => A y || B y) 1024 := by
 obtain ⟨h1, h2⟩ := foldPut (lst B 1024) (lst A 1024) (lst_rise A 1024)
 refine rise_ext h1 (lst_rise _ _) fun x => ?_
 rw [h2, lst_mem, lst_mem, lst_mem]
 constructor
 · rintro (⟨y, a, b, c⟩ | ⟨y, a, b, c⟩)
   · exact ⟨y, a, by simp [b], c⟩
   · exact ⟨y, a, by simp [b], c⟩
 · rintro ⟨y, a, b, c⟩
   rw [Bool.or_eq_true] at b
   exact b.imp (fun b => ⟨y, a, b, c⟩) (fun b => ⟨y, a, b, c⟩)
theorem firstL_len (nt nn : Nat) (S : Nat → Nat → Bool) (E : Nat → Bool) (l : List Int) : (firstL nt nn S E l).1.length ≤ 1024 := by
 unfold firstL; split
 · exact lst_len _ _
 · simp
end Go.Proofs
