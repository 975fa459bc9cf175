/- Part of a proof that a law of the given program answers true. -/
import Derived.Test.YtpnfbnlhjdnnpaaWPF
import Derived.Test.YtpnfbnlhjdnnpaaWPC
set_option linter.unusedSimpArgs false
set_option linter.unusedVariables false
set_option maxHeartbeats 4000000
namespace Go.Proofs
open Go.E
abbrev nonM (M : Mk) (x : Non) : Mk := { M with nons := M.nons ++ [x] }
theorem flat_str (s : List UInt8) : Flat (.str s) := .str s
theorem flat_non (x : Non) : Flat (Non.V x) := .agg _ (fun c hc => by
 simp at hc; rcases hc with rfl | rfl <;> exact .str _)
theorem OfAt.non {s s' : St} {m : Nat} {src : Source} {ti gi id : Nat} {vN vP vT vL : V} {M : Mk} {x : Non} (h : OfAt s m src ti gi vN vP vT vL M) (hN : Gr s.H s.next 2 (M.nons.map Non.V) vN)
 (f1 : s'.f 1 = s.f 1) (f2 : s'.f 2 = s.f 2) (f6 : s'.f 6 = s.f 6) (hn : s.next ≤ s'.next) (hid : s.next ≤ id) (hid2 : id < s'.next)
 (hm : s'.H m = some (.own 13 [mkC ti gi (.asl id (M.nons.length + 1) 2 ((M.nons ++ [x]).map Non.V)) vP vT vL (nonM M x)] false)) (ht : s'.H id = some (.tok (M.nons.length + 1))) (hH : ∀ j, j < s.next → j ≠ m → gid vN ≠ some j → s'.H j = s.H j) :
 OfAt s' m src ti gi (.asl id (M.nons.length + 1) 2 ((M.nons ++ [x]).map Non.V)) vP vT vL (nonM M x) ∧ Gr s'.H s'.next 2 ((nonM M x).nons.map Non.V) (.asl id (M.nons.length + 1) 2 ((M.nons ++ [x]).map Non.V)) := by
 have hM := h.at_; have lm := hM.lm; have lt := hM.lt; have lg := hM.lg
 obtain ⟨n1, n2, n3⟩ := hM.mt
 obtain ⟨c1, c2, c3⟩ := hM.nt
 refine ⟨h.upd ⟨hm, by rw [hH ti lt n1 (hN.ne c2)]; exact hM.ht, by rw [hH gi lg n2 (hN.ne c3)]; exact hM.hg, er_asl, hM.eP, hM.eT, hM.eL, by omega, by omega, by omega, hM.len, hM.len3⟩ f1 f2 f6 hn (fun j h1 h2 h3 h4 h5 => hH j h1 h2 (hN.ne h5)), Gr.tok ht hid2⟩
theorem nonGo_nil (t : List Non) : nonGo t [] = [] := rfl
abbrev nonX (types : List Non) (n : List UInt8) : Non := { name := n, tag := if 0 ≤ typGo n types 0 then (types.getD (typGo n types 0).toNat {}).tag else [] }
theorem nonGo_snoc (t : List Non) (l : List (List UInt8)) (n : List UInt8) : nonGo t (l ++ [n]) = nonGo t l ++ [nonX t n] := by
 induction l with
 | nil => rfl
 | cons a r ih => rw [List.cons_append, nonGo, ih]; rfl
theorem nonGo_len (t : List Non) (l : List (List UInt8)) : (nonGo t l).length = l.length := by
 induction l with
 | nil => rfl
 | cons a r ih => rw [nonGo, List.length_cons, ih, List.length_cons]
abbrev nonsM (M : Mk) (i : Nat) : Mk := { M with nons := M.nons ++ nonGo M.types (M.lefts.take i) }
theorem nonWalk {s0 : St} {m ti gi : Nat} {src : Source} {vN vP vT vL : V} {M : Mk} {E : EC} {Q : Exit → St → Prop} (h : OfAt s0 m src ti gi vN vP vT vL M) (hN : Gr s0.H s0.next 2 (M.nons.map Non.V) vN) (b1 : M.lefts.length ≤ 1000000000) (b2 : M.types.length ≤ 1000000000) (b3 : M.nons.length ≤ 10)
 (hQ : ∀ s' vN', OfAt s' m src ti gi vN' vP vT vL { M with nons := M.nons ++ nonGo M.types M.lefts } → Gr s'.H s'.next 2 ((M.nons ++ nonGo M.types M.lefts).map Non.V) vN' → ewp Try.prog E Q s') : ewp Try.prog (.seq e28n154 E) Q s0 := by
 have hA0 := h
 have f1 := h.f1; have f2 := h.f2; have f6 := h.f6
 have hLl : lenI vL = some (.int .i64 (M.lefts.length : Int)) := by have := ErP.lenI h.at_.eL; rwa [List.length_map] at this
 have eL := h.at_.eL; have eT := h.at_.eT
 repeat' with_reducible first
  | refine s_ ?_
  | simp -implicitDefEqProofs only [wZZ, seval, f1, f2, f6]
 refine ewp_loopN ?nx8 (fun (i : Nat) s => s.f 1 = ?v8_1 ∧ s.f 2 = ?v8_2 ∧ s.f 6 = ?v8_6 ∧ s.f 18 = vi i ∧ (i ≤ M.lefts.length) ∧ ((∃ vN, OfAt s m src ti gi vN vP vT vL (nonsM M i) ∧ Gr s.H s.next 2 ((M.nons ++ nonGo M.types (M.lefts.take i)).map Non.V) vN))) (fun i => M.lefts.length - i) (0) wj_ (by refine ⟨?_, ?_, ?_, ?_, (by first | omega | (simp; done) | assumption), (by exact ⟨vN, (by have e : nonsM M 0 = M := (by unfold nonsM; rw [List.take_zero, nonGo_nil, List.append_nil]); rw [e]; exact hA0.mono wl_ wl_ wl_ wg_ (fun j hj => by first | rfl | simp only [wM])), (by rw [List.take_zero, nonGo_nil, List.append_nil]; exact hN.mono wg_ (fun j h1 hj => by first | rfl | simp only [wM]))⟩)⟩ <;> first | (simp -implicitDefEqProofs only [wL, wM, wN, wX, seval, Option.some.injEq] <;> exact wt_) | rfl | exact ⟨_, rfl⟩) ?_
 intro i s hnx ⟨g1, g2, g6, g18, k8_0, k8_1⟩
 obtain ⟨vN1, hA1, hN1⟩ := k8_1
 have g1 := hA1.f1; have g2 := hA1.f2; have g6 := hA1.f6; have ln := hA1.ln
 have hM := hA1.at_; have lm := hM.lm; have lt := hM.lt; have lg := hM.lg
 have hm : s.H m = some (.own 13 [mkC ti gi vN1 vP vT vL M] false) := hM.hm
 obtain ⟨n1, n2, n3⟩ := hM.mt
 obtain ⟨c1, c2, c3⟩ := hM.nt
 have d1 := hN1.ne c1
 have hlen : (nonGo M.types (M.lefts.take i)).length = i := by rw [nonGo_len, List.length_take]; omega
 by_cases hi : i < M.lefts.length
 · have ht2 : nonGo M.types (M.lefts.take (i + 1)) = nonGo M.types (M.lefts.take i) ++ [nonX M.types M.lefts[i]] := by rw [List.take_add_one, List.getElem?_eq_getElem hi]; exact nonGo_snoc _ _ _
   have hnx2 : nonsM M (i + 1) = nonM (nonsM M i) (nonX M.types M.lefts[i]) := by unfold nonsM nonM; rw [ht2, List.append_assoc]
   have hnl2 : M.nons ++ nonGo M.types (M.lefts.take (i + 1)) = (nonM (nonsM M i) (nonX M.types M.lefts[i])).nons := by rw [ht2, ← List.append_assoc]
   by_cases hk : 0 ≤ typGo M.lefts[i] M.types 0
   · have hbd := typGo_bd M.lefts[i] M.types 0
     obtain ⟨k, hk2⟩ : ∃ k : Nat, typGo M.lefts[i] M.types 0 = k := ⟨(typGo M.lefts[i] M.types 0).toNat, by omega⟩
     have hkl : k < M.types.length := by omega
     have hxe : nonX M.types M.lefts[i] = { name := M.lefts[i], tag := M.types[k].tag } := by
      unfold nonX; rw [if_pos hk, hk2]; simp [List.getD, hkl]
     rw [hxe] at hnx2 hnl2
     repeat' with_reducible first
      | refine s_ ?_
      | simp -implicitDefEqProofs only [wZZ, seval, g1, g2, g6, g18, g1, g2, g6, g18, hm, hLl, hk2, dropG_ne d1]
      | (refine condQ_j (fun h h_ => ?_) (fun h h_ => ?_) <;> (try simp only [wD, reduceCtorEq] at h_) <;> (try exact wb_) <;> (try simp only [h]))
      | (apply callQB2 (hp := yuccaref9_maker_typeOf ?_); (focus (refine (hM.mono (Nat.le_refl _) (fun j hj => ?_)).er; (try simp only [wM]); (repeat rw [if_neg (by omega)]))); (focus exact er_cl); (exact wu_); (focus exact Flat.int _ _); rotate_left; (exact wf_))
      | (apply appQ_G rfl (hN1.mono (Nat.le_refl _) (fun id h1 h2 => by (try simp only [wM]); (repeat rw [if_neg (by omega)]))); (focus (first | exact SrcN.sl | exact SrcN.asl)); (focus (simp only [wZ] <;> omega)); (focus (unfold maxLen; simp only [wZ] <;> omega)))
      | (apply ia_er eL flat_str; (focus omega); (focus (first | assumption | exact List.getElem?_eq_getElem (by omega))))
      | (apply ia_er eT flat_non; (focus omega); (focus (first | assumption | exact List.getElem?_eq_getElem (by omega))))
      | (apply fil_part; (exact wu_); (exact wu_); (exact wu_); (focus ((try simp -implicitDefEqProofs only [wY]); rfl)))
      | (apply bld_nil)
      | (apply bld_part; (exact wu_); (exact wu_); (exact wu_); (focus ((try simp -implicitDefEqProofs only [wE, Nat.reduceAdd]); rfl)))
      | (apply ldQ_whole)
      | (apply ldQ_cell; (exact wu_))
      | (apply ld_ipQ; (exact wu_))
      | (apply stQ_whole; (exact wu_); (exact wu_))
      | (apply stQ_cell; (exact wu_); (exact wu_); (exact wu_); (exact wf_))
      | simp -implicitDefEqProofs (disch := omega) only [w64, if_neg]
     refine ⟨by (try simp only [wN]) <;> omega, i + 1, by omega, f1.symm, f2.symm, f6.symm, rfl, by omega, ?_⟩
     rw [hnx2, hnl2]
     refine ⟨_, hA1.non (id := s.next + 7 + 10 + 5 + 2 + 10 + 8) hN1 wl_ wl_ wl_ wg_ (by omega) wg_ ?_ ?_ (fun j h1 h2 h3 => ?_)⟩
     · simp only [wM]
       repeat (first | rw [if_pos trivial] | rw [if_pos rfl] | rw [if_neg (by omega)] | simp only [wM] | rw [dropG_ne d1])
       simp
     · simp only [wM]
       repeat (first | rw [if_pos trivial] | rw [if_pos rfl] | rw [if_neg (by omega)] | simp only [wM])
     · simp only [wM]
       repeat (first | rw [if_pos trivial] | rw [if_pos rfl] | rw [if_neg (by omega)] | simp only [wM] | rw [dropG_ne h3])
   · have hxe : nonX M.types M.lefts[i] = { name := M.lefts[i] } := by
      unfold nonX; rw [if_neg hk]
     rw [hxe] at hnx2 hnl2
     repeat' with_reducible first
      | refine s_ ?_
      | simp -implicitDefEqProofs only [wZZ, seval, g1, g2, g6, g18, g1, g2, g6, g18, hm, hLl, dropG_ne d1]
      | (refine condQ_j (fun h h_ => ?_) (fun h h_ => ?_) <;> (try simp only [wD, reduceCtorEq] at h_) <;> (try exact wb_) <;> (try simp only [h]))
      | (apply callQB2 (hp := yuccaref9_maker_typeOf ?_); (focus (refine (hM.mono (Nat.le_refl _) (fun j hj => ?_)).er; (try simp only [wM]); (repeat rw [if_neg (by omega)]))); (focus exact er_cl); (exact wu_); (focus exact Flat.int _ _); rotate_left; (exact wf_))
      | (apply appQ_G rfl (hN1.mono (Nat.le_refl _) (fun id h1 h2 => by (try simp only [wM]); (repeat rw [if_neg (by omega)]))); (focus (first | exact SrcN.sl | exact SrcN.asl)); (focus (simp only [wZ] <;> omega)); (focus (unfold maxLen; simp only [wZ] <;> omega)))
      | (apply ia_er eL flat_str; (focus omega); (focus (first | assumption | exact List.getElem?_eq_getElem (by omega))))
      | (apply fil_part; (exact wu_); (exact wu_); (exact wu_); (focus ((try simp -implicitDefEqProofs only [wY]); rfl)))
      | (apply bld_nil)
      | (apply bld_part; (exact wu_); (exact wu_); (exact wu_); (focus ((try simp -implicitDefEqProofs only [wE, Nat.reduceAdd]); rfl)))
      | (apply ldQ_whole)
      | (apply ldQ_cell; (exact wu_))
      | (apply stQ_whole; (exact wu_); (exact wu_))
      | (apply stQ_cell; (exact wu_); (exact wu_); (exact wu_); (exact wf_))
      | simp -implicitDefEqProofs (disch := omega) only [w64, if_neg]
     refine ⟨by (try simp only [wN]) <;> omega, i + 1, by omega, f1.symm, f2.symm, f6.symm, rfl, by omega, ?_⟩
     rw [hnx2, hnl2]
     refine ⟨_, hA1.non (id := s.next + 7 + 10 + 5 + 2 + 8) hN1 wl_ wl_ wl_ wg_ (by omega) wg_ ?_ ?_ (fun j h1 h2 h3 => ?_)⟩
     · simp only [wM]
       repeat (first | rw [if_pos trivial] | rw [if_pos rfl] | rw [if_neg (by omega)] | simp only [wM] | rw [dropG_ne d1])
       simp
     · simp only [wM]
       repeat (first | rw [if_pos trivial] | rw [if_pos rfl] | rw [if_neg (by omega)] | simp only [wM])
     · simp only [wM]
       repeat (first | rw [if_pos trivial] | rw [if_pos rfl] | rw [if_neg (by omega)] | simp only [wM] | rw [dropG_ne h3])
 · have e : nonsM M i = { M with nons := M.nons ++ nonGo M.types M.lefts } := by unfold nonsM; rw [List.take_of_length_le (by omega)]
   rw [e] at hA1
   rw [List.take_of_length_le (by omega)] at hN1
   repeat' with_reducible first
    | refine s_ ?_
    | simp -implicitDefEqProofs only [wZZ, seval, g1, g2, g6, g18, g1, g2, g6, g18, hm, hLl]
    | (refine condQ_j (fun h h_ => ?_) (fun h h_ => ?_) <;> (try simp only [wD, reduceCtorEq] at h_) <;> (try exact wb_) <;> (try simp only [h]))
    | (apply ldQ_cell; (exact wu_))
   exact hQ _ vN1 (hA1.mono wl_ wl_ wl_ wg_ (fun j hj => by first | rfl | simp only [wM])) (hN1.mono wg_ (fun j h1 hj => by first | rfl | simp only [wM]))

def innN (n : Nat) : List Non := (List.range n).map fun k => { name := 64 :: digS (k + 1) }
theorem innN_succ (n : Nat) : innN (n + 1) = innN n ++ [{ name := 64 :: digS (n + 1) }] := by unfold innN; rw [List.range_succ, List.map_append]; rfl
theorem innN_len (n : Nat) : (innN n).length = n := by simp [innN]
theorem digS_len (n : Nat) : (digS n).length ≤ 25 := by have := digGo_len 25 n []; simpa [digS] using this
abbrev innM (M : Mk) (i : Nat) : Mk := { M with nons := M.nons ++ innN i }
theorem innWalk {s0 : St} {m ti gi n : Nat} {src : Source} {vN vP vT vL : V} {M : Mk} {E : EC} {Q : Exit → St → Prop} (h : OfAt s0 m src ti gi vN vP vT vL M) (hN : Gr s0.H s0.next 2 (M.nons.map Non.V) vN) (b1 : M.nons.length ≤ 1000000000) (hi : M.inner = n) (b2 : n ≤ 2000000000)
 (hQ : ∀ s' vN', OfAt s' m src ti gi vN' vP vT vL (innM M n) → ewp Try.prog E Q s') : ewp Try.prog (.seq e28n166 E) Q s0 := by
 have hA0 := h
 have f1 := h.f1; have f2 := h.f2; have f6 := h.f6
 repeat' with_reducible first
  | refine s_ ?_
  | simp -implicitDefEqProofs only [wZZ, seval, f1, f2, f6]
 refine ewp_loopN ?nx9 (fun (i : Nat) s => s.f 1 = ?v9_1 ∧ s.f 2 = ?v9_2 ∧ s.f 6 = ?v9_6 ∧ s.f 21 = vi i ∧ (1 ≤ i) ∧ (i ≤ n + 1) ∧ ((∃ vN, OfAt s m src ti gi vN vP vT vL (innM M (i - 1)) ∧ Gr s.H s.next 2 ((M.nons ++ innN (i - 1)).map Non.V) vN))) (fun i => n + 1 - i) (1) wj_ (by refine ⟨?_, ?_, ?_, ?_, (by first | omega | (simp; done) | assumption), (by first | omega | (simp; done) | assumption), (by exact ⟨vN, (by have e : innM M (1 - 1) = M := (by show { M with nons := M.nons ++ innN 0 } = M; unfold innN; simp); rw [e]; exact hA0.mono wl_ wl_ wl_ wg_ (fun j hj => by first | rfl | simp only [wM])), (by have e : M.nons ++ innN (1 - 1) = M.nons := (by unfold innN; simp); rw [e]; exact hN.mono wg_ (fun j h1 hj => by first | rfl | simp only [wM]))⟩)⟩ <;> first | (simp -implicitDefEqProofs only [wL, wM, wN, wX, seval, Option.some.injEq] <;> exact wt_) | rfl | exact ⟨_, rfl⟩) ?_
 intro i s hnx ⟨g1, g2, g6, g21, k9_0, k9_1, k9_2⟩
 obtain ⟨vN1, hA1, hN1⟩ := k9_2
 have g1 := hA1.f1; have g2 := hA1.f2; have g6 := hA1.f6; have ln := hA1.ln
 have hM := hA1.at_; have lm := hM.lm; have lt := hM.lt; have lg := hM.lg
 have hm : s.H m = some (.own 13 [mkC ti gi vN1 vP vT vL M] false) := hM.hm
 obtain ⟨n1, n2, n3⟩ := hM.mt
 obtain ⟨c1, c2, c3⟩ := hM.nt
 have d1 := hN1.ne c1
 have hlen := innN_len (i - 1)
 by_cases hk : i ≤ n
 · obtain ⟨j, rfl⟩ : ∃ j, i = j + 1 := ⟨i - 1, by omega⟩
   have ej : j + 1 - 1 = j := rfl
   rw [ej] at hA1 hN1 hlen
   have hdl := digS_len (j + 1)
   have hnx2 : innM M (j + 1 + 1 - 1) = nonM (innM M j) { name := 64 :: digS (j + 1) } := by
    show ({ M with nons := M.nons ++ innN (j + 1) } : Mk) = _
    unfold nonM innM; rw [innN_succ, List.append_assoc]
   have hnl2 : M.nons ++ innN (j + 1 + 1 - 1) = (nonM (innM M j) { name := 64 :: digS (j + 1) }).nons := by
    show M.nons ++ innN (j + 1) = _
    rw [innN_succ, ← List.append_assoc]
   have hz : IntKind.i64.wrap ((j + 1 + 1 : Nat) : Int) = ((j + 1 + 1 : Nat) : Int) := wrap64 (by omega) (by omega)
   repeat' with_reducible first
    | refine s_ ?_
    | simp -implicitDefEqProofs only [wZZ, seval, g1, g2, g6, g21, g1, g2, g6, g21, hm, hi, dropG_ne d1, hz]
    | (refine condQ_j (fun h h_ => ?_) (fun h h_ => ?_) <;> (try simp only [wD, reduceCtorEq] at h_) <;> (try exact wb_) <;> (try simp only [h]))
    | (apply appQ_G rfl (hN1.mono (Nat.le_refl _) (fun id h1 h2 => by (try simp only [wM]); (repeat rw [if_neg (by omega)]))); (focus (first | exact SrcN.sl | exact SrcN.asl)); (focus (simp only [wZ] <;> omega)); (focus (unfold maxLen; simp only [wZ] <;> omega)))
    | (apply fil_part; (exact wu_); (exact wu_); (exact wu_); (focus ((try simp -implicitDefEqProofs only [wY]); rfl)))
    | (apply bld_nil)
    | (apply bld_part; (exact wu_); (exact wu_); (exact wu_); (focus ((try simp -implicitDefEqProofs only [wE, Nat.reduceAdd]); rfl)))
    | (apply strAdd; (focus (first | omega | (simp only [wZ] <;> omega))))
    | (apply ldQ_cell; (exact wu_))
    | (apply stQ_cell; (exact wu_); (exact wu_); (exact wu_); (exact wf_))
    | (apply callQ1 (hp := yuccaref0_Digits ?_); (exact we_); rotate_left; (exact wf_))
    | simp -implicitDefEqProofs (disch := omega) only [w64, if_neg]
   refine ⟨by (try simp only [wN]) <;> omega, j + 1 + 1, by omega, f1.symm, f2.symm, f6.symm, rfl, by omega, by omega, ?_⟩
   rw [hnx2, hnl2]
   refine ⟨_, hA1.non (id := s.next + 6 + 11) hN1 wl_ wl_ wl_ wg_ (by omega) wg_ ?_ ?_ (fun j h1 h2 h3 => ?_)⟩
   · simp only [wM]
     repeat (first | rw [if_pos trivial] | rw [if_pos rfl] | rw [if_neg (by omega)] | simp only [wM] | rw [dropG_ne d1])
     simp [hi]
   · simp only [wM]
     repeat (first | rw [if_pos trivial] | rw [if_pos rfl] | rw [if_neg (by omega)] | simp only [wM])
   · simp only [wM]
     repeat (first | rw [if_pos trivial] | rw [if_pos rfl] | rw [if_neg (by omega)] | simp only [wM] | rw [dropG_ne h3])
 · have e : i - 1 = n := by omega
   rw [e] at hA1
   repeat' with_reducible first
    | refine s_ ?_
    | simp -implicitDefEqProofs only [wZZ, seval, g1, g2, g6, g21, g1, g2, g6, g21, hm, hi]
    | (refine condQ_j (fun h h_ => ?_) (fun h h_ => ?_) <;> (try simp only [wD, reduceCtorEq] at h_) <;> (try exact wb_) <;> (try simp only [h]))
    | (apply ldQ_cell; (exact wu_))
   exact hQ _ vN1 (hA1.mono wl_ wl_ wl_ wg_ (fun j hj => by first | rfl | simp only [wM]))
def numIx (given : List Bool) : Nat → Nat → List Tok × Int → List Tok × Int
 | 0, _, q => q
 | f + 1, i, (l, n) => numIx given f (i + 1) (if given.getD i false = true then (l, n) else (l.set i { l.getD i {} with num := n }, n + 1))
theorem numIx_succ (given : List Bool) (f i : Nat) (l : List Tok) (n : Int) : numIx given (f + 1) i (l, n) = numIx given f (i + 1) (if given.getD i false = true then (l, n) else (l.set i { l.getD i {} with num := n }, n + 1)) := rfl
abbrev toksM (M : Mk) (l : List Tok) : Mk := { M with toks := l }
theorem numWalk {s0 : St} {m ti gi : Nat} {src : Source} {vN vP vT vL : V} {M : Mk} {E : EC} {Q : Exit → St → Prop} (h : OfAt s0 m src ti gi vN vP vT vL M) (f22 : s0.f 22 = vi 57346) (b1 : M.toks.length ≤ 10000000000)
 (hQ : ∀ s', OfAt s' m src ti gi vN vP vT vL (toksM M (numIx M.given (M.toks.length - 3) 3 (M.toks, 57346)).1) → ewp Try.prog E Q s') : ewp Try.prog (.seq e28n184 E) Q s0 := by
 generalize hR : numIx M.given (M.toks.length - 3) 3 (M.toks, 57346) = R at hQ
 have hA0 := h
 have f1 := h.f1; have f2 := h.f2; have f6 := h.f6
 have hl3 := h.at_.len3; have hgl := h.at_.len
 repeat' with_reducible first
  | refine s_ ?_
  | simp -implicitDefEqProofs only [wZZ, seval, f1, f2, f6]
 refine ewp_loopN ?nx10 (fun (z : Nat × List Tok × Int) s => s.f 1 = ?v10_1 ∧ s.f 2 = ?v10_2 ∧ s.f 6 = ?v10_6 ∧ s.f 23 = vi z.1 ∧ (3 ≤ z.1) ∧ (z.1 ≤ M.toks.length) ∧ ((OfAt s m src ti gi vN vP vT vL (toksM M z.2.1))) ∧ (numIx M.given (M.toks.length - z.1) z.1 z.2 = R) ∧ ((z.2.1.length = M.toks.length)) ∧ ((57346 ≤ z.2.2 ∧ z.2.2 ≤ 57346 + z.1)) ∧ (s.f 22 = vi z.2.2)) (fun z => M.toks.length - z.1) ((3, M.toks, 57346)) wj_ (by refine ⟨?_, ?_, ?_, ?_, (by first | omega | (simp; done) | assumption), (by first | omega | (simp; done) | assumption), (by exact hA0.mono wl_ wl_ wl_ wg_ (fun j hj => by first | rfl | simp only [wM])), (by exact hR), (by rfl), (by dsimp only; omega), (by (try simp -implicitDefEqProofs only [wL, wM, wN, seval]); exact f22)⟩ <;> first | (simp -implicitDefEqProofs only [wL, wM, wN, wX, seval, Option.some.injEq] <;> exact wt_) | rfl | exact ⟨_, rfl⟩) ?_
 intro z s hnx ⟨g1, g2, g6, g23, k10_0, k10_1, k10_2, k10_3, k10_4, k10_5, g22⟩
 obtain ⟨i, l, n⟩ := z
 dsimp only at g22 g23 k10_0 k10_1 k10_2 k10_3 k10_4 k10_5
 have hA1 := k10_2
 have g1 := hA1.f1; have g2 := hA1.f2; have g6 := hA1.f6; have ln := hA1.ln
 have hM := hA1.at_; have lm := hM.lm; have lt := hM.lt; have lg := hM.lg
 have hm : s.H m = some (.own 13 [.agg [.msl ti 6 0 l.length, vN, vP, .str [], .str [], .msl gi 1 0 M.given.length, vT, vL, vi M.e, vi M.at_, .str M.name, vi M.level, vi M.inner]] false) := hM.hm
 have ht : s.H ti = some (.own 6 (l.map Tok.V) false) := hM.ht
 have hg : s.H gi = some (.own 1 (M.given.map V.bool) false) := hM.hg
 obtain ⟨n1, n2, n3⟩ := hM.mt
 by_cases hk : i < M.toks.length
 · rw [show M.toks.length - i = (M.toks.length - (i + 1)) + 1 by omega, numIx_succ] at k10_3
   have hgt : M.given[i]? = some (M.given.getD i false) := by
    rw [List.getElem?_eq_getElem (by omega)]; simp [List.getD, show i < M.given.length by omega]
   generalize hgb : M.given.getD i false = gb at hgt k10_3
   have hlt : l[i]? = some (l.getD i {}) := by
    rw [List.getElem?_eq_getElem (by omega)]; simp [List.getD, show i < l.length by omega]
   generalize hkt : l.getD i {} = kt at hlt k10_3
   cases gb
   · rw [if_neg (by simp)] at k10_3
     have hz : IntKind.i64.wrap (n + 1) = n + 1 := wrap64 (by omega) (by omega)
     have hs0 : setT (toksM M l) i { kt with num := n } = toksM M (l.set i { kt with num := n }) := rfl
     repeat' with_reducible first
      | refine s_ ?_
      | simp -implicitDefEqProofs only [wZZ, seval, g1, g2, g6, g23, g22, g1, g2, g6, g22, g23, hm, ht, hg, hz]
      | (refine condQ_j (fun h h_ => ?_) (fun h h_ => ?_) <;> (try simp only [wD, reduceCtorEq] at h_) <;> (try exact wb_) <;> (try simp only [h]))
      | (apply stT ({ kt with num := n }); (focus (first | assumption | exact List.getElem?_set_self (by first | omega | (simp only [List.length_set]; omega)))); (exact wu_); (exact wu_); (exact wu_); (focus decide); (exact wu_))
      | (apply ia_mslQ; (focus omega); (exact wf_))
      | (apply ldQ_obj; (exact wd_); (exact wu_))
      | (apply ldQ_cell; (exact wu_))
      | simp -implicitDefEqProofs (disch := omega) only [w64, if_neg]
     refine ⟨by (try simp only [wN]) <;> omega, (i + 1, l.set i { kt with num := n }, n + 1), by dsimp only; omega, f1.symm, f2.symm, f6.symm, rfl, by dsimp only; omega, by dsimp only; omega, ?_, k10_3, by dsimp only; rw [List.length_set]; exact k10_4, by dsimp only; omega, rfl⟩
     dsimp only
     rw [← hs0]
     refine hA1.upd (hM.setT wg_ ?_ (fun j h1 h2 => ?_)) wl_ wl_ wl_ wg_ (fun j h1 h2 h3 h4 h5 => ?_)
     · simp only [wM]
       repeat (first | rw [if_pos trivial] | rw [if_pos rfl] | rw [if_neg (by omega)])
     · simp only [wM]
       repeat (first | rw [if_pos trivial] | rw [if_pos rfl] | rw [if_neg (by omega)])
     · simp only [wM]
       repeat (first | rw [if_pos trivial] | rw [if_pos rfl] | rw [if_neg (by omega)])
   · rw [if_pos rfl] at k10_3
     repeat' with_reducible first
      | refine s_ ?_
      | simp -implicitDefEqProofs only [wZZ, seval, g1, g2, g6, g23, g22, g1, g2, g6, g22, g23, hm, ht, hg]
      | (refine condQ_j (fun h h_ => ?_) (fun h h_ => ?_) <;> (try simp only [wD, reduceCtorEq] at h_) <;> (try exact wb_) <;> (try simp only [h]))
      | (apply ia_mslQ; (focus omega); (exact wf_))
      | (apply ldQ_obj; (exact wd_); (exact wu_))
      | (apply ldQ_cell; (exact wu_))
      | simp -implicitDefEqProofs (disch := omega) only [w64, if_neg]
     exact ⟨by (try simp only [wN]) <;> omega, (i + 1, l, n), by dsimp only; omega, f1.symm, f2.symm, f6.symm, rfl, by dsimp only; omega, by dsimp only; omega, hA1.mono wl_ wl_ wl_ wg_ (fun j hj => by first | rfl | simp only [wM]), k10_3, k10_4, by dsimp only; omega, rfl⟩
 · have e : M.toks.length - i = 0 := by omega
   rw [e] at k10_3
   subst k10_3
   repeat' with_reducible first
    | refine s_ ?_
    | simp -implicitDefEqProofs only [wZZ, seval, g1, g2, g6, g23, g22, g1, g2, g6, g22, g23, hm]
    | (refine condQ_j (fun h h_ => ?_) (fun h h_ => ?_) <;> (try simp only [wD, reduceCtorEq] at h_) <;> (try exact wb_) <;> (try simp only [h]))
    | (apply ldQ_cell; (exact wu_))
   exact hQ _ (hA1.mono wl_ wl_ wl_ wg_ (fun j hj => by first | rfl | simp only [wM]))

theorem prodAt {vP : V} {l : List GPr} {i : Nat} {p : GPr} (h : ErP vP (.sl 6 false (l.map GPr.V))) (hp : l[i]? = some p) : ∃ w1 w2, iaddrV 6 vP (vi i) = some (.iptr 6 (.agg [vi p.left, w1, vi p.prec, .str p.code, w2, vi p.at_]) 0) ∧ ErP w1 (.sl 1 false (p.right.map (V.int .i64))) ∧ ErP w2 (.sl 1 false (p.args.map (V.int .i64))) := by
 obtain ⟨es, h1, h2, h3⟩ := ErP.shape h
 rw [List.length_map] at h1
 have hi : i < l.length := (List.getElem?_eq_some_iff.1 hp).1
 have he : es[i]? = some es[i] := List.getElem?_eq_getElem (by omega)
 have hE := h2 i _ _ he (by rw [List.getElem?_map, hp]; rfl)
 generalize es[i] = e at he hE
 unfold ErP at hE
 cases hE with
 | agg cs _ hl hc =>
   match cs, hl with
   | [c0, c1, c2, c3, c4, c5], _ =>
     have e0 := er_flat (hc 0 _ _ rfl rfl) (.int _ _); have e2 := er_flat (hc 2 _ _ rfl rfl) (.int _ _); have e3 := er_flat (hc 3 _ _ rfl rfl) (.str _); have e5 := er_flat (hc 5 _ _ rfl rfl) (.int _ _)
     subst e0 e2 e3 e5
     refine ⟨c1, c4, ?_, hc 1 _ _ rfl rfl, hc 4 _ _ rfl rfl⟩
     rcases h3 with ⟨b, rfl⟩ | ⟨id, fin, rfl⟩
     · simp [iaddrV, idxOf, he]
     · simp [iaddrV, idxOf, he]
def longB (M : Mk) : Bool := decide (40 < M.toks.length) || decide (24 < M.nons.length) || decide (60 < M.prods.length) || M.prods.any fun p => decide (8 < p.right.length)
theorem longWalk {s0 : St} {m ti gi : Nat} {src : Source} {vN vP vT vL : V} {M : Mk} {E : EC} {Q : Exit → St → Prop} (h : OfAt s0 m src ti gi vN vP vT vL M) (b1 : M.prods.length ≤ 10000000000)
 (hQ : ∀ s', OfAt s' m src ti gi vN vP vT vL M → s'.f 24 = .bool (longB M) → ewp Try.prog E Q s') : ewp Try.prog (.seq (.reg e28r185) (.seq e28n197 E)) Q s0 := by
 have hA0 := h
 have f1 := h.f1; have f2 := h.f2; have f6 := h.f6
 have hM := h.at_; have hm := hM.hm
 have hNl : lenI vN = some (.int .i64 (M.nons.length : Int)) := by have := ErP.lenI hM.eN; rwa [List.length_map] at this
 have hPl : lenI vP = some (.int .i64 (M.prods.length : Int)) := by have := ErP.lenI hM.eP; rwa [List.length_map] at this
 generalize hB : (decide (40 < M.toks.length) || decide (24 < M.nons.length) || decide (60 < M.prods.length)) = B
 have hR : longB M = (B || M.prods.any fun p => decide (8 < p.right.length)) := by unfold longB; rw [hB]
 rw [hR] at hQ
 have tail : ∀ s1, OfAt s1 m src ti gi vN vP vT vL M → s1.f 24 = .bool B → ewp Try.prog (.seq e28n197 E) Q s1 := by
  intro s1 hA f24
  have f1 := hA.f1; have f2 := hA.f2; have f6 := hA.f6
  generalize hRR : (B || M.prods.any fun p => decide (8 < p.right.length)) = R at hQ
  repeat' with_reducible first
   | refine s_ ?_
   | simp -implicitDefEqProofs only [wZZ, seval, f1, f2, f6, f24]
  refine ewp_loopN ?nx11 (fun (z : Nat × Bool) s => s.f 1 = ?v11_1 ∧ s.f 2 = ?v11_2 ∧ s.f 6 = ?v11_6 ∧ s.f 25 = vi z.1 ∧ (z.1 ≤ M.prods.length) ∧ ((OfAt s m src ti gi vN vP vT vL M)) ∧ (((z.2 || (M.prods.drop z.1).any fun p => decide (8 < p.right.length)) = R)) ∧ (s.f 24 = .bool z.2)) (fun z => M.prods.length - z.1) ((0, B)) wj_ (by refine ⟨?_, ?_, ?_, ?_, (by first | omega | (simp; done) | assumption), (by exact hA.mono wl_ wl_ wl_ wg_ (fun j hj => by first | rfl | simp only [wM])), (by exact hRR), (by (try simp -implicitDefEqProofs only [wL, wM, wN, seval]); exact f24)⟩ <;> first | (simp -implicitDefEqProofs only [wL, wM, wN, wX, seval, Option.some.injEq] <;> exact wt_) | rfl | exact ⟨_, rfl⟩) ?_
  intro z s hnx ⟨g1, g2, g6, g25, k11_0, k11_1, k11_2, g24⟩
  obtain ⟨i, b⟩ := z
  dsimp only at g24 g25 k11_0 k11_1 k11_2
  have hA1 := k11_1
  have g1 := hA1.f1; have g2 := hA1.f2; have g6 := hA1.f6; have ln := hA1.ln
  have hM1 := hA1.at_; have hm1 := hM1.hm
  by_cases hk : i < M.prods.length
  · obtain ⟨w1, w2, hia, hw1, hw2⟩ := prodAt hM.eP (List.getElem?_eq_getElem hk)
    have hwl : lenI w1 = some (.int .i64 (M.prods[i].right.length : Int)) := by have := ErP.lenI hw1; rwa [List.length_map] at this
    rw [List.drop_eq_getElem_cons hk, List.any_cons] at k11_2
    cases b
    · repeat' with_reducible first
       | refine s_ ?_
       | simp -implicitDefEqProofs only [wZZ, seval, g1, g2, g6, g25, g24, g1, g2, g6, g24, g25, hm1, hPl, hia, hwl]
       | (refine condQ_j (fun h h_ => ?_) (fun h h_ => ?_) <;> (try simp only [wD, reduceCtorEq] at h_) <;> (try exact wb_) <;> (try simp only [h]))
       | (apply ldQ_cell; (exact wu_))
       | (apply ld_ipQ; (exact wu_))
       | simp -implicitDefEqProofs (disch := omega) only [w64, if_neg]
      exact ⟨by (try simp only [wN]) <;> omega, (i + 1, decide (8 < (M.prods[i].right.length : Int))), by dsimp only; omega, f1.symm, f2.symm, f6.symm, rfl, by dsimp only; omega, hA1.mono wl_ wl_ wl_ wg_ (fun j hj => by first | rfl | simp only [wM]), by rw [← k11_2, Bool.false_or]; congr 1; simp; omega, rfl⟩
    · repeat' with_reducible first
       | refine s_ ?_
       | simp -implicitDefEqProofs only [wZZ, seval, g1, g2, g6, g25, g24, g1, g2, g6, g24, g25, hm1, hPl, hia, hwl]
       | (refine condQ_j (fun h h_ => ?_) (fun h h_ => ?_) <;> (try simp only [wD, reduceCtorEq] at h_) <;> (try exact wb_) <;> (try simp only [h]))
       | (apply ldQ_cell; (exact wu_))
       | simp -implicitDefEqProofs (disch := omega) only [w64, if_neg]
      exact ⟨by (try simp only [wN]) <;> omega, (i + 1, true), by dsimp only; omega, f1.symm, f2.symm, f6.symm, rfl, by dsimp only; omega, hA1.mono wl_ wl_ wl_ wg_ (fun j hj => by first | rfl | simp only [wM]), by rw [← k11_2]; simp, rfl⟩
  · rw [List.drop_eq_nil_of_le (by omega), List.any_nil, Bool.or_false] at k11_2
    subst k11_2
    repeat' with_reducible first
     | refine s_ ?_
     | simp -implicitDefEqProofs only [wZZ, seval, g1, g2, g6, g25, g24, g1, g2, g6, g24, g25, hm1, hPl]
     | (refine condQ_j (fun h h_ => ?_) (fun h h_ => ?_) <;> (try simp only [wD, reduceCtorEq] at h_) <;> (try exact wb_) <;> (try simp only [h]))
     | (apply ldQ_cell; (exact wu_))
    exact hQ _ (hA1.mono wl_ wl_ wl_ wg_ (fun j hj => by first | rfl | simp only [wM])) (by simp -implicitDefEqProofs only [wL, seval]; exact g24)
 generalize (EC.seq e28n197 E) = F at tail
 skip
 repeat' with_reducible first
  | refine s_ ?_
  | simp -implicitDefEqProofs only [wZZ, seval, f1, f2, f6, hm, hNl, hPl]
  | ((first | refine gdQ_iT (fun h => ?_) (fun h => ?_) | refine gdQ_iF (fun h => ?_) (fun h => ?_)) <;> have h_ := h <;> (try simp only [wD, reduceCtorEq] at h_) <;> (try exact wb_) <;> (try simp only [h]))
  | (apply ldQ_cell; (exact wu_))
 all_goals (refine tail _ (hA0.mono wl_ wl_ wl_ wg_ (fun j hj => by first | rfl | simp only [wM])) ?_)
 all_goals (simp -implicitDefEqProofs only [wL, seval])
 all_goals (refine congrArg V.bool ?_; rw [← hB])
 all_goals first
  | (rw [show decide (40 < M.toks.length) = false from decide_eq_false (by omega), show decide (24 < M.nons.length) = false from decide_eq_false (by omega)]; simp only [Bool.false_or, decide_eq_decide]; omega)
  | (rw [decide_eq_false (by omega), decide_eq_true (by omega)]; rfl)
  | (rw [decide_eq_true (by omega)]; rfl)

theorem post4 {ef : EF} {t a b c id : Nat} {ro : Bool} {v res : V} {e : Exit} {s : St} (he : ef.res = [.inr (t, true, 5), .inl a, .inl b, .inl c]) (hx : e = .normal ∨ e = .ret) (hp : s.f t = .ptr id 0 0) (hH : s.H id = some (.own 5 [v] ro)) (ha : v.isAgg = true)
 (h : Er true s.H (.tup [v, s.f a, s.f b, s.f c]) res) : PurePost ef res e s := by
 have hv : loadV s true 5 (s.f t) = some v := by rw [hp]; simp only [loadV, hH, List.getElem?_cons_zero, partE, ha, and_self, if_true]
 exact ⟨hx, _, by rw [he]; simp [resV, resL, hv, one], h⟩
theorem src_er {b : Bool} {H : Nat → Option MObj} (src : Source) : Er b H src.V src.V := ErL.agg (.cons (.str _) (.cons er_cl (.cons er_cl (.cons (.str _) .nil))))
def madeN (m : Mk) : Mk :=
 let m1 : Mk := { m with nons := [{ name := [36, 97, 99, 99, 101, 112, 116] }] }
 let m2 : Mk := { m1 with nons := m1.nons ++ nonGo m1.types m1.lefts }
 let m3 := innM m2 m.inner.toNat
 toksM m3 (numIx m3.given (m3.toks.length - 3) 3 (m3.toks, 57346)).1
def ofS (src : Source) : Grammar × Int × Int × List UInt8 :=
 if mayB src = true then
  if (madeM src).e ≠ 0 then ({}, (madeM src).e, (madeM src).at_, (madeM src).name)
  else if longB (madeN (madeM src)) = true then ({}, 4, 0, [])
  else ({ toks := (madeN (madeM src)).toks, nons := (madeN (madeM src)).nons, prods := (madeN (madeM src)).prods, pro := src.pro, tail := src.tail }, 0, 0, [])
 else ({}, 1, 0, [])
@[reducible] def ofV (q : Grammar × Int × Int × List UInt8) : V := .tup [q.1.V, vi q.2.1, vi q.2.2.1, .str q.2.2.2]
theorem endWalk {s0 : St} {m ti gi : Nat} {src : Source} {vN vP vT vL : V} {M : Mk} (h : OfAt s0 m src ti gi vN vP vT vL M) (hm0 : mayB src = true) (hM0 : madeM src = M)
 (b1 : M.toks.length ≤ 5000000000) (b2 : M.lefts.length ≤ 1000000) (b3 : M.types.length ≤ 1000000000) (b4 : M.prods.length ≤ 5000000000) (b5 : 0 ≤ M.inner) (b6 : M.inner ≤ 1000000000) (hnn : M.nons = []) :
 ewp Try.prog (.seq e28n132 (.seq (.reg e28r133) (.seq e28n154 (.seq e28n166 (.seq (.reg e28r167) (.seq e28n184 (.seq (.reg e28r185) (.seq e28n197 (.seq e28n202 (.seq (.reg e28r203) (.seq (.reg e28r204) .ret))))))))))) (PurePost e28 (ofV (ofS src))) s0 := by
 have hA0 := h
 have f1 := h.f1; have f2 := h.f2; have f6 := h.f6; have h1 := h.h1; have ln := h.ln
 have hM := h.at_; have hm := hM.hm; have lm := hM.lm; have lt := hM.lt; have lg := hM.lg
 obtain ⟨n1, n2, n3⟩ := hM.mt
 obtain ⟨z1, z2, z3, z4⟩ := hM.far h1 (by decide) (by decide)
 by_cases he : M.e = 0
 · show ewp _ (.seq e28n132 (.seq (.reg e28r133) (.seq e28n154 (.seq e28n166 (.seq (.reg e28r167) (.seq e28n184 (.seq (.reg e28r185) (.seq e28n197 (.seq e28n202 (.seq (.reg e28r203) (.seq (.reg e28r204) .ret))))))))))) _ _
   have hof : ofS src = if longB (madeN M) = true then ({}, 4, 0, []) else ({ toks := (madeN M).toks, nons := (madeN M).nons, prods := (madeN M).prods, pro := src.pro, tail := src.tail }, 0, 0, []) := by
    unfold ofS; rw [if_pos hm0, hM0, if_neg (by simp [he])]
   obtain ⟨n, hn⟩ : ∃ n : Nat, M.inner = n := ⟨M.inner.toNat, by omega⟩
   have tail : ∀ s1 vN1, OfAt s1 m src ti gi vN1 vP vT vL { M with nons := [{ name := [36, 97, 99, 99, 101, 112, 116] }] } → Gr s1.H s1.next 2 ([({ name := [36, 97, 99, 99, 101, 112, 116] } : Non)].map Non.V) vN1 →
    ewp Try.prog (.seq e28n154 (.seq e28n166 (.seq (.reg e28r167) (.seq e28n184 (.seq (.reg e28r185) (.seq e28n197 (.seq e28n202 (.seq (.reg e28r203) (.seq (.reg e28r204) .ret))))))))) (PurePost e28 (ofV (ofS src))) s1 := by
    intro s1 vN1 hA1 hN1
    refine nonWalk hA1 hN1 (by dsimp only; omega) b3 (by simp) fun s2 vN2 hA2 hN2 => ?_
    have hnl : ([({ name := [36, 97, 99, 99, 101, 112, 116] } : Non)] ++ nonGo M.types M.lefts).length = 1 + M.lefts.length := by rw [List.length_append, nonGo_len]; rfl
    refine innWalk (n := n) hA2 hN2 (by dsimp only; rw [hnl]; omega) hn (by omega) fun s3 vN3 hA3 => ?_
    have tail2 : ∀ s4, OfAt s4 m src ti gi vN3 vP vT vL (innM { M with nons := [({ name := [36, 97, 99, 99, 101, 112, 116] } : Non)] ++ nonGo M.types M.lefts } n) → s4.f 22 = vi 57346 → ewp Try.prog (.seq e28n184 (.seq (.reg e28r185) (.seq e28n197 (.seq e28n202 (.seq (.reg e28r203) (.seq (.reg e28r204) .ret)))))) (PurePost e28 (ofV (ofS src))) s4 := by
     intro s4 hA4 f22
     refine numWalk hA4 f22 (by dsimp only; omega) fun s5 hA5 => ?_
     have hmn : madeN M = toksM (innM { M with nons := [({ name := [36, 97, 99, 99, 101, 112, 116] } : Non)] ++ nonGo M.types M.lefts } n) (numIx M.given (M.toks.length - 3) 3 (M.toks, 57346)).1 := by
      unfold madeN; rw [hn]; rfl
     have hA5' : OfAt s5 m src ti gi vN3 vP vT vL (madeN M) := by rw [hmn]; exact hA5
     refine longWalk hA5' (by rw [hmn]; exact Nat.le_trans b4 (by decide)) fun s6 hA6 f24 => ?_
     have f1 := hA6.f1; have f2 := hA6.f2; have f6 := hA6.f6; have h1 := hA6.h1; have h0 := hA6.h0; have ln := hA6.ln
     have hM := hA6.at_; have hm := hM.hm; have lm := hM.lm; have lt := hM.lt; have lg := hM.lg
     obtain ⟨n1, n2, n3⟩ := hM.mt
     obtain ⟨z1, z2, z3, z4⟩ := hM.far h1 (by decide) (by decide)
     obtain ⟨y1, y2, y3, y4⟩ := hM.far h0 (by decide) (by decide)
     by_cases hlo : longB (madeN M) = true
     · rw [hof, if_pos hlo]
       repeat' with_reducible first
        | refine s_ ?_
        | simp -implicitDefEqProofs only [wZZ, seval, f1, f2, f6, f24, hlo, h1]
        | (apply bld_nil)
        | (apply stQ_whole; (exact wu_); (exact wu_))
       refine post4 (id := 1) rfl (Or.inr rfl) (by simp -implicitDefEqProofs only [wL, seval, f2]) wi_ rfl ?_
       simp -implicitDefEqProofs only [wL, seval]
       exact ErL.tup (.cons (ErL.agg (.cons (ErL.sl .nil) (.cons (ErL.sl .nil) (.cons (ErL.sl .nil) (.cons (.str _) (.cons (.str _) .nil)))))) (.cons (.int _ _) (.cons (.int _ _) (.cons (.str _) .nil))))
     · have hlf : longB (madeN M) = false := by simpa using hlo
       rw [hof, if_neg hlo]
       repeat' with_reducible first
        | refine s_ ?_
        | simp -implicitDefEqProofs only [wZZ, seval, f1, f2, f6, f24, hlf, h0, h1, hm]
        | (refine And.intro ?_ ?_; (focus (first | with_unfolding_all rfl | exact congrArg some (labT (by first | omega | (simp only [List.length_set]; omega))))))
        | (apply ldQ_sub; (exact wu_); (exact wu_); (focus ((try simp -implicitDefEqProofs only [wE, Nat.reduceAdd]); rfl)))
        | (apply ldQ_cell; (exact wu_))
        | (apply stQ_whole; (exact wu_); (exact wu_))
        | (apply stQ_cell; (exact wu_); (exact wu_); (exact wu_); (exact wf_))
        | simp -implicitDefEqProofs (disch := omega) only [w64, if_neg]
       refine post4 (id := 1) rfl (Or.inr rfl) (by simp -implicitDefEqProofs only [wL, seval, f2]) wi_ rfl ?_
       simp -implicitDefEqProofs only [wL, seval]
       refine ErL.tup (.cons (ErL.agg (.cons ?_ (.cons hM.eN.er (.cons hM.eP.er (.cons (.str _) (.cons (.str _) .nil)))))) (.cons (.int _ _) (.cons (.int _ _) (.cons (.str _) .nil))))
       refine er_msl_eq (es := (madeN M).toks.map Tok.V) (ro := false) ?_ (by simp) (by rw [List.drop_zero]; exact List.take_of_length_le (by simp))
       simp only [wM]
       repeat (first | rw [if_pos trivial] | rw [if_pos rfl] | rw [if_neg (by omega)])
       exact hM.ht
    generalize (EC.seq e28n184 (.seq (.reg e28r185) (.seq e28n197 (.seq e28n202 (.seq (.reg e28r203) (.seq (.reg e28r204) .ret)))))) = F2 at tail2
    have f1 := hA3.f1
    repeat' with_reducible first
     | refine ewp_reg_seq ?_
     | simp -implicitDefEqProofs only [wZZ, seval, f1]
    exact tail2 _ (hA3.mono wl_ wl_ wl_ wg_ (fun j hj => by first | rfl | simp only [wM])) wl_
   generalize (EC.seq e28n154 (.seq e28n166 (.seq (.reg e28r167) (.seq e28n184 (.seq (.reg e28r185) (.seq e28n197 (.seq e28n202 (.seq (.reg e28r203) (.seq (.reg e28r204) .ret))))))))) = F at tail
   repeat' with_reducible first
    | refine s_ ?_
    | simp -implicitDefEqProofs only [wZZ, seval, f1, f2, f6, h1, hm, he]
    | (apply fil_part; (exact wu_); (exact wu_); (exact wu_); (focus ((try simp -implicitDefEqProofs only [wY]); rfl)))
    | (apply bld_nil)
    | (apply bld_part; (exact wu_); (exact wu_); (exact wu_); (focus ((try simp -implicitDefEqProofs only [wE, Nat.reduceAdd]); rfl)))
    | (apply ldQ_cell; (exact wu_))
    | (apply stQ_cell; (exact wu_); (exact wu_); (exact wu_); (exact wf_))
   refine tail _ (.sl 2 true [.agg [.str [36, 97, 99, 99, 101, 112, 116], .str []]]) (hA0.upd ⟨?_, ?_, ?_, ?_, hM.eP, hM.eT, hM.eL, by simp only [wN] <;> omega, by simp only [wN] <;> omega, by simp only [wN] <;> omega, hM.len, hM.len3⟩ wl_ wl_ wl_ wh_ (fun j g1 g2 g3 g4 g5 => ?_)) Gr.clip
   · simp only [wM]
     repeat (first | rw [if_pos trivial] | rw [if_pos rfl] | rw [if_neg (by omega)])
     simp [he]
   · simp only [wM]
     repeat (first | rw [if_pos trivial] | rw [if_pos rfl] | rw [if_neg (by omega)])
     exact hM.ht
   · simp only [wM]
     repeat (first | rw [if_pos trivial] | rw [if_pos rfl] | rw [if_neg (by omega)])
     exact hM.hg
   · exact er_sl
   · simp only [wM]
     repeat (first | rw [if_pos trivial] | rw [if_pos rfl] | rw [if_neg (by omega)])
 · have hof : ofS src = ({}, M.e, M.at_, M.name) := by unfold ofS; rw [if_pos hm0, hM0, if_pos he]
   rw [hof]
   repeat' with_reducible first
    | refine s_ ?_
    | simp -implicitDefEqProofs only [wZZ, seval, f1, f2, f6, h1, hm]
    | (refine condQ_j (fun h h_ => ?_) (fun h h_ => ?_) <;> (try simp only [wD, reduceCtorEq] at h_) <;> (try exact wb_) <;> (try simp only [h]))
    | (refine And.intro ?_ ?_; (focus (first | with_unfolding_all rfl | exact congrArg some (labT (by first | omega | (simp only [List.length_set]; omega))))))
    | (apply bld_nil)
    | (apply ldQ_cell; (exact wu_))
    | (apply stQ_whole; (exact wu_); (exact wu_))
   refine post4 (id := 1) rfl (Or.inr rfl) (by simp -implicitDefEqProofs only [wL, seval, f2]) wi_ rfl ?_
   simp -implicitDefEqProofs only [wL, seval]
   exact ErL.tup (.cons (ErL.agg (.cons (ErL.sl .nil) (.cons (ErL.sl .nil) (.cons (ErL.sl .nil) (.cons (.str _) (.cons (.str _) .nil)))))) (.cons (.int _ _) (.cons (.int _ _) (.cons (.str _) .nil))))
theorem yuccaref9_Of {src : Source} (hf : src.Fits) (hS : mayB src = true → Small src) : Pure Try.prog 28 [src.V] (ofV (ofS src)) := by
 refine pure_intro Try.func28 e28_nm e28_ok (by show 1 ≤ 435; decide) ?_
 show ewp _ e28n226 _ _
 show ewp _ (.seq (.reg e28r0) (.seq e28n5 (.seq (.reg e28r6) (.seq (.reg e28r7) (.seq (.reg e28r8) (.seq e28n49 (.seq e28n71 (.seq e28n99 (.seq e28n103 (.seq (.reg e28r104) (.seq e28n127 (.seq e28n132 (.seq (.reg e28r133) (.seq e28n154 (.seq e28n166 (.seq (.reg e28r167) (.seq e28n184 (.seq (.reg e28r185) (.seq e28n197 (.seq e28n202 (.seq (.reg e28r203) (.seq (.reg e28r204) .ret)))))))))))))))))))))) _ _
 have tail : ∀ s m ti gi, mayB src = true → OfAt s m src ti gi (.sl 2 true []) (.sl 6 true []) (.sl 2 true []) (.sl 1 true []) {} → s.f 7 = .str [] →
  ewp Try.prog (.seq e28n49 (.seq e28n71 (.seq e28n99 (.seq e28n103 (.seq (.reg e28r104) (.seq e28n127 (.seq e28n132 (.seq (.reg e28r133) (.seq e28n154 (.seq e28n166 (.seq (.reg e28r167) (.seq e28n184 (.seq (.reg e28r185) (.seq e28n197 (.seq e28n202 (.seq (.reg e28r203) (.seq (.reg e28r204) .ret))))))))))))))))) (PurePost e28 (ofV (ofS src))) s := by
  intro s m ti gi hm0 hA f7
  have hSm := hS hm0
  have hr0 : 0 < src.rules.length := by
   have := hm0; unfold mayB at this
   simp only [Bool.and_eq_true, Bool.not_eq_true', decide_eq_false_iff_not] at this
   exact List.length_pos_iff.2 this.2
  refine decWalk hA Gr.nil f7 hSm (by decide) (by decide) (by decide) (by decide) fun s1 ti1 gi1 vT1 hA1 f71 hs1 ht1 hy1 => ?_
  generalize hq : decGo src.decls ({}, []) = q at hA1 f71 hs1 ht1 hy1
  obtain ⟨a1, a2, a3, a4⟩ := hs1
  refine lefWalk hA1 (by rw [a1]; exact Gr.nil) hSm (Nat.le_trans ht1 (by decide)) (by rw [a1]; decide) fun s2 vL2 hA2 f72 hn2 c1 c2 c3 c4 c5 c6 => ?_
  generalize hm2 : lefGo src.rules q.1 = m2 at hA2 c1 c2 c3 c4 c5 c6
  rw [a1] at c3
  refine unkWalk hA2 hSm (Nat.le_trans c3 (by decide)) fun s3 hA3 f73 hn3 hs3 => ?_
  generalize hm3 : unkGo src.decls m2 = m3 at hA3 hs3
  obtain ⟨d1, d2, d3, d4, d5, d6, d7⟩ := hs3
  refine startWalk hA3 (f73.trans (f72.trans f71)) hr0 fun s4 hA4 f74 hn4 => ?_
  refine firstWalk hA4 f74 (by rw [d3]; exact Nat.le_trans c3 (by decide)) fun s5 hA5 hn5 => ?_
  have hmm : madeM src = rulGo src.rules (firstM m3 (startS src q.2)) := by
   unfold madeM; simp only [hq, hm2, hm3]
  have kt : ({} : Mk).toks.length = 3 := rfl
  have kl : ({} : Mk).lefts.length = 0 := rfl
  have ky : ({} : Mk).types.length = 0 := rfl
  have ki : ({} : Mk).inner = 0 := rfl
  have kn : ({} : Mk).nons = [] := rfl
  have t3 : m3.toks.length ≤ 1000003 := by rw [d1, c1]; omega
  have l3 : m3.lefts.length ≤ 1000 := by rw [d3]; omega
  have y3 : m3.types.length ≤ 1000000 := by rw [d4, c2]; omega
  have i3 : m3.inner = 0 := by rw [d7, c6, a4]
  have n3 : m3.nons = [] := by rw [d6, c5, a3]
  have l1 : [first0 m3 (startS src q.2)].length = 1 := rfl
  refine rulWalk hA5 Gr.clip ?_ hSm ?_ ?_ (by rw [l1]; omega) ?_ ?_ fun s6 ti6 gi6 vP6 hA6 hn6 hs6 e1 e2 e3 => ?_
  · exact .cons (ErL.agg (.cons (.int _ _) (.cons (ErL.sl (.cons (.int _ _) .nil)) (.cons (.int _ _) (.cons (.str _) (.cons (ErL.sl .nil) (.cons (.int _ _) .nil))))))) .nil
  · show m3.toks.length ≤ _; omega
  · show m3.lefts.length ≤ _; omega
  · show 0 ≤ m3.inner; omega
  · show m3.inner ≤ _; omega
  · obtain ⟨u1, u2, u3, u4, u5⟩ := hs6
    have v1 : (firstM m3 (startS src q.2)).toks.length = m3.toks.length := rfl
    have v2 : (firstM m3 (startS src q.2)).lefts.length = m3.lefts.length := rfl
    have v3 : (firstM m3 (startS src q.2)).types.length = m3.types.length := rfl
    have v4 : (firstM m3 (startS src q.2)).inner = m3.inner := rfl
    have v5 : (firstM m3 (startS src q.2)).nons = m3.nons := rfl
    exact endWalk hA6 hm0 hmm (by omega) (by rw [u1]; omega) (by rw [u2]; omega) (by rw [l1] at e2; omega) (by omega) (by omega) (by rw [u3, v5]; exact n3)
 generalize (EC.seq e28n49 (.seq e28n71 (.seq e28n99 (.seq e28n103 (.seq (.reg e28r104) (.seq e28n127 (.seq e28n132 (.seq (.reg e28r133) (.seq e28n154 (.seq e28n166 (.seq (.reg e28r167) (.seq e28n184 (.seq (.reg e28r185) (.seq e28n197 (.seq e28n202 (.seq (.reg e28r203) (.seq (.reg e28r204) .ret))))))))))))))))) = F at tail
 by_cases hm0 : mayB src = true
 · repeat' with_reducible first
    | refine s_ ?_
    | simp -implicitDefEqProofs only [wZZ, seval, hm0]
    | (apply callQ1 (hp := yuccaref7_May hf); (focus exact src_er src))
    | (apply fil_part; (exact wu_); (exact wu_); (exact wu_); (focus ((try simp -implicitDefEqProofs only [wY]); rfl)))
    | (apply bld_nil)
    | (apply bld_part; (exact wu_); (exact wu_); (exact wu_); (focus ((try simp -implicitDefEqProofs only [wE, Nat.reduceAdd]); rfl)))
    | (apply ldQ_whole)
    | (apply stQ_cell; (exact wu_); (exact wu_); (exact wu_); (exact wf_))
    | (apply boxQ_i; (exact wu_); (exact wu_))
    | (apply mkQ_T; (exact wf_); (exact wf_); (focus (unfold maxLen; first | omega | (simp only [wZ] <;> omega))))
   refine tail _ 10 16 8 hm0 ⟨⟨?_, ?_, ?_, ErL.sl .nil, ErL.sl .nil, ErL.sl .nil, ErL.sl .nil, by simp only [wN] <;> omega, by simp only [wN] <;> omega, by simp only [wN] <;> omega, rfl, by decide⟩, ?_, ?_, ?_, ?_, ?_, by simp only [wN] <;> omega⟩ ?_
   · simp -implicitDefEqProofs only [wM, seval]
     rfl
   · simp -implicitDefEqProofs only [wM, seval]
     rfl
   · simp -implicitDefEqProofs only [wM, seval]
     rfl
   · simp -implicitDefEqProofs only [wL, seval]
   · simp -implicitDefEqProofs only [wL, seval]
   · simp -implicitDefEqProofs only [wL, seval]
   · simp -implicitDefEqProofs only [wM, seval]
   · simp -implicitDefEqProofs only [wM, seval]
   · simp -implicitDefEqProofs only [wL, seval]
 · have hmf : mayB src = false := by simpa using hm0
   have hof : ofS src = ({}, 1, 0, []) := by unfold ofS; rw [if_neg hm0]
   rw [hof]
   repeat' with_reducible first
    | refine s_ ?_
    | simp -implicitDefEqProofs only [wZZ, seval, hmf]
    | (apply callQ1 (hp := yuccaref7_May hf); (focus exact src_er src))
    | (apply bld_nil)
    | (apply ldQ_whole)
    | (apply stQ_whole; (exact wu_); (exact wu_))
    | (apply boxQ_i; (exact wu_); (exact wu_))
   refine post4 (id := 1) rfl (Or.inr rfl) wl_ (by simp -implicitDefEqProofs only [wM, seval]; rfl) rfl ?_
   simp -implicitDefEqProofs only [wL, seval]
   exact ErL.tup (.cons (ErL.agg (.cons (ErL.sl .nil) (.cons (ErL.sl .nil) (.cons (ErL.sl .nil) (.cons (.str _) (.cons (.str _) .nil)))))) (.cons (.int _ _) (.cons (.int _ _) (.cons (.str _) .nil))))

theorem post2M {ef : EF} {t a id : Nat} {ro : Bool} {v res : V} {e : Exit} {s : St} (he : ef.res = [.inr (t, true, 5), .inl a]) (hx : e = .normal ∨ e = .ret) (hp : s.f t = .ptr id 0 0) (hH : s.H id = some (.own 5 [v] ro)) (ha : v.isAgg = true)
 (h : Er true s.H (.tup [v, s.f a]) res) : PurePost ef res e s := by
 have hv : loadV s true 5 (s.f t) = some v := by rw [hp]; simp only [loadV, hH, List.getElem?_cons_zero, partE, ha, and_self, if_true]
 exact ⟨hx, _, by rw [he]; simp [resV, resL, hv, one], h⟩
instance (g : Grammar) : Cl g.V := ⟨fun b H => ErL.agg (.cons er_cl (.cons er_cl (.cons er_cl (.cons (.str _) (.cons (.str _) .nil)))))⟩
abbrev gramS (src : Source) : Grammar := (ofS src).1
abbrev gramB (src : Source) : Bool := decide ((ofS src).2.1 = 0)
theorem yuccaref16_Grammar {src : Source} (hf : src.Fits) (hS : mayB src = true → Small src) : Pure Try.prog 10 [src.V] (.tup [(gramS src).V, .bool (gramB src)]) := by
 refine pure_intro Try.func10 e10_nm e10_ok (by show 1 ≤ 18; decide) ?_
 show ewp _ e10n5 _ _
 repeat' with_reducible first
  | refine s_ ?_
  | simp -implicitDefEqProofs only [wZZ, seval]
  | (apply callQ1 (hp := yuccaref9_Of hf hS); (focus exact src_er src))
  | (apply ldQ_whole)
  | (apply stQ_whole; (exact wu_); (exact wu_))
  | (apply boxQ_i; (exact wu_); (exact wu_))
 refine post2M (id := 1) rfl (Or.inr rfl) wl_ (by simp -implicitDefEqProofs only [wM, seval]; rfl) rfl ?_
 simp -implicitDefEqProofs only [wL, seval]
 exact ErL.tup (.cons er_cl (.cons (.bool _) .nil))
def partOf (c : UInt8) : Part := { sym := { name := [c], lit := decide (c ≠ 101) } }
def altOf (t : List UInt8) : Alt := { parts := t.map partOf }
def srcOf (l : List (List UInt8)) : Source := { rules := [{ left := [101], alts := l.map altOf }] }
abbrev altV (t : List UInt8) : V := (altOf t).V
abbrev partV (c : UInt8) : V := (partOf c).V
theorem yuccalaw14_of {l : List (List UInt8)} (hl : l.length ≤ 100) (ht : ∀ t ∈ l, t.length ≤ 100) (hf : (srcOf l).Fits) (hS : mayB (srcOf l) = true → Small (srcOf l)) : Pure Try.prog 16 [.sl 1 false (l.map V.str)] ((gramS (srcOf l)).V) := by
 refine pure_intro Try.func16 e16_nm e16_ok (by show 1 ≤ 61; decide) ?_
 show ewp _ e16n35 _ _
 repeat' with_reducible first
  | refine s_ ?_
  | simp -implicitDefEqProofs only [wZZ, seval]
  | (apply bld_nil)
  | (apply bld_part; (exact wu_); (exact wu_); (exact wu_); (focus ((try simp -implicitDefEqProofs only [wE, Nat.reduceAdd]); rfl)))
  | (apply stQ_whole; (exact wu_); (exact wu_))
 refine ewp_loopN ?nx1 (fun (i : Nat) s => s.f 0 = ?v1_0 ∧ s.f 2 = ?v1_2 ∧ s.f 3 = ?v1_3 ∧ s.H 0 = some (MObj.own 5 [gram0] false) ∧ s.f 4 = vi i ∧ (i ≤ l.length) ∧ ((∃ vA ls, s.H 2 = some (MObj.own 3 [.agg [.str [101], vA, vi 0]] false) ∧ Gr s.H s.next 6 ls vA ∧ ErPL ls ((l.take i).map altV)))) (fun i => l.length - i) (0) wj_ (by refine ⟨?_, ?_, ?_, ?_, ?_, (by first | omega | (simp; done) | assumption), (by exact ⟨.sl 6 true [], [], by simp -implicitDefEqProofs only [wM, seval], Gr.nil, .nil⟩)⟩ <;> first | (simp -implicitDefEqProofs only [wL, wM, wN, wX, seval, Option.some.injEq] <;> exact wt_) | rfl | exact ⟨_, rfl⟩) ?_
 intro i s hnx ⟨g0, g2, g3, o0, g4, k1_0, k1_1⟩
 obtain ⟨vA, ls, o2, GA, eA⟩ := k1_1
 have hls := eA.len
 rw [List.length_map, List.length_take] at hls
 by_cases hi : i < l.length
 · have hti := ht _ (List.getElem_mem hi)
   have hgi : l[i]? = some l[i] := List.getElem?_eq_getElem hi
   have htk : l.take (i + 1) = l.take i ++ [l[i]] := by rw [List.take_add_one, hgi]; rfl
   obtain ⟨n0, hn0⟩ : ∃ n0, n0 = s.next := ⟨_, rfl⟩
   have hA2 : gid vA ≠ some 2 := GA.ne (fun f e => by rw [o2] at e; cases e)
   repeat' with_reducible first
    | refine s_ ?_
    | simp -implicitDefEqProofs only [wZZ, seval, g0, g2, g3, g4, o0, o2]
    | (refine condQ_j (fun h h_ => ?_) (fun h h_ => ?_) <;> (try simp only [wD, reduceCtorEq] at h_) <;> (try exact wb_) <;> (try simp only [h]))
   rw [← hn0]
   refine ewp_loopN ?nx2 (fun (k : Nat) s => s.f 0 = ?v2_0 ∧ s.f 2 = ?v2_2 ∧ s.f 3 = ?v2_3 ∧ s.f 4 = ?v2_4 ∧ s.f 5 = ?v2_5 ∧ s.H 0 = some (MObj.own 5 [gram0] false) ∧ s.f 6 = vi k ∧ (k ≤ l[i].length) ∧ ((s.H 2 = some (MObj.own 3 [.agg [.str [101], vA, vi 0]] false))) ∧ ((∃ vP, s.H (n0 + 4) = some (MObj.own 6 [.agg [vP, .str [], .bool false, vi 0, vi 0, vi 0]] false) ∧ Gr s.H s.next 6 ((l[i].take k).map partV) vP ∧ Gr s.H s.next 6 ls vA ∧ Sep vP vA))) (fun k => l[i].length - k) (0) wj_ (by refine ⟨?_, ?_, ?_, ?_, ?_, ?_, ?_, (by first | omega | (simp; done) | assumption), (by simp only [wM]; repeat (first | rw [if_pos trivial] | rw [if_pos rfl] | rw [if_neg (by omega)]); exact o2), (by exact ⟨.sl 6 true [], by simp only [wM]; repeat (first | rw [if_pos trivial] | rw [if_pos rfl] | rw [if_neg (by omega)]), Gr.nil, GA.mono wh_ (fun j h1 hj => by simp only [wM]; repeat (first | rw [if_pos trivial] | rw [if_pos rfl] | rw [if_neg (by omega)])), Sep.slL⟩)⟩ <;> first | (simp -implicitDefEqProofs only [wL, wM, wN, wX, seval, Option.some.injEq, g0, g2, g3, g4, o0] <;> exact wt_) | rfl | exact ⟨_, rfl⟩) ?_
   intro k s hnx ⟨g0, g2, g3, g4, g5, o0, g6, k2_0, k2_1, k2_2⟩
   have o2 := k2_1
   obtain ⟨vP, o4, GP, GA2, SP⟩ := k2_2
   have hP4 : gid vP ≠ some (n0 + 4) := GP.ne (fun f e => by rw [o4] at e; cases e)
   have hP2 : gid vP ≠ some 2 := GP.ne (fun f e => by rw [o2] at e; cases e)
   have hP0 : gid vP ≠ some 0 := GP.ne (fun f e => by rw [o0] at e; cases e)
   have hA4 : gid vA ≠ some (n0 + 4) := GA2.ne (fun f e => by rw [o4] at e; cases e)
   by_cases hk : k < l[i].length
   · have hsl : (l[i].take (k + 1)).drop k = [l[i][k]] := by
      rw [List.drop_take, List.drop_eq_getElem_cons hk, show k + 1 - k = 1 by omega]; rfl
     have hsl2 : ((l[i].take ((k + 1 : Nat) : Int).toNat).drop (k : Int).toNat) = [l[i][k]] := by rw [Int.toNat_natCast, Int.toNat_natCast, hsl]
     have htk2 : l[i].take (k + 1) = l[i].take k ++ [l[i][k]] := by rw [List.take_add_one, List.getElem?_eq_getElem hk]; rfl
     have hz : IntKind.i64.wrap ((k + 1 : Nat) : Int) = ((k + 1 : Nat) : Int) := wrap64 (by omega) (by omega)
     have hgt : l[i]? = some l[i] := hgi
     have hpv : V.agg [.str [l[i][k]], .bool (!decide ((l[i][k].toNat : Int) = 101)), vi 0, vi 0, .str [], vi 0] = partV l[i][k] := by
      have e : (!decide ((l[i][k].toNat : Int) = 101)) = decide (l[i][k] ≠ 101) := by
       rw [Bool.eq_iff_iff]; simp
       constructor
       · intro h e; rw [e] at h; exact h rfl
       · intro h e; exact h (UInt8.toNat_inj.1 (by have : (l[i][k].toNat : Int) = 101 := e; show l[i][k].toNat = 101; omega))
      rw [e]; rfl
     repeat' with_reducible first
      | refine s_ ?_
      | simp -implicitDefEqProofs only [wZZ, seval, g0, g2, g3, g4, g5, g6, o0, o2, o4, hz, hsl, hsl2, dropG_ne hP4, dropG_ne hP2, dropG_ne hP0]
      | (refine condQ_j (fun h h_ => ?_) (fun h h_ => ?_) <;> (try simp only [wD, reduceCtorEq] at h_) <;> (try exact wb_) <;> (try simp only [h]))
      | (apply appQ_G rfl (GP.mono (Nat.le_refl _) (fun id h1 h2 => by (try simp only [wM]); (repeat rw [if_neg (by omega)]))); (focus (first | exact SrcN.sl | exact SrcN.asl)); (focus (simp only [wZ] <;> omega)); (focus (unfold maxLen; simp only [wZ] <;> omega)))
      | (apply ia_slQ; (focus omega); (exact wd_))
      | (apply fil_part; (exact wu_); (exact wu_); (exact wu_); (focus ((try simp -implicitDefEqProofs only [wY]); rfl)))
      | (apply bld_nil)
      | (apply bld_part; (exact wu_); (exact wu_); (exact wu_); (focus ((try simp -implicitDefEqProofs only [wE, Nat.reduceAdd]); rfl)))
      | (apply sls_lohi; (focus omega); (focus omega); (focus omega))
      | (apply ixs_1; (focus omega); (exact wd_))
      | (apply ldQ_cell; (exact wu_))
      | (apply stQ_cell; (exact wu_); (exact wu_); (exact wu_); (exact wf_))
      | simp -implicitDefEqProofs (disch := omega) only [w64, if_neg]
     refine ⟨by (try simp only [wN]) <;> omega, k + 1, by omega, trivial, trivial, trivial, trivial, trivial, trivial, rfl, by omega, trivial, .asl (s.next + 7 + 20) ((l[i].take k).length + 1) 6 ((l[i].take (k + 1)).map partV), ?_, Gr.tok (fin := (l[i].take k).length + 1) ?_ wg_, GA2.mono wg_ (fun j h1 hj => ?_), Sep.newL GA2 (by omega)⟩
     · rw [htk2, List.map_append, hpv]; rfl
     · simp only [wM]
       repeat (first | rw [if_pos trivial] | rw [if_pos rfl] | rw [if_neg (by omega)])
     · have hj4 : j ≠ n0 + 4 := fun e => hA4 (by rw [← e]; exact h1)
       simp only [wM]
       repeat (first | rw [if_pos trivial] | rw [if_pos rfl] | rw [if_neg (by omega)])
       exact dropG_ne (fun e => SP j e h1)
   · rw [List.take_of_length_le (by omega)] at GP
     have hA2' : gid vA ≠ some 2 := GA2.ne (fun f e => by rw [o2] at e; cases e)
     have hA0 : gid vA ≠ some 0 := GA2.ne (fun f e => by rw [o0] at e; cases e)
     repeat' with_reducible first
      | refine s_ ?_
      | simp -implicitDefEqProofs only [wZZ, seval, g0, g2, g3, g4, g5, g6, o0, o2, o4, dropG_ne hA2', dropG_ne hA0, dropG_ne hA4]
      | (refine condQ_j (fun h h_ => ?_) (fun h h_ => ?_) <;> (try simp only [wD, reduceCtorEq] at h_) <;> (try exact wb_) <;> (try simp only [h]))
      | (apply appQ_G rfl (GA2.mono (Nat.le_refl _) (fun id h1 h2 => by (try simp only [wM]); (repeat rw [if_neg (by omega)]))); (focus (first | exact SrcN.sl | exact SrcN.asl)); (focus (simp only [wZ] <;> omega)); (focus (unfold maxLen; simp only [wZ] <;> omega)))
      | (apply ia_slQ; (focus omega); (exact wd_))
      | (apply fil_part; (exact wu_); (exact wu_); (exact wu_); (focus ((try simp -implicitDefEqProofs only [wY]); rfl)))
      | (apply ldQ_whole)
      | (apply ldQ_cell; (exact wu_))
      | (apply stQ_cell; (exact wu_); (exact wu_); (exact wu_); (exact wf_))
      | simp -implicitDefEqProofs (disch := omega) only [w64, if_neg]
     refine ⟨by (try simp only [wN]) <;> omega, i + 1, by omega, trivial, trivial, trivial, trivial, rfl, by omega, .asl (s.next + 7 + 4) (ls.length + 1) 6 (ls ++ [(.agg [vP, .str [], .bool false, vi 0, vi 0, vi 0])]), ls ++ [(.agg [vP, .str [], .bool false, vi 0, vi 0, vi 0])], rfl, Gr.tok (fin := ls.length + 1) ?_ wg_, ?_⟩
     · simp only [wM]
       repeat (first | rw [if_pos trivial] | rw [if_pos rfl] | rw [if_neg (by omega)])
     · rw [htk, List.map_append]
       refine eA.snoc (ErL.agg (.cons ?_ (.cons (.str _) (.cons (.bool _) (.cons (.int _ _) (.cons (.int _ _) (.cons (.int _ _) .nil)))))))
       have e : (altOf l[i]).parts.map Part.V = l[i].map partV := by unfold altOf; rw [List.map_map]; rfl
       rw [e]
       exact GP.er rfl
 · skip
   rw [List.take_of_length_le (by omega)] at eA
   have eA2 : ErPL ls ((l.map altOf).map Alt.V) := by rw [List.map_map]; exact eA
   have hEr : ∀ H, Er false H (.agg [.str [], .sl 4 true [], .sl 3 true [.agg [.str [101], vA, vi 0]], .str []]) (srcOf l).V := fun H =>
    ErL.agg (.cons (.str _) (.cons (ErL.sl .nil) (.cons (ErL.sl (.cons (ErL.agg (.cons (.str _) (.cons (GA.erL eA2.up) (.cons (.int _ _) .nil)))) .nil)) (.cons (.str _) .nil))))
   repeat' with_reducible first
    | refine s_ ?_
    | simp -implicitDefEqProofs only [wZZ, seval, g0, g2, g3, g4, o0, o2]
    | (refine condQ_j (fun h h_ => ?_) (fun h h_ => ?_) <;> (try simp only [wD, reduceCtorEq] at h_) <;> (try exact wb_) <;> (try simp only [h]))
    | (apply callQ1 (hp := yuccaref16_Grammar (src := srcOf l) hf hS); (focus exact hEr _))
    | (apply fil_part; (exact wu_); (exact wu_); (exact wu_); (focus ((try simp -implicitDefEqProofs only [wY]); rfl)))
    | (apply bld_nil)
    | (apply bld_part; (exact wu_); (exact wu_); (exact wu_); (focus ((try simp -implicitDefEqProofs only [wE, Nat.reduceAdd]); rfl)))
    | (apply ldQ_whole)
    | (apply stQ_whole; (exact wu_); (exact wu_))
   refine postM (t := 2) (n := 5) (id := 0) (v := (gramS (srcOf l)).V) (ro := false) rfl (Or.inr rfl) (by simp -implicitDefEqProofs only [wL, seval, g2]) ?_ rfl er_cl
   simp only [wM]
   repeat (first | rw [if_pos trivial] | rw [if_pos rfl] | rw [if_neg (by omega)])
end Go.Proofs
