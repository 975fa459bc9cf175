/-
  Part of a proof that a law of the given program answers true: contracts of its functions, and the law. Holds for inputs of at most 1048576 values and letters in all.
-/
import Derived.Test.YtpnfbnlhjdnnpaaPC
set_option linter.unusedSimpArgs false
set_option linter.unusedVariables false
set_option maxHeartbeats 4000000
namespace Go.Proofs
open Go.E

/-- A source that is not too long, of symbols that may be. -/
structure Small (x : Source) : Prop where
  dl : x.decls.length ≤ 1000
  ds : ∀ d ∈ x.decls, d.syms.length ≤ 1000
  dk : ∀ d ∈ x.decls, 1 ≤ d.kind ∧ d.kind ≤ 6
  dx : ∀ d ∈ x.decls, ∀ y ∈ d.syms, y.lit = true → y.name ≠ []
  rl : x.rules.length ≤ 1000
  ra : ∀ r ∈ x.rules, r.alts.length ≤ 1000
  rp : ∀ r ∈ x.rules, ∀ a ∈ r.alts, a.parts.length ≤ 1000
  rx : ∀ r ∈ x.rules, ∀ a ∈ r.alts, ∀ w ∈ a.parts, w.sym.lit = true → w.sym.name ≠ []
  rq : ∀ r ∈ x.rules, ∀ a ∈ r.alts, a.prec.lit = true → a.prec.name ≠ []
abbrev gram0 : V := .agg [.sl 6 true [], .sl 2 true [], .sl 6 true [], .str [], .str []]
/-- The state of the maker's making. -/
structure OfAt (s : St) (m : Nat) (src : Source) (ti gi : Nat) (vN vP vT vL : V) (M : Mk) : Prop where
  at_ : MkAt s.H s.next m ti gi vN vP vT vL M
  f1 : s.f 1 = .ptr 0 0 0
  f2 : s.f 2 = .ptr 1 0 0
  f6 : s.f 6 = .ptr m 0 0
  h0 : s.H 0 = some (.own 4 [src.V] false)
  h1 : s.H 1 = some (.own 5 [gram0] false)
  ln : 1 < s.next
theorem MkAt.far {H : Nat → Option MObj} {next m ti gi : Nat} {vN vP vT vL : V} {M : Mk} (h : MkAt H next m ti gi vN vP vT vL M) {j z : Nat} {e : V} (hj : H j = some (.own z [e] false)) (hz : z ≠ 13) (hz1 : z ≠ 1) : j ≠ m ∧ j ≠ ti ∧ j ≠ gi ∧ ∀ f, H j ≠ some (.tok f) := by
  refine ⟨fun q => ?_, fun q => ?_, fun q => ?_, fun f q => ?_⟩
  · rw [q, h.hm] at hj; cases hj; exact hz rfl
  · rw [q, h.ht] at hj
    have := h.len3
    injection hj with hj; injection hj with _ hj
    have := congrArg List.length hj
    simp at this; omega
  · rw [q, h.hg] at hj
    injection hj with hj; injection hj with hj
    exact hz1 hj.symm
  · rw [hj] at q; cases q
theorem OfAt.upd {s s' : St} {m : Nat} {src : Source} {ti gi ti' gi' : Nat} {vN vP vT vL vN' vP' vT' vL' : V} {M M' : Mk} (h : OfAt s m src ti gi vN vP vT vL M) (hA : MkAt s'.H s'.next m ti' gi' vN' vP' vT' vL' M')
    (f1 : s'.f 1 = s.f 1) (f2 : s'.f 2 = s.f 2) (f6 : s'.f 6 = s.f 6) (hn : s.next ≤ s'.next) (hH : FrO s.H s'.H s.next m ti gi) : OfAt s' m src ti' gi' vN' vP' vT' vL' M' := by
  have ln := h.ln
  obtain ⟨a1, a2, a3, a4⟩ := h.at_.far h.h0 (by decide) (by decide)
  obtain ⟨b1, b2, b3, b4⟩ := h.at_.far h.h1 (by decide) (by decide)
  exact ⟨hA, f1.trans h.f1, f2.trans h.f2, f6.trans h.f6, by rw [hH 0 (by omega) a1 a2 a3 a4]; exact h.h0, by rw [hH 1 (by omega) b1 b2 b3 b4]; exact h.h1, by omega⟩
theorem OfAt.mono {s s' : St} {m : Nat} {src : Source} {ti gi : Nat} {vN vP vT vL : V} {M : Mk} (h : OfAt s m src ti gi vN vP vT vL M) (f1 : s'.f 1 = s.f 1) (f2 : s'.f 2 = s.f 2) (f6 : s'.f 6 = s.f 6) (hn : s.next ≤ s'.next) (hH : ∀ j, j < s.next → s'.H j = s.H j) : OfAt s' m src ti gi vN vP vT vL M :=
  h.upd (h.at_.mono hn hH) f1 f2 f6 hn fun j g _ _ _ _ => hH j g
/-- Some parts of the maker are the same. -/
abbrev SameM (M M' : Mk) : Prop := M'.lefts = M.lefts ∧ M'.prods = M.prods ∧ M'.nons = M.nons ∧ M'.inner = M.inner
theorem declM_f (M : Mk) (d : Decl) (x : Sym) : SameM M (declM M d x) ∧ (declM M d x).level = M.level ∧ M.toks.length ≤ (declM M d x).toks.length ∧ (declM M d x).toks.length ≤ M.toks.length + 1 ∧ (declM M d x).types.length ≤ M.types.length + 1 := by
  obtain ⟨ff1, ff2, ff3, ff4, ff5, ff6, ff7, ff8⟩ := failM_f M x.at_ x.name
  obtain ⟨p1, p2, p3, p4, p5, p6, p7, p8⟩ := putM_f M x
  unfold declM
  split
  · dsimp only
    split
    · exact ⟨⟨rfl, rfl, rfl, rfl⟩, rfl, Nat.le_refl _, by dsimp only; omega, by simp⟩
    · split
      · exact ⟨⟨ff3, ff5, ff6, ff8⟩, ff7, by rw [ff1]; omega, by rw [ff1]; omega, by rw [ff4]; omega⟩
      · exact ⟨⟨rfl, rfl, rfl, rfl⟩, rfl, Nat.le_refl _, by omega, by omega⟩
  · dsimp only
    generalize putM M x = P at *
    have hA : SameM P.1 (declA P.1 d.kind x P.2) ∧ (declA P.1 d.kind x P.2).level = P.1.level := by
      obtain ⟨gg1, gg2, gg3, gg4, gg5, gg6, gg7, gg8⟩ := failM_f P.1 x.at_ x.name
      unfold declA; split
      · exact ⟨⟨rfl, rfl, rfl, rfl⟩, rfl⟩
      · dsimp only; split <;> simp [setT, SameM, gg3, gg5, gg6, gg7, gg8]
    have hB : ∀ M : Mk, SameM M (declB2 M x P.2) ∧ (declB2 M x P.2).level = M.level := fun M => by
      obtain ⟨gg1, gg2, gg3, gg4, gg5, gg6, gg7, gg8⟩ := failM_f M x.at_ x.name
      unfold declB2; split
      · dsimp only; split <;> simp [setT, SameM, gg3, gg5, gg6, gg7, gg8]
      · exact ⟨⟨rfl, rfl, rfl, rfl⟩, rfl⟩
    have hC : ∀ M : Mk, SameM M (declC M d.tag x P.2) ∧ (declC M d.tag x P.2).level = M.level := fun M => by
      obtain ⟨gg1, gg2, gg3, gg4, gg5, gg6, gg7, gg8⟩ := failM_f M x.at_ x.name
      unfold declC; split
      · dsimp only; split <;> simp [setT, SameM, gg3, gg5, gg6, gg7, gg8]
      · exact ⟨⟨rfl, rfl, rfl, rfl⟩, rfl⟩
    obtain ⟨⟨a1, a2, a3, a4⟩, a5⟩ := hA
    obtain ⟨⟨b1, b2, b3, b4⟩, b5⟩ := hB (declA P.1 d.kind x P.2)
    obtain ⟨⟨c1, c2, c3, c4⟩, c5⟩ := hC (declB2 (declA P.1 d.kind x P.2) x P.2)
    have e1 := (declAM_f P.1 d.kind x P.2); have e2 := declBM_f (declA P.1 d.kind x P.2) x P.2; have e3 := declCM_f (declB2 (declA P.1 d.kind x P.2) x P.2) d.tag x P.2
    refine ⟨⟨by rw [c1, b1, a1, p2], by rw [c2, b2, a2, p3], by rw [c3, b3, a3, p4], by rw [c4, b4, a4, p6]⟩, by rw [c5, b5, a5, p5], by rw [e3.2, e2.2, e1.2]; exact p7, by rw [e3.2, e2.2, e1.2]; exact p8, by rw [e3.1, e2.1, e1.1, p1]; omega⟩

theorem synGo_nil (d : Decl) (q : Mk × List UInt8) : synGo d [] q = q := rfl
theorem synGo_cons (d : Decl) (x : Sym) (r : List Sym) (M : Mk) (st : List UInt8) : synGo d (x :: r) (M, st) = if d.kind ≠ 6 then synGo d r (declM M d x, st) else synGo d r (if st ≠ [] then failM M x.at_ x.name else M, x.name) := by rw [synGo]
theorem decGo_nil (q : Mk × List UInt8) : decGo [] q = q := rfl
theorem decGo_cons (d : Decl) (r : List Decl) (M : Mk) (st : List UInt8) : decGo (d :: r) (M, st) = decGo r (synGo d d.syms (if 2 ≤ d.kind ∧ d.kind ≤ 4 then { M with level := M.level + 1 } else M, st)) := by rw [decGo]
/-- The level is the next one. -/
abbrev lvlM (M : Mk) (d : Decl) : Mk := if 2 ≤ d.kind ∧ d.kind ≤ 4 then { M with level := M.level + 1 } else M

theorem synWalk {s0 : St} {m ti gi db : Nat} {src : Source} {vN vP vT vL : V} {M : Mk} {st : List UInt8} {d : Decl} {Q : Exit → St → Prop} (h : OfAt s0 m src ti gi vN vP vT vL M) (hT : Gr s0.H s0.next 2 (M.types.map Non.V) vT) (f7 : s0.f 7 = .str st) (f9 : s0.f 9 = .ptr db 0 0) (hd : s0.H db = some (.own 4 [d.V] false)) (ld : db < s0.next)
    (b1 : M.toks.length + d.syms.length ≤ 10000000000) (b2 : M.types.length + d.syms.length ≤ 10000000000) (hk : 1 ≤ d.kind ∧ d.kind ≤ 6) (hx : ∀ y ∈ d.syms, y.lit = true → y.name ≠ [])
    (hQ : ∀ s' ti' gi' vT', OfAt s' m src ti' gi' vN vP vT' vL (synGo d d.syms (M, st)).1 → Gr s'.H s'.next 2 ((synGo d d.syms (M, st)).1.types.map Non.V) vT' → s'.f 7 = .str (synGo d d.syms (M, st)).2 → s'.f 8 = s0.f 8 → s0.next ≤ s'.next → SameM M (synGo d d.syms (M, st)).1 → (synGo d d.syms (M, st)).1.level = M.level → (synGo d d.syms (M, st)).1.toks.length ≤ M.toks.length + d.syms.length → (synGo d d.syms (M, st)).1.types.length ≤ M.types.length + d.syms.length → Q .normal s') : ewp Try.prog e28n40 Q s0 := by
  generalize hR : synGo d d.syms (M, st) = R at hQ
  have f1 := h.f1; have f2 := h.f2; have f6 := h.f6
  have hA0 := h
  repeat' with_reducible first
    | refine ewp_reg_seq ?_ | refine ewp_block ?_
    | simp -implicitDefEqProofs only [wA, Nat.reduceEqDiff, ↓reduceIte, reduceCtorEq, Nat.reduceAdd, Int.cast_ofNat_Int, Int.reduceLT, Int.reduceLE, Int.reduceEq, Int.reduceToNat, decide_true, decide_false, Bool.false_eq_true, f1, f2, f6, f7]
  refine ewp_loopN ?nx2 (fun (z : Nat × Mk × List UInt8) s => s.f 1 = ?v2_1 ∧ s.f 2 = ?v2_2 ∧ s.f 6 = ?v2_6 ∧ s.f 8 = ?v2_8 ∧ s.f 9 = ?v2_9 ∧ s.f 10 = vi z.1 ∧ (z.1 ≤ d.syms.length) ∧ ((∃ ti gi vT, OfAt s m src ti gi vN vP vT vL z.2.1 ∧ Gr s.H s.next 2 (z.2.1.types.map Non.V) vT)) ∧ (synGo d (d.syms.drop z.1) z.2 = R) ∧ ((SameM M z.2.1)) ∧ ((z.2.1.toks.length ≤ M.toks.length + z.1)) ∧ ((z.2.1.types.length ≤ M.types.length + z.1)) ∧ ((z.2.1.level = M.level)) ∧ ((s.H db = some (.own 4 [d.V] false))) ∧ (s.f 7 = .str z.2.2)) (fun z => d.syms.length - z.1) ((0, M, st)) (by simp -implicitDefEqProofs only [wN, Nat.reduceAdd, Nat.zero_add]; exact Nat.le_refl _) (by refine ⟨?_, ?_, ?_, ?_, ?_, ?_, (by first | omega | (simp; done) | assumption), (by exact ⟨ti, gi, vT, hA0.mono (by simp -implicitDefEqProofs only [wL, Nat.reduceEqDiff, ↓reduceIte, reduceCtorEq]) (by simp -implicitDefEqProofs only [wL, Nat.reduceEqDiff, ↓reduceIte, reduceCtorEq]) (by simp -implicitDefEqProofs only [wL, Nat.reduceEqDiff, ↓reduceIte, reduceCtorEq]) (by simp only [wN]; omega) (fun j hj => by simp only [wM]), hT.mono (by simp only [wN]; omega) (fun j h1 hj => by simp only [wM])⟩), (by exact hR), (by exact ⟨rfl, rfl, rfl, rfl⟩), (by dsimp only; omega), (by dsimp only; omega), (by rfl), (by simp only [wM]; exact hd), (by (try simp -implicitDefEqProofs only [wL, wM, wN, Nat.reduceEqDiff, ↓reduceIte, reduceCtorEq]); exact f7)⟩ <;> first | (simp -implicitDefEqProofs only [wL, wM, wN, wX, Nat.reduceEqDiff, ↓reduceIte, reduceCtorEq, Nat.reduceAdd, Option.some.injEq] <;> first | rfl | exact ⟨_, rfl⟩ | exact ⟨_, rfl, by first | assumption | exact Gr.nil | exact Gr.tok rfl (by omega) | exact Gr.tok (by simp -implicitDefEqProofs only [wM, Nat.reduceEqDiff, ↓reduceIte, reduceCtorEq] <;> rfl) (by omega) | exact Gr.clip⟩) | rfl | exact ⟨_, rfl⟩) ?_
  intro z s hnx ⟨g1, g2, g6, g8, g9, g10, k2_0, k2_1, k2_2, k2_3, k2_4, k2_5, k2_6, k2_7, g7⟩
  obtain ⟨k, M1, st1⟩ := z
  dsimp only at g7 g10 k2_0 k2_1 k2_2 k2_3 k2_4 k2_5 k2_6
  obtain ⟨ti1, gi1, vT1, hA1, hT1⟩ := k2_1
  have od := k2_7
  have g1 := hA1.f1; have g2 := hA1.f2; have g6 := hA1.f6; have o0 := hA1.h0; have o1 := hA1.h1; have ln := hA1.ln
  have hM := hA1.at_; have hm := hM.hm; have lm := hM.lm; have lt := hM.lt; have lg := hM.lg
  obtain ⟨a1, a2, a3, a4⟩ := hM.far od (by decide) (by decide)
  have g9' := g9.trans f9
  by_cases hk2 : k < d.syms.length
  · rw [List.drop_eq_getElem_cons hk2, synGo_cons] at k2_2
    have hxk := hx _ (List.getElem_mem hk2)
    by_cases h6 : d.kind = 6
    · rw [if_neg (by simp [h6])] at k2_2
      by_cases hst : st1 = []
      · rw [if_neg (by simp [hst])] at k2_2
        repeat' with_reducible first
          | refine ewp_reg_seq ?_ | refine ewp_seq ?_ | refine ewp_reg ?_ | refine ewp_skip ?_ | refine ewp_block ?_ | refine xt_n ?_ | refine xb_n ?_ | refine ewp_condQ ?_ | refine condQ_F ?_
          | simp -implicitDefEqProofs only [wA, Nat.reduceEqDiff, ↓reduceIte, reduceCtorEq, Nat.reduceAdd, Int.cast_ofNat_Int, Int.reduceLT, Int.reduceLE, Int.reduceEq, Int.reduceToNat, decide_true, decide_false, Bool.false_eq_true, g1, g2, g6, g8, g9, g10, g7, g1, g2, g6, g7, f9, g10, od, hm, hst]
          | (refine condQ_i (fun h => ?_) (fun h => ?_) <;> have h_ := h <;> (try simp only [wD, reduceCtorEq] at h_) <;> (try (exfalso; first | omega | exact bf h_ (by assumption) | exact bt h_ (by assumption) | (refine absurd ?_ h_; focus assumption) | (refine absurd h_ ?_; focus assumption))) <;> (try simp only [h]))
          | (apply ia_slQ; (focus omega); (focus (first | assumption | exact List.getElem?_eq_getElem (by omega) | rfl)))
          | (apply ldQ_cell; (focus with_unfolding_all rfl))
          | (apply ld_ipQ; (focus with_unfolding_all rfl))
          | simp -implicitDefEqProofs (disch := omega) only [w64, if_neg]
        refine ⟨by (try simp only [wN]); omega, (k + 1, M1, d.syms[k].name), by dsimp only; omega, f1.symm, f2.symm, f6.symm, by first | trivial | rfl, by first | trivial | rfl, rfl, by dsimp only; omega, ⟨ti1, gi1, vT1, hA1.mono (by simp -implicitDefEqProofs only [wL, Nat.reduceEqDiff, ↓reduceIte, reduceCtorEq]) (by simp -implicitDefEqProofs only [wL, Nat.reduceEqDiff, ↓reduceIte, reduceCtorEq]) (by simp -implicitDefEqProofs only [wL, Nat.reduceEqDiff, ↓reduceIte, reduceCtorEq]) (by (try simp only [wN]); omega) (fun j hj => by first | rfl | simp only [wM]), hT1.mono (by (try simp only [wN]); omega) (fun j h1 hj => by first | rfl | simp only [wM])⟩, k2_2, k2_3, by dsimp only; omega, by dsimp only; omega, k2_6, by first | trivial | exact od | (simp only [wM]; exact od), rfl⟩
      · rw [if_pos hst] at k2_2
        repeat' with_reducible first
          | refine ewp_reg_seq ?_ | refine ewp_seq ?_ | refine ewp_reg ?_ | refine ewp_skip ?_ | refine ewp_block ?_ | refine xt_n ?_ | refine ewp_condQ ?_
          | simp -implicitDefEqProofs only [wA, Nat.reduceEqDiff, ↓reduceIte, reduceCtorEq, Nat.reduceAdd, Int.cast_ofNat_Int, Int.reduceLT, Int.reduceLE, Int.reduceEq, Int.reduceToNat, decide_true, decide_false, Bool.false_eq_true, g1, g2, g6, g8, g9, g10, g7, g1, g2, g6, g7, f9, g10, od, hm]
          | (refine condQ_i (fun h => ?_) (fun h => ?_) <;> have h_ := h <;> (try simp only [wD, reduceCtorEq] at h_) <;> (try (exfalso; first | omega | exact bf h_ (by assumption) | exact bt h_ (by assumption) | (refine absurd ?_ h_; focus assumption) | (refine absurd h_ ?_; focus assumption))) <;> (try simp only [h]))
          | (refine callQWc rfl rfl rfl ((failE (hM.mono (by simp only [wN]; omega) (fun j hj => by (try simp only [wM]); (repeat rw [if_neg (by omega)])))).mono ?_); rintro v1 H1 n1 ⟨q1, q2, q3⟩; (try simp only [wN] at q1); (try simp only [wM] at q3))
          | (apply ia_slQ; (focus omega); (focus (first | assumption | exact List.getElem?_eq_getElem (by omega) | rfl)))
          | (apply ldQ_cell; (focus with_unfolding_all rfl))
          | (apply ld_ipQ; (focus with_unfolding_all rfl))
        (try simp only [wN] at q1); (try simp only [wM, wN] at q3)
        have od1 : H1 db = some (.own 4 [d.V] false) := by rw [q3 db (by omega) a1]; exact od
        obtain ⟨ff1, ff2, ff3, ff4, ff5, ff6, ff7, ff8⟩ := failM_f M1 d.syms[k].at_ d.syms[k].name
        obtain ⟨sm1, sm2, sm3, sm4⟩ := k2_3
        repeat' with_reducible first
          | refine ewp_reg ?_ | refine xt_n ?_ | refine xb_n ?_
          | simp -implicitDefEqProofs only [wA, Nat.reduceEqDiff, ↓reduceIte, reduceCtorEq, Nat.reduceAdd, Int.cast_ofNat_Int, Int.reduceLT, Int.reduceLE, Int.reduceEq, Int.reduceToNat, decide_true, decide_false, Bool.false_eq_true, g1, g2, g6, g8, g9, g10, g7, f9, g10, od1]
          | (apply ia_slQ; (focus omega); (focus (first | assumption | exact List.getElem?_eq_getElem (by omega) | rfl)))
          | (apply ldQ_cell; (focus with_unfolding_all rfl))
          | (apply ld_ipQ; (focus with_unfolding_all rfl))
          | simp -implicitDefEqProofs (disch := omega) only [w64, if_neg]
        refine ⟨by (try simp only [wN]); omega, (k + 1, (failM M1 d.syms[k].at_ d.syms[k].name), d.syms[k].name), by dsimp only; omega, f1.symm, f2.symm, f6.symm, by first | trivial | rfl, by first | trivial | rfl, rfl, by dsimp only; omega, ⟨ti1, gi1, vT1, hA1.upd (q2.mono (by (try simp only [wN]); omega) (fun j hj => by first | rfl | simp only [wM])) (by simp -implicitDefEqProofs only [wL, Nat.reduceEqDiff, ↓reduceIte, reduceCtorEq]) (by simp -implicitDefEqProofs only [wL, Nat.reduceEqDiff, ↓reduceIte, reduceCtorEq]) (by simp -implicitDefEqProofs only [wL, Nat.reduceEqDiff, ↓reduceIte, reduceCtorEq]) (by (try simp only [wN]); omega) (fun j h1 h2 h3 h4 h5 => by (try simp only [wM]); exact q3 j (by omega) h2), by rw [ff4]; exact hT1.stay hM (by (try simp only [wN]); omega) (fun j h1 h2 h3 h4 => by (try simp only [wM]); exact q3 j (by omega) h2)⟩, k2_2, ⟨ff3.trans sm1, ff5.trans sm2, ff6.trans sm3, ff8.trans sm4⟩, by dsimp only; rw [ff1]; omega, by dsimp only; rw [ff4]; omega, ff7.trans k2_6, by first | trivial | exact od1 | (simp only [wM]; exact od1), rfl⟩
    · rw [if_pos h6] at k2_2
      obtain ⟨⟨dm1, dm2, dm3, dm4⟩, dm5, dm6, dm7, dm8⟩ := declM_f M1 d d.syms[k]
      obtain ⟨sm1, sm2, sm3, sm4⟩ := k2_3
      repeat' with_reducible first
        | refine ewp_reg_seq ?_ | refine ewp_seq ?_ | refine ewp_reg ?_ | refine ewp_skip ?_ | refine ewp_block ?_ | refine ewp_exit ?_ | refine xt_n ?_ | refine xt_e ?_ | refine xb_e ?_ | refine ewp_condQ ?_
        | simp -implicitDefEqProofs only [wA, Nat.reduceEqDiff, ↓reduceIte, reduceCtorEq, Nat.reduceAdd, Int.cast_ofNat_Int, Int.reduceLT, Int.reduceLE, Int.reduceEq, Int.reduceToNat, decide_true, decide_false, Bool.false_eq_true, g1, g2, g6, g8, g9, g10, g7, g1, g2, g6, g7, f9, g10, od, hm]
        | (refine condQ_i (fun h => ?_) (fun h => ?_) <;> have h_ := h <;> (try simp only [wD, reduceCtorEq] at h_) <;> (try (exfalso; first | omega | exact bf h_ (by assumption) | exact bt h_ (by assumption) | (refine absurd ?_ h_; focus assumption) | (refine absurd h_ ?_; focus assumption))) <;> (try simp only [h]))
        | (refine callQWc rfl rfl rfl ((declE (hM.mono (by (try simp only [wN]); omega) (fun j hj => by first | rfl | simp only [wM])) (hT1.mono (by (try simp only [wN]); omega) (fun j h1 hj => by first | rfl | simp only [wM])) (by omega) (by omega) hxk hk).mono ?_); rintro v1 H1 n1 ⟨q1, ⟨ti', gi', vT', q2, q3, q4, q5⟩, q6⟩; (try simp only [wN] at q1))
        | (apply ia_slQ; (focus omega); (focus (first | assumption | exact List.getElem?_eq_getElem (by omega) | rfl)))
        | (apply ldQ_whole)
        | (apply ldQ_cell; (focus with_unfolding_all rfl))
        | simp -implicitDefEqProofs (disch := omega) only [w64, if_neg]
      have q6' : ∀ j, j < s.next → j ≠ m → j ≠ ti1 → j ≠ gi1 → (∀ f, s.H j ≠ some (.tok f)) → H1 j = s.H j := fun j h1 h2 h3 h4 h5 => q6 j (by (try simp only [wN]); omega) h2 h3 h4 (by (try simp only [wM]); exact h5)
      refine ⟨by (try simp only [wN]); omega, (k + 1, (declM M1 d d.syms[k]), st1), by dsimp only; omega, f1.symm, f2.symm, f6.symm, by first | trivial | rfl, by first | trivial | rfl, rfl, by dsimp only; omega, ⟨ti', gi', vT', hA1.upd (q4.mono (by (try simp only [wN]); omega) (fun j hj => by first | rfl | simp only [wM])) (by simp -implicitDefEqProofs only [wL, Nat.reduceEqDiff, ↓reduceIte, reduceCtorEq]) (by simp -implicitDefEqProofs only [wL, Nat.reduceEqDiff, ↓reduceIte, reduceCtorEq]) (by simp -implicitDefEqProofs only [wL, Nat.reduceEqDiff, ↓reduceIte, reduceCtorEq]) (by (try simp only [wN]); omega) (fun j h1 h2 h3 h4 h5 => by (try simp only [wM]); exact q6' j h1 h2 h3 h4 h5), q5.mono (by (try simp only [wN]); omega) (fun j h1 h2 => by first | rfl | simp only [wM])⟩, k2_2, ⟨dm1.trans sm1, dm2.trans sm2, dm3.trans sm3, dm4.trans sm4⟩, by dsimp only; omega, by dsimp only; omega, dm5.trans k2_6, by (try simp only [wM]); rw [q6' db (by omega) a1 a2 a3 a4]; exact od, rfl⟩
  · rw [List.drop_eq_nil_of_le (by omega), synGo_nil] at k2_2
    subst k2_2
    repeat' with_reducible first
      | refine ewp_reg_seq ?_ | refine ewp_seq ?_ | refine ewp_exit ?_ | refine xt_e ?_ | refine xb_e ?_ | refine ewp_condQ ?_
      | simp -implicitDefEqProofs only [wA, Nat.reduceEqDiff, ↓reduceIte, reduceCtorEq, Nat.reduceAdd, Int.cast_ofNat_Int, Int.reduceLT, Int.reduceLE, Int.reduceEq, Int.reduceToNat, decide_true, decide_false, Bool.false_eq_true, g1, g2, g6, g8, g9, g10, g7, g1, g2, g6, g7, f9, g10, od]
      | (refine condQ_i (fun h => ?_) (fun h => ?_) <;> have h_ := h <;> (try simp only [wD, reduceCtorEq] at h_) <;> (try (exfalso; first | omega | exact bf h_ (by assumption) | exact bt h_ (by assumption) | (refine absurd ?_ h_; focus assumption) | (refine absurd h_ ?_; focus assumption))) <;> (try simp only [h]))
      | (apply ldQ_cell; (focus with_unfolding_all rfl))
    exact hQ _ ti1 gi1 vT1 (hA1.mono (by simp -implicitDefEqProofs only [wL, Nat.reduceEqDiff, ↓reduceIte, reduceCtorEq]) (by simp -implicitDefEqProofs only [wL, Nat.reduceEqDiff, ↓reduceIte, reduceCtorEq]) (by simp -implicitDefEqProofs only [wL, Nat.reduceEqDiff, ↓reduceIte, reduceCtorEq]) (by (try simp only [wN]); omega) (fun j hj => by first | rfl | simp only [wM])) (hT1.mono (by (try simp only [wN]); omega) (fun j h1 hj => by first | rfl | simp only [wM])) (by simp -implicitDefEqProofs only [wL, Nat.reduceEqDiff, ↓reduceIte, reduceCtorEq]; exact g7) (by simp -implicitDefEqProofs only [wL, Nat.reduceEqDiff, ↓reduceIte, reduceCtorEq]; exact g8) (by (try simp only [wN]); omega) k2_3 k2_6 (by dsimp only at *; omega) (by dsimp only at *; omega)
theorem decWalk {s0 : St} {m ti gi : Nat} {src : Source} {vN vP vT vL : V} {M : Mk} {st : List UInt8} {E : EC} {Q : Exit → St → Prop} (h : OfAt s0 m src ti gi vN vP vT vL M) (hT : Gr s0.H s0.next 2 (M.types.map Non.V) vT) (f7 : s0.f 7 = .str st) (hS : Small src)
    (b1 : M.toks.length ≤ 1000000000) (b2 : M.types.length ≤ 1000000000) (b3 : 0 ≤ M.level) (b4 : M.level ≤ 1000000000)
    (hQ : ∀ s' ti' gi' vT', OfAt s' m src ti' gi' vN vP vT' vL (decGo src.decls (M, st)).1 → s'.f 7 = .str (decGo src.decls (M, st)).2 → SameM M (decGo src.decls (M, st)).1 → (decGo src.decls (M, st)).1.toks.length ≤ M.toks.length + 1000000 → (decGo src.decls (M, st)).1.types.length ≤ M.types.length + 1000000 → ewp Try.prog E Q s') : ewp Try.prog (.seq e28n49 E) Q s0 := by
  generalize hR : decGo src.decls (M, st) = R at hQ
  have f1 := h.f1; have f2 := h.f2; have f6 := h.f6
  have hA0 := h
  repeat' with_reducible first
    | refine ewp_reg_seq ?_ | refine ewp_seq ?_ | refine ewp_block ?_
    | simp -implicitDefEqProofs only [wA, Nat.reduceEqDiff, ↓reduceIte, reduceCtorEq, Nat.reduceAdd, Int.cast_ofNat_Int, Int.reduceLT, Int.reduceLE, Int.reduceEq, Int.reduceToNat, decide_true, decide_false, Bool.false_eq_true, f1, f2, f6, f7]
  refine ewp_loopN ?nx1 (fun (z : Nat × Mk × List UInt8) s => s.f 1 = ?v1_1 ∧ s.f 2 = ?v1_2 ∧ s.f 6 = ?v1_6 ∧ s.f 8 = vi z.1 ∧ (z.1 ≤ src.decls.length) ∧ ((∃ ti gi vT, OfAt s m src ti gi vN vP vT vL z.2.1 ∧ Gr s.H s.next 2 (z.2.1.types.map Non.V) vT)) ∧ (decGo (src.decls.drop z.1) z.2 = R) ∧ ((SameM M z.2.1)) ∧ ((z.2.1.toks.length ≤ M.toks.length + 1000 * z.1)) ∧ ((z.2.1.types.length ≤ M.types.length + 1000 * z.1)) ∧ ((0 ≤ z.2.1.level ∧ z.2.1.level ≤ M.level + z.1)) ∧ (s.f 7 = .str z.2.2)) (fun z => src.decls.length - z.1) ((0, M, st)) (by simp -implicitDefEqProofs only [wN, Nat.reduceAdd, Nat.zero_add]; exact Nat.le_refl _) (by refine ⟨?_, ?_, ?_, ?_, (by first | omega | (simp; done) | assumption), (by exact ⟨ti, gi, vT, hA0.mono (by simp -implicitDefEqProofs only [wL, Nat.reduceEqDiff, ↓reduceIte, reduceCtorEq]) (by simp -implicitDefEqProofs only [wL, Nat.reduceEqDiff, ↓reduceIte, reduceCtorEq]) (by simp -implicitDefEqProofs only [wL, Nat.reduceEqDiff, ↓reduceIte, reduceCtorEq]) (by simp only [wN]; omega) (fun j hj => by simp only [wM]), hT.mono (by simp only [wN]; omega) (fun j h1 hj => by simp only [wM])⟩), (by exact hR), (by exact ⟨rfl, rfl, rfl, rfl⟩), (by dsimp only; omega), (by dsimp only; omega), (by dsimp only; omega), (by (try simp -implicitDefEqProofs only [wL, wM, wN, Nat.reduceEqDiff, ↓reduceIte, reduceCtorEq]); exact f7)⟩ <;> first | (simp -implicitDefEqProofs only [wL, wM, wN, wX, Nat.reduceEqDiff, ↓reduceIte, reduceCtorEq, Nat.reduceAdd, Option.some.injEq] <;> first | rfl | exact ⟨_, rfl⟩ | exact ⟨_, rfl, by first | assumption | exact Gr.nil | exact Gr.tok rfl (by omega) | exact Gr.tok (by simp -implicitDefEqProofs only [wM, Nat.reduceEqDiff, ↓reduceIte, reduceCtorEq] <;> rfl) (by omega) | exact Gr.clip⟩) | rfl | exact ⟨_, rfl⟩) ?_
  intro z s hnx ⟨g1, g2, g6, g8, k1_0, k1_1, k1_2, k1_3, k1_4, k1_5, k1_6, g7⟩
  obtain ⟨i, M1, st1⟩ := z
  dsimp only at g7 g8 k1_0 k1_1 k1_2 k1_3 k1_4 k1_5 k1_6
  obtain ⟨ti1, gi1, vT1, hA1, hT1⟩ := k1_1
  have g1 := hA1.f1; have g2 := hA1.f2; have g6 := hA1.f6; have o0 := hA1.h0; have o1 := hA1.h1; have ln := hA1.ln
  have hM := hA1.at_; have hm := hM.hm; have lm := hM.lm; have lt := hM.lt; have lg := hM.lg
  obtain ⟨n1, n2, n3⟩ := hM.mt
  obtain ⟨c1, c2, c3⟩ := hM.nt
  by_cases hi : i < src.decls.length
  · rw [List.drop_eq_getElem_cons hi, decGo_cons] at k1_2
    have hd1 := hS.ds _ (List.getElem_mem hi); have hd2 := hS.dk _ (List.getElem_mem hi); have hd3 := hS.dx _ (List.getElem_mem hi)
    have hl := hS.dl
    have hl := hS.dl
    have hz : IntKind.i64.wrap (M1.level + 1) = M1.level + 1 := wrap64 (by omega) (by omega)
    show ewp _ (.seq e28n12 (.seq (.block 1 (.seq (.reg e28r13) (.seq e28n17 e28n40))) (.reg e28r44))) _ _
    have T : ∀ (s' : St) (Q : Exit → St → Prop) (db : Nat), OfAt s' m src ti1 gi1 vN vP vT1 vL (lvlM M1 src.decls[i]) → Gr s'.H s'.next 2 (M1.types.map Non.V) vT1 → s'.f 7 = .str st1 → s'.f 9 = .ptr db 0 0 → s'.H db = some (.own 4 [src.decls[i].V] false) → db < s'.next →
        (∀ s2 ti' gi' vT', OfAt s2 m src ti' gi' vN vP vT' vL (synGo src.decls[i] src.decls[i].syms (lvlM M1 src.decls[i], st1)).1 → Gr s2.H s2.next 2 ((synGo src.decls[i] src.decls[i].syms (lvlM M1 src.decls[i], st1)).1.types.map Non.V) vT' → s2.f 7 = .str (synGo src.decls[i] src.decls[i].syms (lvlM M1 src.decls[i], st1)).2 → s2.f 8 = s'.f 8 → s'.next ≤ s2.next → SameM (lvlM M1 src.decls[i]) (synGo src.decls[i] src.decls[i].syms (lvlM M1 src.decls[i], st1)).1 → (synGo src.decls[i] src.decls[i].syms (lvlM M1 src.decls[i], st1)).1.level = (lvlM M1 src.decls[i]).level → (synGo src.decls[i] src.decls[i].syms (lvlM M1 src.decls[i], st1)).1.toks.length ≤ M1.toks.length + src.decls[i].syms.length → (synGo src.decls[i] src.decls[i].syms (lvlM M1 src.decls[i], st1)).1.types.length ≤ M1.types.length + src.decls[i].syms.length → Q .normal s2) → ewp Try.prog e28n40 Q s' := by
      intro s' Q db q1 q2 q3 q4 q5 q6 q7
      have et : (lvlM M1 src.decls[i]).types = M1.types := by unfold lvlM; split <;> rfl
      have ek : (lvlM M1 src.decls[i]).toks = M1.toks := by unfold lvlM; split <;> rfl
      refine synWalk q1 (by rw [et]; exact q2) q3 q4 q5 q6 (by rw [ek]; omega) (by rw [et]; omega) hd2 hd3 fun s2 ti' gi' vT' r1 r2 r3 r4 r5 r6 r7 r8 r9 => q7 s2 ti' gi' vT' r1 r2 r3 r4 r5 r6 r7 (by rw [ek] at r8; exact r8) (by rw [et] at r9; exact r9)
    generalize e28n40 = E40 at T
    generalize hG : synGo src.decls[i] src.decls[i].syms (lvlM M1 src.decls[i], st1) = G at T
    have hGk : decGo (src.decls.drop (i + 1)) G = R := by rw [← hG]; exact k1_2
    have hlv : M1.level ≤ (lvlM M1 src.decls[i]).level ∧ (lvlM M1 src.decls[i]).level ≤ M1.level + 1 := by unfold lvlM; split <;> (try dsimp only) <;> omega
    have hsm : SameM M1 (lvlM M1 src.decls[i]) := by unfold lvlM; split <;> exact ⟨rfl, rfl, rfl, rfl⟩
    obtain ⟨sm1, sm2, sm3, sm4⟩ := k1_3
    obtain ⟨tm1, tm2, tm3, tm4⟩ := hsm
    by_cases hv : 2 ≤ src.decls[i].kind ∧ src.decls[i].kind ≤ 4
    · have hlm : lvlM M1 src.decls[i] = { M1 with level := M1.level + 1 } := if_pos hv
      repeat' with_reducible first
        | refine ewp_reg_seq ?_ | refine ewp_seq ?_ | refine ewp_reg ?_ | refine ewp_skip ?_ | refine ewp_block ?_ | refine xt_n ?_ | refine ewp_condQ ?_ | refine L_gdQ ?_ | refine gdQ_TT ?_
        | simp -implicitDefEqProofs only [wA, Nat.reduceEqDiff, ↓reduceIte, reduceCtorEq, Nat.reduceAdd, Int.cast_ofNat_Int, Int.reduceLT, Int.reduceLE, Int.reduceEq, Int.reduceToNat, decide_true, decide_false, Bool.false_eq_true, g1, g2, g6, g8, g7, g1, g2, g6, g7, g8, o0, o1, hm, hz]
        | (refine condQ_i (fun h => ?_) (fun h => ?_) <;> have h_ := h <;> (try simp only [wD, reduceCtorEq] at h_) <;> (try (exfalso; first | omega | exact bf h_ (by assumption) | exact bt h_ (by assumption) | (refine absurd ?_ h_; focus assumption) | (refine absurd h_ ?_; focus assumption))) <;> (try simp only [h]))
        | ((first | refine gdQ_iT (fun h => ?_) (fun h => ?_) | refine gdQ_iF (fun h => ?_) (fun h => ?_)) <;> have h_ := h <;> (try simp only [wD, reduceCtorEq] at h_) <;> (try (exfalso; first | omega | exact bf h_ (by assumption) | exact bt h_ (by assumption) | (refine absurd ?_ h_; focus assumption) | (refine absurd h_ ?_; focus assumption))) <;> (try simp only [h]))
        | (apply ia_slQ; (focus omega); (focus (first | assumption | exact List.getElem?_eq_getElem (by omega) | rfl)))
        | (apply ldQ_cell; (focus with_unfolding_all rfl))
        | (apply stQ_whole; (focus with_unfolding_all rfl); (focus with_unfolding_all rfl))
        | (apply stQ_cell; (focus with_unfolding_all rfl); (focus with_unfolding_all rfl); (focus with_unfolding_all rfl); (focus (first | assumption | omega | (simp only [wZ]; omega) | trivial)))
        | simp -implicitDefEqProofs (disch := omega) only [w64, if_neg]
      refine T _ _ (s.next + 5 + 5) (hA1.upd (MkAt.keep hM (M' := lvlM M1 src.decls[i]) (by simp only [wN]; omega) ?_ ?_ ?_).2.1 (by simp -implicitDefEqProofs only [wL, Nat.reduceEqDiff, ↓reduceIte, reduceCtorEq]) (by simp -implicitDefEqProofs only [wL, Nat.reduceEqDiff, ↓reduceIte, reduceCtorEq]) (by simp -implicitDefEqProofs only [wL, Nat.reduceEqDiff, ↓reduceIte, reduceCtorEq]) (by simp only [wN]; omega) (fun j h1 h2 h3 h4 h5 => ?_)) (hT1.mono (by simp only [wN]; omega) (fun j h1 hj => ?_)) (by simp -implicitDefEqProofs only [wL, Nat.reduceEqDiff, ↓reduceIte, reduceCtorEq]; exact g7) (by simp -implicitDefEqProofs only [wL, Nat.reduceEqDiff, ↓reduceIte, reduceCtorEq]) ?_ (by simp only [wN]; omega) (fun s2 ti' gi' vT' r1 r2 r3 r4 r5 r6 r7 r8 r9 => ?_)
      · simp only [wM]
        repeat (first | rw [if_pos trivial] | rw [if_pos rfl] | rw [if_neg (by omega)])
        rw [hlm]
      · intro j h1 h2
        simp only [wM]
        repeat (first | rw [if_pos trivial] | rw [if_pos rfl] | rw [if_neg (by omega)])
      · rw [hlm]; exact ⟨rfl, rfl, rfl, rfl, rfl, rfl⟩
      · simp only [wM]
        repeat (first | rw [if_pos trivial] | rw [if_pos rfl] | rw [if_neg (by omega)])
      · have hne : j ≠ m := fun e => hT1.ne c1 (by rw [← e]; exact h1)
        simp only [wM]
        repeat (first | rw [if_pos trivial] | rw [if_pos rfl] | rw [if_neg (by omega)])
      · simp only [wM]
        repeat (first | rw [if_pos trivial] | rw [if_pos rfl] | rw [if_neg (by omega)])
      · have h8 : s2.f 8 = vi i := r4.trans (by simp -implicitDefEqProofs only [wL, Nat.reduceEqDiff, ↓reduceIte, reduceCtorEq, g8])
        simp only [wN] at r5
        obtain ⟨um1, um2, um3, um4⟩ := r6
        repeat' with_reducible first
          | refine ewp_reg ?_ | refine xt_n ?_ | refine xb_n ?_
          | simp -implicitDefEqProofs only [wA, Nat.reduceEqDiff, ↓reduceIte, reduceCtorEq, Nat.reduceAdd, Int.cast_ofNat_Int, Int.reduceLT, Int.reduceLE, Int.reduceEq, Int.reduceToNat, decide_true, decide_false, Bool.false_eq_true, g1, g2, g6, g8, g7, h8]
          | simp -implicitDefEqProofs (disch := omega) only [w64, if_neg]
        refine ⟨by (try simp only [wN]); omega, (i + 1, G), by dsimp only; omega, by rw [f1]; exact r1.f1, by rw [f2]; exact r1.f2, by rw [f6]; exact r1.f6, rfl, by dsimp only; omega, ⟨ti', gi', vT', r1.mono (by simp -implicitDefEqProofs only [wL, Nat.reduceEqDiff, ↓reduceIte, reduceCtorEq]) (by simp -implicitDefEqProofs only [wL, Nat.reduceEqDiff, ↓reduceIte, reduceCtorEq]) (by simp -implicitDefEqProofs only [wL, Nat.reduceEqDiff, ↓reduceIte, reduceCtorEq]) (by (try simp only [wN]); omega) (fun j hj => by first | rfl | simp only [wM]), r2.mono (by (try simp only [wN]); omega) (fun j h1 hj => by first | rfl | simp only [wM])⟩, hGk, ⟨um1.trans (tm1.trans sm1), um2.trans (tm2.trans sm2), um3.trans (tm3.trans sm3), um4.trans (tm4.trans sm4)⟩, by dsimp only; omega, by dsimp only; omega, by dsimp only; omega, r3⟩
    · have hlm : lvlM M1 src.decls[i] = M1 := if_neg hv
      repeat' with_reducible first
        | refine ewp_reg_seq ?_ | refine ewp_seq ?_ | refine ewp_skip ?_ | refine ewp_block ?_ | refine xt_n ?_ | refine ewp_condQ ?_ | refine condQ_F ?_ | refine L_gdQ ?_ | refine gdQ_TT ?_ | refine gdQ_FT ?_
        | simp -implicitDefEqProofs only [wA, Nat.reduceEqDiff, ↓reduceIte, reduceCtorEq, Nat.reduceAdd, Int.cast_ofNat_Int, Int.reduceLT, Int.reduceLE, Int.reduceEq, Int.reduceToNat, decide_true, decide_false, Bool.false_eq_true, g1, g2, g6, g8, g7, g1, g2, g6, g7, g8, o0, o1, hm, hz]
        | (refine condQ_i (fun h => ?_) (fun h => ?_) <;> have h_ := h <;> (try simp only [wD, reduceCtorEq] at h_) <;> (try (exfalso; first | omega | exact bf h_ (by assumption) | exact bt h_ (by assumption) | (refine absurd ?_ h_; focus assumption) | (refine absurd h_ ?_; focus assumption))) <;> (try simp only [h]))
        | ((first | refine gdQ_iT (fun h => ?_) (fun h => ?_) | refine gdQ_iF (fun h => ?_) (fun h => ?_)) <;> have h_ := h <;> (try simp only [wD, reduceCtorEq] at h_) <;> (try (exfalso; first | omega | exact bf h_ (by assumption) | exact bt h_ (by assumption) | (refine absurd ?_ h_; focus assumption) | (refine absurd h_ ?_; focus assumption))) <;> (try simp only [h]))
        | (apply ia_slQ; (focus omega); (focus (first | assumption | exact List.getElem?_eq_getElem (by omega) | rfl)))
        | (apply ldQ_cell; (focus with_unfolding_all rfl))
        | (apply stQ_whole; (focus with_unfolding_all rfl); (focus with_unfolding_all rfl))
      all_goals (refine T _ _ (s.next + 5 + 5) (by rw [hlm]; exact hA1.mono (by simp -implicitDefEqProofs only [wL, Nat.reduceEqDiff, ↓reduceIte, reduceCtorEq]) (by simp -implicitDefEqProofs only [wL, Nat.reduceEqDiff, ↓reduceIte, reduceCtorEq]) (by simp -implicitDefEqProofs only [wL, Nat.reduceEqDiff, ↓reduceIte, reduceCtorEq]) (by simp only [wN]; omega) (fun j h1 => (by simp only [wM]; repeat (first | rw [if_pos trivial] | rw [if_pos rfl] | rw [if_neg (by omega)])))) (hT1.mono (by simp only [wN]; omega) (fun j h1 hj => (by simp only [wM]; repeat (first | rw [if_pos trivial] | rw [if_pos rfl] | rw [if_neg (by omega)])))) (by simp -implicitDefEqProofs only [wL, Nat.reduceEqDiff, ↓reduceIte, reduceCtorEq]; exact g7) (by simp -implicitDefEqProofs only [wL, Nat.reduceEqDiff, ↓reduceIte, reduceCtorEq]) (by simp only [wM]; repeat (first | rw [if_pos trivial] | rw [if_pos rfl] | rw [if_neg (by omega)])) (by simp only [wN]; omega) (fun s2 ti' gi' vT' r1 r2 r3 r4 r5 r6 r7 r8 r9 => ?_))
      · have h8 : s2.f 8 = vi i := r4.trans (by simp -implicitDefEqProofs only [wL, Nat.reduceEqDiff, ↓reduceIte, reduceCtorEq, g8])
        simp only [wN] at r5
        obtain ⟨um1, um2, um3, um4⟩ := r6
        repeat' with_reducible first
          | refine ewp_reg ?_ | refine xt_n ?_ | refine xb_n ?_
          | simp -implicitDefEqProofs only [wA, Nat.reduceEqDiff, ↓reduceIte, reduceCtorEq, Nat.reduceAdd, Int.cast_ofNat_Int, Int.reduceLT, Int.reduceLE, Int.reduceEq, Int.reduceToNat, decide_true, decide_false, Bool.false_eq_true, g1, g2, g6, g8, g7, h8]
          | simp -implicitDefEqProofs (disch := omega) only [w64, if_neg]
        refine ⟨by (try simp only [wN]); omega, (i + 1, G), by dsimp only; omega, by rw [f1]; exact r1.f1, by rw [f2]; exact r1.f2, by rw [f6]; exact r1.f6, rfl, by dsimp only; omega, ⟨ti', gi', vT', r1.mono (by simp -implicitDefEqProofs only [wL, Nat.reduceEqDiff, ↓reduceIte, reduceCtorEq]) (by simp -implicitDefEqProofs only [wL, Nat.reduceEqDiff, ↓reduceIte, reduceCtorEq]) (by simp -implicitDefEqProofs only [wL, Nat.reduceEqDiff, ↓reduceIte, reduceCtorEq]) (by (try simp only [wN]); omega) (fun j hj => by first | rfl | simp only [wM]), r2.mono (by (try simp only [wN]); omega) (fun j h1 hj => by first | rfl | simp only [wM])⟩, hGk, ⟨um1.trans (tm1.trans sm1), um2.trans (tm2.trans sm2), um3.trans (tm3.trans sm3), um4.trans (tm4.trans sm4)⟩, by dsimp only; omega, by dsimp only; omega, by dsimp only; omega, r3⟩
      · have h8 : s2.f 8 = vi i := r4.trans (by simp -implicitDefEqProofs only [wL, Nat.reduceEqDiff, ↓reduceIte, reduceCtorEq, g8])
        simp only [wN] at r5
        obtain ⟨um1, um2, um3, um4⟩ := r6
        repeat' with_reducible first
          | refine ewp_reg ?_ | refine xt_n ?_ | refine xb_n ?_
          | simp -implicitDefEqProofs only [wA, Nat.reduceEqDiff, ↓reduceIte, reduceCtorEq, Nat.reduceAdd, Int.cast_ofNat_Int, Int.reduceLT, Int.reduceLE, Int.reduceEq, Int.reduceToNat, decide_true, decide_false, Bool.false_eq_true, g1, g2, g6, g8, g7, h8]
          | simp -implicitDefEqProofs (disch := omega) only [w64, if_neg]
        refine ⟨by (try simp only [wN]); omega, (i + 1, G), by dsimp only; omega, by rw [f1]; exact r1.f1, by rw [f2]; exact r1.f2, by rw [f6]; exact r1.f6, rfl, by dsimp only; omega, ⟨ti', gi', vT', r1.mono (by simp -implicitDefEqProofs only [wL, Nat.reduceEqDiff, ↓reduceIte, reduceCtorEq]) (by simp -implicitDefEqProofs only [wL, Nat.reduceEqDiff, ↓reduceIte, reduceCtorEq]) (by simp -implicitDefEqProofs only [wL, Nat.reduceEqDiff, ↓reduceIte, reduceCtorEq]) (by (try simp only [wN]); omega) (fun j hj => by first | rfl | simp only [wM]), r2.mono (by (try simp only [wN]); omega) (fun j h1 hj => by first | rfl | simp only [wM])⟩, hGk, ⟨um1.trans (tm1.trans sm1), um2.trans (tm2.trans sm2), um3.trans (tm3.trans sm3), um4.trans (tm4.trans sm4)⟩, by dsimp only; omega, by dsimp only; omega, by dsimp only; omega, r3⟩
  · rw [List.drop_eq_nil_of_le (by omega), decGo_nil] at k1_2
    subst k1_2
    have hl := hS.dl
    repeat' with_reducible first
      | refine ewp_reg_seq ?_ | refine ewp_seq ?_ | refine ewp_exit ?_ | refine xt_n ?_ | refine xt_e ?_ | refine xb_e ?_ | refine ewp_condQ ?_
      | simp -implicitDefEqProofs only [wA, Nat.reduceEqDiff, ↓reduceIte, reduceCtorEq, Nat.reduceAdd, Int.cast_ofNat_Int, Int.reduceLT, Int.reduceLE, Int.reduceEq, Int.reduceToNat, decide_true, decide_false, Bool.false_eq_true, g1, g2, g6, g8, g7, g1, g2, g6, g7, g8, o0]
      | (refine condQ_i (fun h => ?_) (fun h => ?_) <;> have h_ := h <;> (try simp only [wD, reduceCtorEq] at h_) <;> (try (exfalso; first | omega | exact bf h_ (by assumption) | exact bt h_ (by assumption) | (refine absurd ?_ h_; focus assumption) | (refine absurd h_ ?_; focus assumption))) <;> (try simp only [h]))
      | (apply ldQ_cell; (focus with_unfolding_all rfl))
    exact hQ _ ti1 gi1 vT1 (hA1.mono (by simp -implicitDefEqProofs only [wL, Nat.reduceEqDiff, ↓reduceIte, reduceCtorEq]) (by simp -implicitDefEqProofs only [wL, Nat.reduceEqDiff, ↓reduceIte, reduceCtorEq]) (by simp -implicitDefEqProofs only [wL, Nat.reduceEqDiff, ↓reduceIte, reduceCtorEq]) (by simp only [wN]; omega) (fun j hj => by simp only [wM])) (by simp -implicitDefEqProofs only [wL, Nat.reduceEqDiff, ↓reduceIte, reduceCtorEq]; exact g7) k1_3 (by dsimp only; omega) (by dsimp only; omega)
end Go.Proofs


set_option maxHeartbeats 4000000
namespace Go.Proofs
open Go.E

/-- A Left is put behind the others, if it is new. -/
abbrev addL (M : Mk) (l : List UInt8) : Mk := if leftGo l M.lefts 0 < 0 then { M with lefts := M.lefts ++ [l] } else M
abbrev dupL (M : Mk) (r : Rule) : Mk := if 0 ≤ tokM M.toks { name := r.left } then failM M r.at_ r.left else M
theorem dupL_f (M : Mk) (r : Rule) : (dupL M r).toks = M.toks ∧ (dupL M r).lefts = M.lefts ∧ (dupL M r).types = M.types ∧ (dupL M r).prods = M.prods ∧ (dupL M r).nons = M.nons ∧ (dupL M r).inner = M.inner := by
  obtain ⟨ff1, ff2, ff3, ff4, ff5, ff6, ff7, ff8⟩ := failM_f M r.at_ r.left
  unfold dupL; split
  · exact ⟨ff1, ff3, ff4, ff5, ff6, ff8⟩
  · exact ⟨rfl, rfl, rfl, rfl, rfl, rfl⟩
theorem lefGo_nil (M : Mk) : lefGo [] M = M := rfl
theorem lefGo_cons (r : Rule) (l : List Rule) (M : Mk) : lefGo (r :: l) M = lefGo l (addL (dupL M r) r.left) := by
  rw [lefGo]
  have := (dupL_f M r).2.1
  unfold addL
  rw [this]

theorem leftStep {s : St} {m ti gi rb : Nat} {src : Source} {vN vP vT vL : V} {M : Mk} {r : Rule} {Q : Exit → St → Prop} (hO : OfAt s m src ti gi vN vP vT vL M) (hL : Gr s.H s.next 1 (M.lefts.map V.str) vL) (f12 : s.f 12 = .ptr rb 0 0) (hr : s.H rb = some (.own 3 [r.V] false)) (lr : rb < s.next) (b1 : M.lefts.length ≤ 1000000000)
    (hQ : ∀ s' vL', OfAt s' m src ti gi vN vP vT vL' (addL M r.left) → Gr s'.H s'.next 1 ((addL M r.left).lefts.map V.str) vL' → s'.f 11 = s.f 11 → s'.f 7 = s.f 7 → s.next ≤ s'.next → Q .normal s') : ewp Try.prog e28n62 Q s := by
  have f1 := hO.f1; have f2 := hO.f2; have f6 := hO.f6
  have hM := hO.at_; have hm := hM.hm; have lm := hM.lm; have lt := hM.lt; have lg := hM.lg; have ln := hO.ln
  obtain ⟨n1, n2, n3⟩ := hM.mt
  obtain ⟨c1, c2, c3⟩ := hM.nt
  have d1 := hL.ne c1; have d2 := hL.ne c2; have d3 := hL.ne c3
  by_cases hl : leftGo r.left M.lefts 0 < 0
  · have e : addL M r.left = { M with lefts := M.lefts ++ [r.left] } := if_pos hl
    rw [e] at hQ
    repeat' with_reducible first
      | refine ewp_reg_seq ?_ | refine ewp_reg ?_ | refine ewp_condQ ?_
      | simp -implicitDefEqProofs only [wA, Nat.reduceEqDiff, ↓reduceIte, reduceCtorEq, Nat.reduceAdd, Int.cast_ofNat_Int, Int.reduceLT, Int.reduceLE, Int.reduceEq, Int.reduceToNat, decide_true, decide_false, Bool.false_eq_true, f1, f2, f6, f12, hr, hm, dropG_ne d1]
      | (refine condQ_i (fun h => ?_) (fun h => ?_) <;> have h_ := h <;> (try simp only [wD, reduceCtorEq] at h_) <;> (try (exfalso; first | omega | exact bf h_ (by assumption) | exact bt h_ (by assumption) | (refine absurd ?_ h_; focus assumption) | (refine absurd h_ ?_; focus assumption))) <;> (try simp only [h]))
      | (apply callQB2 (hp := yuccaref9_maker_left ?_); (focus (refine (hM.mono (Nat.le_refl _) (fun j hj => ?_)).er; (try simp only [wM]); (repeat rw [if_neg (by omega)]))); (focus exact er_cl); (focus (with_unfolding_all rfl)); (focus exact Flat.int _ _); rotate_left; (focus (first | assumption | omega | (simp only [wZ]; omega) | trivial)))
      | (apply appQ_G rfl (hL.mono (Nat.le_refl _) (fun id h1 h2 => by (try simp only [wM]); (repeat rw [if_neg (by omega)]))); (focus (first | exact SrcN.sl | exact SrcN.asl)); (focus (simp only [wZ]; omega)); (focus (unfold maxLen; simp only [wZ]; omega)))
      | (apply fil_part; (focus with_unfolding_all rfl); (focus with_unfolding_all rfl); (focus with_unfolding_all rfl); (focus ((try simp -implicitDefEqProofs only [wY]); rfl)))
      | (apply ldQ_cell; (focus with_unfolding_all rfl))
      | (apply stQ_cell; (focus with_unfolding_all rfl); (focus with_unfolding_all rfl); (focus with_unfolding_all rfl); (focus (first | assumption | omega | (simp only [wZ]; omega) | trivial)))
      | simp -implicitDefEqProofs (disch := omega) only [w64, if_neg]
    refine hQ _ (.asl (s.next + 5 + 8) (M.lefts.length + 1) 1 ((M.lefts ++ [r.left]).map V.str)) (hO.upd ⟨?_, ?_, ?_, hM.eN, hM.eP, hM.eT, er_asl, by simp only [wN]; omega, by simp only [wN]; omega, by simp only [wN]; omega, hM.len, hM.len3⟩ (by simp -implicitDefEqProofs only [wL, Nat.reduceEqDiff, ↓reduceIte, reduceCtorEq]) (by simp -implicitDefEqProofs only [wL, Nat.reduceEqDiff, ↓reduceIte, reduceCtorEq]) (by simp -implicitDefEqProofs only [wL, Nat.reduceEqDiff, ↓reduceIte, reduceCtorEq]) (by simp only [wN]; omega) (fun j g1 g2 g3 g4 g5 => ?_)) (Gr.tok ?_ (by simp only [wN]; omega)) (by simp -implicitDefEqProofs only [wL, Nat.reduceEqDiff, ↓reduceIte, reduceCtorEq]) (by simp -implicitDefEqProofs only [wL, Nat.reduceEqDiff, ↓reduceIte, reduceCtorEq]) (by simp only [wN]; omega)
    · simp only [wM]
      repeat first | rw [if_pos trivial] | rw [if_pos rfl] | rw [if_neg (by omega)] | simp only [wM] | rw [dropG_ne d1]
      try simp
    · simp only [wM]
      repeat first | rw [if_pos trivial] | rw [if_pos rfl] | rw [if_neg (by omega)] | simp only [wM] | rw [dropG_ne d2]
      exact hM.ht
    · simp only [wM]
      repeat first | rw [if_pos trivial] | rw [if_pos rfl] | rw [if_neg (by omega)] | simp only [wM] | rw [dropG_ne d3]
      exact hM.hg
    · have d5 := hL.ne g5
      simp only [wM]
      repeat first | rw [if_pos trivial] | rw [if_pos rfl] | rw [if_neg (by omega)] | simp only [wM] | rw [dropG_ne d5]
    · simp only [wM]
      repeat first | rw [if_pos trivial] | rw [if_pos rfl] | rw [if_neg (by omega)] | simp only [wM]
  · have e : addL M r.left = M := if_neg hl
    rw [e] at hQ
    repeat' with_reducible first
      | refine ewp_reg_seq ?_ | refine ewp_skip ?_ | refine ewp_condQ ?_
      | simp -implicitDefEqProofs only [wA, Nat.reduceEqDiff, ↓reduceIte, reduceCtorEq, Nat.reduceAdd, Int.cast_ofNat_Int, Int.reduceLT, Int.reduceLE, Int.reduceEq, Int.reduceToNat, decide_true, decide_false, Bool.false_eq_true, f1, f2, f6, f12, hr, hm]
      | (refine condQ_i (fun h => ?_) (fun h => ?_) <;> have h_ := h <;> (try simp only [wD, reduceCtorEq] at h_) <;> (try (exfalso; first | omega | exact bf h_ (by assumption) | exact bt h_ (by assumption) | (refine absurd ?_ h_; focus assumption) | (refine absurd h_ ?_; focus assumption))) <;> (try simp only [h]))
      | (apply callQB2 (hp := yuccaref9_maker_left ?_); (focus (refine (hM.mono (Nat.le_refl _) (fun j hj => ?_)).er; (try simp only [wM]); (repeat rw [if_neg (by omega)]))); (focus exact er_cl); (focus (with_unfolding_all rfl)); (focus exact Flat.int _ _); rotate_left; (focus (first | assumption | omega | (simp only [wZ]; omega) | trivial)))
      | (apply ldQ_cell; (focus with_unfolding_all rfl))
    exact hQ _ vL (hO.mono (by simp -implicitDefEqProofs only [wL, Nat.reduceEqDiff, ↓reduceIte, reduceCtorEq]) (by simp -implicitDefEqProofs only [wL, Nat.reduceEqDiff, ↓reduceIte, reduceCtorEq]) (by simp -implicitDefEqProofs only [wL, Nat.reduceEqDiff, ↓reduceIte, reduceCtorEq]) (by simp only [wN]; omega) (fun j hj => by simp only [wM])) (hL.mono (by simp only [wN]; omega) (fun j h1 hj => by simp only [wM])) (by simp -implicitDefEqProofs only [wL, Nat.reduceEqDiff, ↓reduceIte, reduceCtorEq]) (by simp -implicitDefEqProofs only [wL, Nat.reduceEqDiff, ↓reduceIte, reduceCtorEq]) (by simp only [wN]; omega)

theorem lefWalk {s0 : St} {m ti gi : Nat} {src : Source} {vN vP vT vL : V} {M : Mk} {E : EC} {Q : Exit → St → Prop} (h : OfAt s0 m src ti gi vN vP vT vL M) (hL : Gr s0.H s0.next 1 (M.lefts.map V.str) vL) (hS : Small src)
    (b1 : M.toks.length ≤ 1000000000) (b2 : M.lefts.length ≤ 1000000)
    (hQ : ∀ s' vL', OfAt s' m src ti gi vN vP vT vL' (lefGo src.rules M) → s'.f 7 = s0.f 7 → s0.next ≤ s'.next → (lefGo src.rules M).toks.length = M.toks.length → (lefGo src.rules M).types.length = M.types.length → (lefGo src.rules M).lefts.length ≤ M.lefts.length + 1000 → (lefGo src.rules M).prods = M.prods → (lefGo src.rules M).nons = M.nons → (lefGo src.rules M).inner = M.inner → ewp Try.prog E Q s') : ewp Try.prog (.seq e28n71 E) Q s0 := by
  generalize hR : lefGo src.rules M = R at hQ
  have f1 := h.f1; have f2 := h.f2; have f6 := h.f6
  have hA0 := h
  repeat' with_reducible first
    | refine ewp_reg_seq ?_ | refine ewp_seq ?_ | refine ewp_block ?_
    | simp -implicitDefEqProofs only [wA, Nat.reduceEqDiff, ↓reduceIte, reduceCtorEq, Nat.reduceAdd, Int.cast_ofNat_Int, Int.reduceLT, Int.reduceLE, Int.reduceEq, Int.reduceToNat, decide_true, decide_false, Bool.false_eq_true, f1, f2, f6]
  refine ewp_loopN ?nx3 (fun (z : Nat × Mk) s => s.f 1 = ?v3_1 ∧ s.f 2 = ?v3_2 ∧ s.f 6 = ?v3_6 ∧ s.f 7 = ?v3_7 ∧ s.f 11 = vi z.1 ∧ (z.1 ≤ src.rules.length) ∧ ((∃ vL, OfAt s m src ti gi vN vP vT vL z.2 ∧ Gr s.H s.next 1 (z.2.lefts.map V.str) vL)) ∧ (lefGo (src.rules.drop z.1) z.2 = R) ∧ ((z.2.toks.length = M.toks.length)) ∧ ((z.2.types.length = M.types.length)) ∧ ((z.2.lefts.length ≤ M.lefts.length + z.1)) ∧ ((z.2.prods = M.prods)) ∧ ((z.2.nons = M.nons)) ∧ ((z.2.inner = M.inner))) (fun z => src.rules.length - z.1) ((0, M)) (by simp -implicitDefEqProofs only [wN, Nat.reduceAdd, Nat.zero_add]; exact Nat.le_refl _) (by refine ⟨?_, ?_, ?_, ?_, ?_, (by first | omega | (simp; done) | assumption), (by exact ⟨vL, hA0.mono (by simp -implicitDefEqProofs only [wL, Nat.reduceEqDiff, ↓reduceIte, reduceCtorEq]) (by simp -implicitDefEqProofs only [wL, Nat.reduceEqDiff, ↓reduceIte, reduceCtorEq]) (by simp -implicitDefEqProofs only [wL, Nat.reduceEqDiff, ↓reduceIte, reduceCtorEq]) (by simp only [wN]; omega) (fun j hj => by simp only [wM]), hL.mono (by simp only [wN]; omega) (fun j h1 hj => by simp only [wM])⟩), (by exact hR), (by rfl), (by rfl), (by dsimp only; omega), (by rfl), (by rfl), (by rfl)⟩ <;> first | (simp -implicitDefEqProofs only [wL, wM, wN, wX, Nat.reduceEqDiff, ↓reduceIte, reduceCtorEq, Nat.reduceAdd, Option.some.injEq] <;> first | rfl | exact ⟨_, rfl⟩ | exact ⟨_, rfl, by first | assumption | exact Gr.nil | exact Gr.tok rfl (by omega) | exact Gr.tok (by simp -implicitDefEqProofs only [wM, Nat.reduceEqDiff, ↓reduceIte, reduceCtorEq] <;> rfl) (by omega) | exact Gr.clip⟩) | rfl | exact ⟨_, rfl⟩) ?_
  intro z s hnx ⟨g1, g2, g6, g7, g11, k3_0, k3_1, k3_2, k3_3, k3_4, k3_5, k3_6, k3_7, k3_8⟩
  obtain ⟨i, M1⟩ := z
  dsimp only at g11 k3_0 k3_1 k3_2 k3_3 k3_4 k3_5 k3_6 k3_7 k3_8
  obtain ⟨vL1, hA1, hL1⟩ := k3_1
  have hrl := hS.rl
  have g1 := hA1.f1; have g2 := hA1.f2; have g6 := hA1.f6; have o0 := hA1.h0; have o1 := hA1.h1; have ln := hA1.ln
  have hM := hA1.at_; have hm := hM.hm; have lm := hM.lm; have lt := hM.lt; have lg := hM.lg
  obtain ⟨n1, n2, n3⟩ := hM.mt
  by_cases hi : i < src.rules.length
  · rw [List.drop_eq_getElem_cons hi, lefGo_cons] at k3_2
    obtain ⟨u1, u2, u3, u4, u5, u6⟩ := dupL_f M1 src.rules[i]
    have hadd : (addL (dupL M1 src.rules[i]) src.rules[i].left).toks = (dupL M1 src.rules[i]).toks ∧ (addL (dupL M1 src.rules[i]) src.rules[i].left).types = (dupL M1 src.rules[i]).types ∧ (addL (dupL M1 src.rules[i]) src.rules[i].left).prods = (dupL M1 src.rules[i]).prods ∧ (addL (dupL M1 src.rules[i]) src.rules[i].left).nons = (dupL M1 src.rules[i]).nons ∧ (addL (dupL M1 src.rules[i]) src.rules[i].left).inner = (dupL M1 src.rules[i]).inner ∧ (addL (dupL M1 src.rules[i]) src.rules[i].left).lefts.length ≤ (dupL M1 src.rules[i]).lefts.length + 1 := by
      unfold addL; split
      · exact ⟨rfl, rfl, rfl, rfl, rfl, by simp⟩
      · exact ⟨rfl, rfl, rfl, rfl, rfl, by omega⟩
    obtain ⟨w1, w2, w3, w4, w5, w6⟩ := hadd
    show ewp _ (.seq e28n53 (.seq (.block 5 (.seq (.reg e28r54) (.seq e28n58 e28n62))) (.reg e28r66))) _ _
    have T : ∀ (s' : St) (Q : Exit → St → Prop) (rb : Nat), OfAt s' m src ti gi vN vP vT vL1 (dupL M1 src.rules[i]) → Gr s'.H s'.next 1 ((dupL M1 src.rules[i]).lefts.map V.str) vL1 → s'.f 12 = .ptr rb 0 0 → s'.H rb = some (.own 3 [src.rules[i].V] false) → rb < s'.next → (∀ s2 vL', OfAt s2 m src ti gi vN vP vT vL' (addL (dupL M1 src.rules[i]) src.rules[i].left) → Gr s2.H s2.next 1 ((addL (dupL M1 src.rules[i]) src.rules[i].left).lefts.map V.str) vL' → s2.f 11 = s'.f 11 → s2.f 7 = s'.f 7 → s'.next ≤ s2.next → Q .normal s2) → ewp Try.prog e28n62 Q s' :=
      fun s' Q rb q1 q2 q3 q4 q5 q6 => leftStep q1 q2 q3 q4 q5 (by rw [u2]; omega) q6
    generalize e28n62 = E62 at T
    have hbt : M1.toks.length ≤ 1099511627776 := by omega
    by_cases hd : 0 ≤ tokM M1.toks { name := src.rules[i].left }
    · have hdu : dupL M1 src.rules[i] = failM M1 src.rules[i].at_ src.rules[i].left := if_pos hd
      repeat' with_reducible first
        | refine ewp_reg_seq ?_ | refine ewp_seq ?_ | refine ewp_reg ?_ | refine ewp_skip ?_ | refine ewp_block ?_ | refine xt_n ?_ | refine ewp_condQ ?_
        | simp -implicitDefEqProofs only [wA, Nat.reduceEqDiff, ↓reduceIte, reduceCtorEq, Nat.reduceAdd, Int.cast_ofNat_Int, Int.reduceLT, Int.reduceLE, Int.reduceEq, Int.reduceToNat, decide_true, decide_false, Bool.false_eq_true, g1, g2, g6, g7, g11, g1, g2, g6, g11, o0, hm]
        | (refine condQ_i (fun h => ?_) (fun h => ?_) <;> have h_ := h <;> (try simp only [wD, reduceCtorEq] at h_) <;> (try (exfalso; first | omega | exact bf h_ (by assumption) | exact bt h_ (by assumption) | (refine absurd ?_ h_; focus assumption) | (refine absurd h_ ?_; focus assumption))) <;> (try simp only [h]))
        | (apply callQB2 (hp := yuccaref9_maker_tok (x := { name := src.rules[i].left }) hbt); (focus (refine (hM.mono (Nat.le_refl _) (fun j hj => ?_)).er; (try simp only [wM]); (repeat rw [if_neg (by omega)]))); (focus exact er_cl); (focus (with_unfolding_all rfl)); (focus exact Flat.int _ _))
        | (refine callQWc rfl rfl rfl ((failE (hM.mono (by simp only [wN]; omega) (fun j hj => by (try simp only [wM]); (repeat rw [if_neg (by omega)])))).mono ?_); rintro v1 H1 n1 ⟨q1, q2, q3⟩; (try simp only [wN] at q1); (try simp only [wM] at q3))
        | (apply ia_slQ; (focus omega); (focus (first | assumption | exact List.getElem?_eq_getElem (by omega) | rfl)))
        | (apply bld_nil)
        | (apply bld_part; (focus with_unfolding_all rfl); (focus with_unfolding_all rfl); (focus with_unfolding_all rfl); (focus ((try simp -implicitDefEqProofs only [wE, Nat.reduceAdd]); rfl)))
        | (apply ldQ_cell; (focus with_unfolding_all rfl))
        | (apply stQ_whole; (focus with_unfolding_all rfl); (focus with_unfolding_all rfl))
      (try simp only [wN] at q1); (try simp only [wM, wN] at q3)
      have orr : H1 (s.next + 5 + 5) = some (.own 3 [src.rules[i].V] false) := by rw [q3 _ (by omega) (by omega), if_pos rfl]
      have hlf : (dupL M1 src.rules[i]).lefts = M1.lefts := u2
      have hst : ∀ j, j < s.next → j ≠ m → H1 j = s.H j := fun j h1 h2 => by rw [q3 j (by omega) h2]; repeat (first | rw [if_pos trivial] | rw [if_pos rfl] | rw [if_neg (by omega)])
      refine T _ _ (s.next + 5 + 5) (by rw [hdu]; exact hA1.upd (q2.mono (by simp only [wN]; omega) (fun j hj => by simp only [wM])) (by simp -implicitDefEqProofs only [wL, Nat.reduceEqDiff, ↓reduceIte, reduceCtorEq]) (by simp -implicitDefEqProofs only [wL, Nat.reduceEqDiff, ↓reduceIte, reduceCtorEq]) (by simp -implicitDefEqProofs only [wL, Nat.reduceEqDiff, ↓reduceIte, reduceCtorEq]) (by simp only [wN]; omega) (fun j h1 h2 h3 h4 h5 => (by simp only [wM]; exact hst j h1 h2))) (by rw [hlf]; exact hL1.stay hM (by simp only [wN]; omega) (fun j h1 h2 h3 h4 => (by simp only [wM]; exact hst j h1 h2))) (by simp -implicitDefEqProofs only [wL, Nat.reduceEqDiff, ↓reduceIte, reduceCtorEq]) (by simp only [wM]; exact orr) (by simp only [wN]; omega) (fun s2 vL2 r1 r2 r3 r4 r5 => ?_)
      have h11 : s2.f 11 = vi i := r3.trans (by simp -implicitDefEqProofs only [wL, Nat.reduceEqDiff, ↓reduceIte, reduceCtorEq, g11])
      have h7 : s2.f 7 = s0.f 7 := r4.trans (by simp -implicitDefEqProofs only [wL, Nat.reduceEqDiff, ↓reduceIte, reduceCtorEq, g7])
      (try simp only [wN] at r5)
      repeat' with_reducible first
        | refine ewp_reg ?_ | refine xt_n ?_ | refine xb_n ?_
        | simp -implicitDefEqProofs only [wA, Nat.reduceEqDiff, ↓reduceIte, reduceCtorEq, Nat.reduceAdd, Int.cast_ofNat_Int, Int.reduceLT, Int.reduceLE, Int.reduceEq, Int.reduceToNat, decide_true, decide_false, Bool.false_eq_true, g1, g2, g6, g7, g11, h11]
        | simp -implicitDefEqProofs (disch := omega) only [w64, if_neg]
      refine ⟨by (try simp only [wN]); omega, (i + 1, addL (dupL M1 src.rules[i]) src.rules[i].left), by dsimp only; omega, by rw [f1]; exact r1.f1, by rw [f2]; exact r1.f2, by rw [f6]; exact r1.f6, h7, rfl, by dsimp only; omega, ⟨vL2, r1.mono (by simp -implicitDefEqProofs only [wL, Nat.reduceEqDiff, ↓reduceIte, reduceCtorEq]) (by simp -implicitDefEqProofs only [wL, Nat.reduceEqDiff, ↓reduceIte, reduceCtorEq]) (by simp -implicitDefEqProofs only [wL, Nat.reduceEqDiff, ↓reduceIte, reduceCtorEq]) (by (try simp only [wN]); omega) (fun j hj => by first | rfl | simp only [wM]), r2.mono (by (try simp only [wN]); omega) (fun j h1 hj => by first | rfl | simp only [wM])⟩, k3_2, by dsimp only; rw [w1, u1]; exact k3_3, by dsimp only; rw [w2, u3]; exact k3_4, by dsimp only; rw [u2] at w6; omega, by dsimp only; rw [w3, u4]; exact k3_6, by dsimp only; rw [w4, u5]; exact k3_7, by dsimp only; rw [w5, u6]; exact k3_8⟩
    · have hdu : dupL M1 src.rules[i] = M1 := if_neg hd
      repeat' with_reducible first
        | refine ewp_reg_seq ?_ | refine ewp_seq ?_ | refine ewp_skip ?_ | refine ewp_block ?_ | refine xt_n ?_ | refine ewp_condQ ?_
        | simp -implicitDefEqProofs only [wA, Nat.reduceEqDiff, ↓reduceIte, reduceCtorEq, Nat.reduceAdd, Int.cast_ofNat_Int, Int.reduceLT, Int.reduceLE, Int.reduceEq, Int.reduceToNat, decide_true, decide_false, Bool.false_eq_true, g1, g2, g6, g7, g11, g1, g2, g6, g11, o0, hm]
        | (refine condQ_i (fun h => ?_) (fun h => ?_) <;> have h_ := h <;> (try simp only [wD, reduceCtorEq] at h_) <;> (try (exfalso; first | omega | exact bf h_ (by assumption) | exact bt h_ (by assumption) | (refine absurd ?_ h_; focus assumption) | (refine absurd h_ ?_; focus assumption))) <;> (try simp only [h]))
        | (apply callQB2 (hp := yuccaref9_maker_tok (x := { name := src.rules[i].left }) hbt); (focus (refine (hM.mono (Nat.le_refl _) (fun j hj => ?_)).er; (try simp only [wM]); (repeat rw [if_neg (by omega)]))); (focus exact er_cl); (focus (with_unfolding_all rfl)); (focus exact Flat.int _ _))
        | (apply ia_slQ; (focus omega); (focus (first | assumption | exact List.getElem?_eq_getElem (by omega) | rfl)))
        | (apply bld_nil)
        | (apply bld_part; (focus with_unfolding_all rfl); (focus with_unfolding_all rfl); (focus with_unfolding_all rfl); (focus ((try simp -implicitDefEqProofs only [wE, Nat.reduceAdd]); rfl)))
        | (apply ldQ_cell; (focus with_unfolding_all rfl))
        | (apply stQ_whole; (focus with_unfolding_all rfl); (focus with_unfolding_all rfl))
      refine T _ _ (s.next + 5 + 5) (by rw [hdu]; exact hA1.mono (by simp -implicitDefEqProofs only [wL, Nat.reduceEqDiff, ↓reduceIte, reduceCtorEq]) (by simp -implicitDefEqProofs only [wL, Nat.reduceEqDiff, ↓reduceIte, reduceCtorEq]) (by simp -implicitDefEqProofs only [wL, Nat.reduceEqDiff, ↓reduceIte, reduceCtorEq]) (by simp only [wN]; omega) (fun j h1 => (by simp only [wM]; repeat (first | rw [if_pos trivial] | rw [if_pos rfl] | rw [if_neg (by omega)])))) (by rw [hdu]; exact hL1.mono (by simp only [wN]; omega) (fun j h1 hj => (by simp only [wM]; repeat (first | rw [if_pos trivial] | rw [if_pos rfl] | rw [if_neg (by omega)])))) (by simp -implicitDefEqProofs only [wL, Nat.reduceEqDiff, ↓reduceIte, reduceCtorEq]) (by simp only [wM]; repeat (first | rw [if_pos trivial] | rw [if_pos rfl] | rw [if_neg (by omega)])) (by simp only [wN]; omega) (fun s2 vL2 r1 r2 r3 r4 r5 => ?_)
      have h11 : s2.f 11 = vi i := r3.trans (by simp -implicitDefEqProofs only [wL, Nat.reduceEqDiff, ↓reduceIte, reduceCtorEq, g11])
      have h7 : s2.f 7 = s0.f 7 := r4.trans (by simp -implicitDefEqProofs only [wL, Nat.reduceEqDiff, ↓reduceIte, reduceCtorEq, g7])
      (try simp only [wN] at r5)
      repeat' with_reducible first
        | refine ewp_reg ?_ | refine xt_n ?_ | refine xb_n ?_
        | simp -implicitDefEqProofs only [wA, Nat.reduceEqDiff, ↓reduceIte, reduceCtorEq, Nat.reduceAdd, Int.cast_ofNat_Int, Int.reduceLT, Int.reduceLE, Int.reduceEq, Int.reduceToNat, decide_true, decide_false, Bool.false_eq_true, g1, g2, g6, g7, g11, h11]
        | simp -implicitDefEqProofs (disch := omega) only [w64, if_neg]
      refine ⟨by (try simp only [wN]); omega, (i + 1, addL (dupL M1 src.rules[i]) src.rules[i].left), by dsimp only; omega, by rw [f1]; exact r1.f1, by rw [f2]; exact r1.f2, by rw [f6]; exact r1.f6, h7, rfl, by dsimp only; omega, ⟨vL2, r1.mono (by simp -implicitDefEqProofs only [wL, Nat.reduceEqDiff, ↓reduceIte, reduceCtorEq]) (by simp -implicitDefEqProofs only [wL, Nat.reduceEqDiff, ↓reduceIte, reduceCtorEq]) (by simp -implicitDefEqProofs only [wL, Nat.reduceEqDiff, ↓reduceIte, reduceCtorEq]) (by (try simp only [wN]); omega) (fun j hj => by first | rfl | simp only [wM]), r2.mono (by (try simp only [wN]); omega) (fun j h1 hj => by first | rfl | simp only [wM])⟩, k3_2, by dsimp only; rw [w1, u1]; exact k3_3, by dsimp only; rw [w2, u3]; exact k3_4, by dsimp only; rw [u2] at w6; omega, by dsimp only; rw [w3, u4]; exact k3_6, by dsimp only; rw [w4, u5]; exact k3_7, by dsimp only; rw [w5, u6]; exact k3_8⟩
  · rw [List.drop_eq_nil_of_le (by omega), lefGo_nil] at k3_2
    subst k3_2
    repeat' with_reducible first
      | refine ewp_reg_seq ?_ | refine ewp_seq ?_ | refine ewp_exit ?_ | refine xt_n ?_ | refine xt_e ?_ | refine xb_e ?_ | refine ewp_condQ ?_
      | simp -implicitDefEqProofs only [wA, Nat.reduceEqDiff, ↓reduceIte, reduceCtorEq, Nat.reduceAdd, Int.cast_ofNat_Int, Int.reduceLT, Int.reduceLE, Int.reduceEq, Int.reduceToNat, decide_true, decide_false, Bool.false_eq_true, g1, g2, g6, g7, g11, g1, g2, g6, g11, o0]
      | (refine condQ_i (fun h => ?_) (fun h => ?_) <;> have h_ := h <;> (try simp only [wD, reduceCtorEq] at h_) <;> (try (exfalso; first | omega | exact bf h_ (by assumption) | exact bt h_ (by assumption) | (refine absurd ?_ h_; focus assumption) | (refine absurd h_ ?_; focus assumption))) <;> (try simp only [h]))
      | (apply ldQ_cell; (focus with_unfolding_all rfl))
    exact hQ _ vL1 (hA1.mono (by simp -implicitDefEqProofs only [wL, Nat.reduceEqDiff, ↓reduceIte, reduceCtorEq]) (by simp -implicitDefEqProofs only [wL, Nat.reduceEqDiff, ↓reduceIte, reduceCtorEq]) (by simp -implicitDefEqProofs only [wL, Nat.reduceEqDiff, ↓reduceIte, reduceCtorEq]) (by simp only [wN]; omega) (fun j hj => by simp only [wM])) (by simp -implicitDefEqProofs only [wL, Nat.reduceEqDiff, ↓reduceIte, reduceCtorEq]; exact g7) (by simp only [wN]; omega) k3_3 k3_4 (by omega) k3_6 k3_7 k3_8
end Go.Proofs


set_option maxHeartbeats 4000000
namespace Go.Proofs
open Go.E

/-- All but the error is the same. -/
abbrev SameF (M M' : Mk) : Prop := M'.toks = M.toks ∧ M'.given = M.given ∧ M'.lefts = M.lefts ∧ M'.types = M.types ∧ M'.prods = M.prods ∧ M'.nons = M.nons ∧ M'.inner = M.inner
theorem SameF.rfl' (M : Mk) : SameF M M := ⟨rfl, rfl, rfl, rfl, rfl, rfl, rfl⟩
theorem SameF.fail (M : Mk) (a : Int) (n : List UInt8) : SameF M (failM M a n) := let ⟨f1, f2, f3, f4, f5, f6, _, f8⟩ := failM_f M a n; ⟨f1, f2, f3, f4, f5, f6, f8⟩
theorem SameF.trans' {A B C : Mk} (h : SameF A B) (k : SameF B C) : SameF A C := ⟨k.1.trans h.1, k.2.1.trans h.2.1, k.2.2.1.trans h.2.2.1, k.2.2.2.1.trans h.2.2.2.1, k.2.2.2.2.1.trans h.2.2.2.2.1, k.2.2.2.2.2.1.trans h.2.2.2.2.2.1, k.2.2.2.2.2.2.trans h.2.2.2.2.2.2⟩
abbrev unkM (M : Mk) (kind : Int) (x : Sym) : Mk := if 5 ≤ kind ∧ leftGo x.name M.lefts 0 < 0 then failM M x.at_ x.name else M
theorem unkGo1_nil (kind : Int) (M : Mk) : unkGo1 kind [] M = M := rfl
theorem unkGo1_cons (kind : Int) (x : Sym) (r : List Sym) (M : Mk) : unkGo1 kind (x :: r) M = unkGo1 kind r (unkM M kind x) := by rw [unkGo1]
theorem unkGo_nil (M : Mk) : unkGo [] M = M := rfl
theorem unkGo_cons (d : Decl) (r : List Decl) (M : Mk) : unkGo (d :: r) M = unkGo r (unkGo1 d.kind d.syms M) := by rw [unkGo]

theorem unk1Walk {s0 : St} {m ti gi i : Nat} {src : Source} {vN vP vT vL : V} {M : Mk} {Q : Exit → St → Prop} (h : OfAt s0 m src ti gi vN vP vT vL M) (hi : i < src.decls.length) (f13 : s0.f 13 = vi i) (hdl : src.decls.length ≤ 1000) (hsl : src.decls[i].syms.length ≤ 1000) (b2 : M.lefts.length ≤ 1000000000)
    (hQ : ∀ s', OfAt s' m src ti gi vN vP vT vL (unkGo1 src.decls[i].kind src.decls[i].syms M) → s'.f 7 = s0.f 7 → s'.f 13 = s0.f 13 → s0.next ≤ s'.next → SameF M (unkGo1 src.decls[i].kind src.decls[i].syms M) → Q .normal s') : ewp Try.prog e28n92 Q s0 := by
  generalize hR : unkGo1 src.decls[i].kind src.decls[i].syms M = R at hQ
  have f1 := h.f1; have f2 := h.f2; have f6 := h.f6
  have hA0 := h
  repeat' with_reducible first
    | refine ewp_reg_seq ?_ | refine ewp_block ?_
    | simp -implicitDefEqProofs only [wA, Nat.reduceEqDiff, ↓reduceIte, reduceCtorEq, Nat.reduceAdd, Int.cast_ofNat_Int, Int.reduceLT, Int.reduceLE, Int.reduceEq, Int.reduceToNat, decide_true, decide_false, Bool.false_eq_true, f1, f2, f6]
  refine ewp_loopN ?nx5 (fun (z : Nat × Mk) s => s.f 1 = ?v5_1 ∧ s.f 2 = ?v5_2 ∧ s.f 6 = ?v5_6 ∧ s.f 7 = ?v5_7 ∧ s.f 13 = ?v5_13 ∧ s.f 14 = vi z.1 ∧ (z.1 ≤ src.decls[i].syms.length) ∧ ((OfAt s m src ti gi vN vP vT vL z.2)) ∧ (unkGo1 src.decls[i].kind (src.decls[i].syms.drop z.1) z.2 = R) ∧ ((SameF M z.2))) (fun z => src.decls[i].syms.length - z.1) ((0, M)) (by simp -implicitDefEqProofs only [wN, Nat.reduceAdd, Nat.zero_add]; exact Nat.le_refl _) (by refine ⟨?_, ?_, ?_, ?_, ?_, ?_, (by first | omega | (simp; done) | assumption), (by exact hA0.mono (by simp -implicitDefEqProofs only [wL, Nat.reduceEqDiff, ↓reduceIte, reduceCtorEq]) (by simp -implicitDefEqProofs only [wL, Nat.reduceEqDiff, ↓reduceIte, reduceCtorEq]) (by simp -implicitDefEqProofs only [wL, Nat.reduceEqDiff, ↓reduceIte, reduceCtorEq]) (by (try simp only [wN]); omega) (fun j hj => by first | rfl | simp only [wM])), (by exact hR), (by exact SameF.rfl' M)⟩ <;> first | (simp -implicitDefEqProofs only [wL, wM, wN, wX, Nat.reduceEqDiff, ↓reduceIte, reduceCtorEq, Nat.reduceAdd, Option.some.injEq] <;> first | rfl | exact ⟨_, rfl⟩ | exact ⟨_, rfl, by first | assumption | exact Gr.nil | exact Gr.tok rfl (by omega) | exact Gr.tok (by simp -implicitDefEqProofs only [wM, Nat.reduceEqDiff, ↓reduceIte, reduceCtorEq] <;> rfl) (by omega) | exact Gr.clip⟩) | rfl | exact ⟨_, rfl⟩) ?_
  intro z s hnx ⟨g1, g2, g6, g7, g13, g14, k5_0, k5_1, k5_2, k5_3⟩
  obtain ⟨k, M1⟩ := z
  dsimp only at g14 k5_0 k5_1 k5_2 k5_3
  have hA1 := k5_1
  have g1 := hA1.f1; have g2 := hA1.f2; have g6 := hA1.f6; have o0 := hA1.h0; have ln := hA1.ln
  have hM := hA1.at_; have hm := hM.hm; have lm := hM.lm; have lt := hM.lt; have lg := hM.lg
  obtain ⟨n1, n2, n3⟩ := hM.mt
  have hgd : src.decls[i]? = some src.decls[i] := List.getElem?_eq_getElem hi
  have hbt : M1.lefts.length ≤ 1099511627776 := by rw [k5_3.2.2.1]; omega
  by_cases hk : k < src.decls[i].syms.length
  · rw [List.drop_eq_getElem_cons hk, unkGo1_cons] at k5_2
    by_cases hu : 5 ≤ src.decls[i].kind ∧ leftGo src.decls[i].syms[k].name M1.lefts 0 < 0
    · have e : unkM M1 src.decls[i].kind src.decls[i].syms[k] = failM M1 src.decls[i].syms[k].at_ src.decls[i].syms[k].name := if_pos hu
      rw [e] at k5_2
      repeat' with_reducible first
        | refine ewp_reg_seq ?_ | refine ewp_seq ?_ | refine ewp_reg ?_ | refine ewp_skip ?_ | refine ewp_block ?_ | refine xt_n ?_ | refine xb_n ?_ | refine ewp_condQ ?_ | refine L_gdQ ?_ | refine gdQ_TT ?_
        | simp -implicitDefEqProofs only [wA, Nat.reduceEqDiff, ↓reduceIte, reduceCtorEq, Nat.reduceAdd, Int.cast_ofNat_Int, Int.reduceLT, Int.reduceLE, Int.reduceEq, Int.reduceToNat, decide_true, decide_false, Bool.false_eq_true, g1, g2, g6, g7, g13, g14, g1, g2, g6, f13, g14, o0, hm]
        | (refine condQ_i (fun h => ?_) (fun h => ?_) <;> have h_ := h <;> (try simp only [wD, reduceCtorEq] at h_) <;> (try (exfalso; first | omega | exact bf h_ (by assumption) | exact bt h_ (by assumption) | (refine absurd ?_ h_; focus assumption) | (refine absurd h_ ?_; focus assumption))) <;> (try simp only [h]))
        | ((first | refine gdQ_iT (fun h => ?_) (fun h => ?_) | refine gdQ_iF (fun h => ?_) (fun h => ?_)) <;> have h_ := h <;> (try simp only [wD, reduceCtorEq] at h_) <;> (try (exfalso; first | omega | exact bf h_ (by assumption) | exact bt h_ (by assumption) | (refine absurd ?_ h_; focus assumption) | (refine absurd h_ ?_; focus assumption))) <;> (try simp only [h]))
        | (apply callQB2 (hp := yuccaref9_maker_left ?_); (focus (refine (hM.mono (Nat.le_refl _) (fun j hj => ?_)).er; (try simp only [wM]); (repeat rw [if_neg (by omega)]))); (focus exact er_cl); (focus (with_unfolding_all rfl)); (focus exact Flat.int _ _); rotate_left; (focus (first | assumption | omega | (simp only [wZ]; omega) | trivial)))
        | (refine callQWc rfl rfl rfl ((failE (hM.mono (by simp only [wN]; omega) (fun j hj => by (try simp only [wM]); (repeat rw [if_neg (by omega)])))).mono ?_); rintro v1 H1 n1 ⟨q1, q2, q3⟩; (try simp only [wN] at q1); (try simp only [wM] at q3))
        | (apply ia_slQ; (focus omega); (focus (first | assumption | exact List.getElem?_eq_getElem (by omega) | rfl)))
        | (apply ldQ_cell; (focus with_unfolding_all rfl))
        | (apply ld_ipQ; (focus with_unfolding_all rfl))
        | (apply stQ_whole; (focus with_unfolding_all rfl); (focus with_unfolding_all rfl))
        | simp -implicitDefEqProofs (disch := omega) only [w64, if_neg]
      (try simp only [wN] at q1); (try simp only [wM, wN] at q3)
      have hst : ∀ j, j < s.next → j ≠ m → H1 j = s.H j := fun j h1 h2 => by rw [q3 j (by omega) h2]; repeat (first | rw [if_pos trivial] | rw [if_pos rfl] | rw [if_neg (by omega)])
      refine ⟨by (try simp only [wN]); omega, (k + 1, failM M1 src.decls[i].syms[k].at_ src.decls[i].syms[k].name), by dsimp only; omega, f1.symm, f2.symm, f6.symm, by first | trivial | rfl, by first | trivial | rfl, rfl, by dsimp only; omega, hA1.upd (q2.mono (by (try simp only [wN]); omega) (fun j hj => by first | rfl | simp only [wM])) (by simp -implicitDefEqProofs only [wL, Nat.reduceEqDiff, ↓reduceIte, reduceCtorEq]) (by simp -implicitDefEqProofs only [wL, Nat.reduceEqDiff, ↓reduceIte, reduceCtorEq]) (by simp -implicitDefEqProofs only [wL, Nat.reduceEqDiff, ↓reduceIte, reduceCtorEq]) (by (try simp only [wN]); omega) (fun j h1 h2 h3 h4 h5 => (by (try simp only [wM]); exact hst j h1 h2)), k5_2, k5_3.trans' (SameF.fail M1 _ _)⟩
    · have e : unkM M1 src.decls[i].kind src.decls[i].syms[k] = M1 := if_neg hu
      rw [e] at k5_2
      repeat' with_reducible first
        | refine ewp_reg_seq ?_ | refine ewp_seq ?_ | refine ewp_reg ?_ | refine ewp_skip ?_ | refine ewp_block ?_ | refine xt_n ?_ | refine xb_n ?_ | refine ewp_condQ ?_ | refine condQ_F ?_ | refine L_gdQ ?_ | refine gdQ_TT ?_ | refine gdQ_FT ?_
        | simp -implicitDefEqProofs only [wA, Nat.reduceEqDiff, ↓reduceIte, reduceCtorEq, Nat.reduceAdd, Int.cast_ofNat_Int, Int.reduceLT, Int.reduceLE, Int.reduceEq, Int.reduceToNat, decide_true, decide_false, Bool.false_eq_true, g1, g2, g6, g7, g13, g14, g1, g2, g6, f13, g14, o0, hm]
        | (refine condQ_i (fun h => ?_) (fun h => ?_) <;> have h_ := h <;> (try simp only [wD, reduceCtorEq] at h_) <;> (try (exfalso; first | omega | exact bf h_ (by assumption) | exact bt h_ (by assumption) | (refine absurd ?_ h_; focus assumption) | (refine absurd h_ ?_; focus assumption))) <;> (try simp only [h]))
        | ((first | refine gdQ_iT (fun h => ?_) (fun h => ?_) | refine gdQ_iF (fun h => ?_) (fun h => ?_)) <;> have h_ := h <;> (try simp only [wD, reduceCtorEq] at h_) <;> (try (exfalso; first | omega | exact bf h_ (by assumption) | exact bt h_ (by assumption) | (refine absurd ?_ h_; focus assumption) | (refine absurd h_ ?_; focus assumption))) <;> (try simp only [h]))
        | (apply callQB2 (hp := yuccaref9_maker_left ?_); (focus (refine (hM.mono (Nat.le_refl _) (fun j hj => ?_)).er; (try simp only [wM]); (repeat rw [if_neg (by omega)]))); (focus exact er_cl); (focus (with_unfolding_all rfl)); (focus exact Flat.int _ _); rotate_left; (focus (first | assumption | omega | (simp only [wZ]; omega) | trivial)))
        | (apply ia_slQ; (focus omega); (focus (first | assumption | exact List.getElem?_eq_getElem (by omega) | rfl)))
        | (apply ldQ_cell; (focus with_unfolding_all rfl))
        | (apply ld_ipQ; (focus with_unfolding_all rfl))
        | (apply stQ_whole; (focus with_unfolding_all rfl); (focus with_unfolding_all rfl))
        | simp -implicitDefEqProofs (disch := omega) only [w64, if_neg]
      all_goals (refine ⟨by (try simp only [wN]); omega, (k + 1, M1), by dsimp only; omega, f1.symm, f2.symm, f6.symm, by first | trivial | rfl, by first | trivial | rfl, rfl, by dsimp only; omega, hA1.mono (by simp -implicitDefEqProofs only [wL, Nat.reduceEqDiff, ↓reduceIte, reduceCtorEq]) (by simp -implicitDefEqProofs only [wL, Nat.reduceEqDiff, ↓reduceIte, reduceCtorEq]) (by simp -implicitDefEqProofs only [wL, Nat.reduceEqDiff, ↓reduceIte, reduceCtorEq]) (by (try simp only [wN]); omega) (fun j hj => (by (try simp only [wM]); repeat (first | rw [if_pos trivial] | rw [if_pos rfl] | rw [if_neg (by omega)]))), k5_2, k5_3⟩)
  · rw [List.drop_eq_nil_of_le (by omega), unkGo1_nil] at k5_2
    subst k5_2
    repeat' with_reducible first
      | refine ewp_reg_seq ?_ | refine ewp_seq ?_ | refine ewp_exit ?_ | refine xt_e ?_ | refine xb_e ?_ | refine ewp_condQ ?_
      | simp -implicitDefEqProofs only [wA, Nat.reduceEqDiff, ↓reduceIte, reduceCtorEq, Nat.reduceAdd, Int.cast_ofNat_Int, Int.reduceLT, Int.reduceLE, Int.reduceEq, Int.reduceToNat, decide_true, decide_false, Bool.false_eq_true, g1, g2, g6, g7, g13, g14, g1, g2, g6, f13, g14, o0]
      | (refine condQ_i (fun h => ?_) (fun h => ?_) <;> have h_ := h <;> (try simp only [wD, reduceCtorEq] at h_) <;> (try (exfalso; first | omega | exact bf h_ (by assumption) | exact bt h_ (by assumption) | (refine absurd ?_ h_; focus assumption) | (refine absurd h_ ?_; focus assumption))) <;> (try simp only [h]))
      | (apply ia_slQ; (focus omega); (focus (first | assumption | exact List.getElem?_eq_getElem (by omega) | rfl)))
      | (apply ldQ_cell; (focus with_unfolding_all rfl))
      | (apply ld_ipQ; (focus with_unfolding_all rfl))
    exact hQ _ (hA1.mono (by simp -implicitDefEqProofs only [wL, Nat.reduceEqDiff, ↓reduceIte, reduceCtorEq]) (by simp -implicitDefEqProofs only [wL, Nat.reduceEqDiff, ↓reduceIte, reduceCtorEq]) (by simp -implicitDefEqProofs only [wL, Nat.reduceEqDiff, ↓reduceIte, reduceCtorEq]) (by (try simp only [wN]); omega) (fun j hj => by first | rfl | simp only [wM])) (by simp -implicitDefEqProofs only [wL, Nat.reduceEqDiff, ↓reduceIte, reduceCtorEq]; exact g7) (by simp -implicitDefEqProofs only [wL, Nat.reduceEqDiff, ↓reduceIte, reduceCtorEq]; exact g13) (by simp only [wN]; omega) k5_3

theorem unkWalk {s0 : St} {m ti gi : Nat} {src : Source} {vN vP vT vL : V} {M : Mk} {E : EC} {Q : Exit → St → Prop} (h : OfAt s0 m src ti gi vN vP vT vL M) (hS : Small src) (b2 : M.lefts.length ≤ 1000000000)
    (hQ : ∀ s', OfAt s' m src ti gi vN vP vT vL (unkGo src.decls M) → s'.f 7 = s0.f 7 → s0.next ≤ s'.next → SameF M (unkGo src.decls M) → ewp Try.prog E Q s') : ewp Try.prog (.seq e28n99 E) Q s0 := by
  generalize hR : unkGo src.decls M = R at hQ
  have f1 := h.f1; have f2 := h.f2; have f6 := h.f6
  have hA0 := h
  have hdl := hS.dl
  repeat' with_reducible first
    | refine ewp_reg_seq ?_ | refine ewp_seq ?_ | refine ewp_block ?_
    | simp -implicitDefEqProofs only [wA, Nat.reduceEqDiff, ↓reduceIte, reduceCtorEq, Nat.reduceAdd, Int.cast_ofNat_Int, Int.reduceLT, Int.reduceLE, Int.reduceEq, Int.reduceToNat, decide_true, decide_false, Bool.false_eq_true, f1, f2, f6]
  refine ewp_loopN ?nx4 (fun (z : Nat × Mk) s => s.f 1 = ?v4_1 ∧ s.f 2 = ?v4_2 ∧ s.f 6 = ?v4_6 ∧ s.f 7 = ?v4_7 ∧ s.f 13 = vi z.1 ∧ (z.1 ≤ src.decls.length) ∧ ((OfAt s m src ti gi vN vP vT vL z.2)) ∧ (unkGo (src.decls.drop z.1) z.2 = R) ∧ ((SameF M z.2))) (fun z => src.decls.length - z.1) ((0, M)) (by simp -implicitDefEqProofs only [wN, Nat.reduceAdd, Nat.zero_add]; exact Nat.le_refl _) (by refine ⟨?_, ?_, ?_, ?_, ?_, (by first | omega | (simp; done) | assumption), (by exact hA0.mono (by simp -implicitDefEqProofs only [wL, Nat.reduceEqDiff, ↓reduceIte, reduceCtorEq]) (by simp -implicitDefEqProofs only [wL, Nat.reduceEqDiff, ↓reduceIte, reduceCtorEq]) (by simp -implicitDefEqProofs only [wL, Nat.reduceEqDiff, ↓reduceIte, reduceCtorEq]) (by (try simp only [wN]); omega) (fun j hj => by first | rfl | simp only [wM])), (by exact hR), (by exact SameF.rfl' M)⟩ <;> first | (simp -implicitDefEqProofs only [wL, wM, wN, wX, Nat.reduceEqDiff, ↓reduceIte, reduceCtorEq, Nat.reduceAdd, Option.some.injEq] <;> first | rfl | exact ⟨_, rfl⟩ | exact ⟨_, rfl, by first | assumption | exact Gr.nil | exact Gr.tok rfl (by omega) | exact Gr.tok (by simp -implicitDefEqProofs only [wM, Nat.reduceEqDiff, ↓reduceIte, reduceCtorEq] <;> rfl) (by omega) | exact Gr.clip⟩) | rfl | exact ⟨_, rfl⟩) ?_
  intro z s hnx ⟨g1, g2, g6, g7, g13, k4_0, k4_1, k4_2, k4_3⟩
  obtain ⟨i, M1⟩ := z
  dsimp only at g13 k4_0 k4_1 k4_2 k4_3
  have hA1 := k4_1
  have g1 := hA1.f1; have g2 := hA1.f2; have g6 := hA1.f6; have o0 := hA1.h0; have ln := hA1.ln
  by_cases hi : i < src.decls.length
  · rw [List.drop_eq_getElem_cons hi, unkGo_cons] at k4_2
    have hgd : src.decls[i]? = some src.decls[i] := List.getElem?_eq_getElem hi
    have T : ∀ (s' : St) (Q : Exit → St → Prop), OfAt s' m src ti gi vN vP vT vL M1 → s'.f 13 = vi i → (∀ s2, OfAt s2 m src ti gi vN vP vT vL (unkGo1 src.decls[i].kind src.decls[i].syms M1) → s2.f 7 = s'.f 7 → s2.f 13 = s'.f 13 → s'.next ≤ s2.next → SameF M1 (unkGo1 src.decls[i].kind src.decls[i].syms M1) → Q .normal s2) → ewp Try.prog e28n92 Q s' :=
      fun s' Q q1 q2 q3 => unk1Walk q1 hi q2 hdl (hS.ds _ (List.getElem_mem hi)) (by rw [k4_3.2.2.1]; omega) q3
    show ewp _ (.seq e28n75 (.seq (.block 7 e28n92) (.reg e28r94))) _ _
    generalize e28n92 = E92 at T
    generalize hG : unkGo1 src.decls[i].kind src.decls[i].syms M1 = G at T k4_2
    repeat' with_reducible first
      | refine ewp_reg_seq ?_ | refine ewp_seq ?_ | refine ewp_skip ?_ | refine ewp_block ?_ | refine xt_n ?_ | refine ewp_condQ ?_
      | simp -implicitDefEqProofs only [wA, Nat.reduceEqDiff, ↓reduceIte, reduceCtorEq, Nat.reduceAdd, Int.cast_ofNat_Int, Int.reduceLT, Int.reduceLE, Int.reduceEq, Int.reduceToNat, decide_true, decide_false, Bool.false_eq_true, g1, g2, g6, g7, g13, g1, g2, g6, g13, o0]
      | (refine condQ_i (fun h => ?_) (fun h => ?_) <;> have h_ := h <;> (try simp only [wD, reduceCtorEq] at h_) <;> (try (exfalso; first | omega | exact bf h_ (by assumption) | exact bt h_ (by assumption) | (refine absurd ?_ h_; focus assumption) | (refine absurd h_ ?_; focus assumption))) <;> (try simp only [h]))
      | (apply ldQ_cell; (focus with_unfolding_all rfl))
    refine T _ _ (hA1.mono (by simp -implicitDefEqProofs only [wL, Nat.reduceEqDiff, ↓reduceIte, reduceCtorEq]) (by simp -implicitDefEqProofs only [wL, Nat.reduceEqDiff, ↓reduceIte, reduceCtorEq]) (by simp -implicitDefEqProofs only [wL, Nat.reduceEqDiff, ↓reduceIte, reduceCtorEq]) (by (try simp only [wN]); omega) (fun j hj => by first | rfl | simp only [wM])) (by simp -implicitDefEqProofs only [wL, Nat.reduceEqDiff, ↓reduceIte, reduceCtorEq, g13]) (fun s2 r1 r2 r3 r4 r5 => ?_)
    have h13 : s2.f 13 = vi i := r3.trans (by simp -implicitDefEqProofs only [wL, Nat.reduceEqDiff, ↓reduceIte, reduceCtorEq, g13])
    have h7 : s2.f 7 = s0.f 7 := r2.trans (by simp -implicitDefEqProofs only [wL, Nat.reduceEqDiff, ↓reduceIte, reduceCtorEq, g7])
    (try simp only [wN] at r4)
    repeat' with_reducible first
      | refine ewp_reg ?_ | refine xt_n ?_ | refine xb_n ?_
      | simp -implicitDefEqProofs only [wA, Nat.reduceEqDiff, ↓reduceIte, reduceCtorEq, Nat.reduceAdd, Int.cast_ofNat_Int, Int.reduceLT, Int.reduceLE, Int.reduceEq, Int.reduceToNat, decide_true, decide_false, Bool.false_eq_true, g1, g2, g6, g7, g13, h13]
      | simp -implicitDefEqProofs (disch := omega) only [w64, if_neg]
    refine ⟨by (try simp only [wN]); omega, (i + 1, G), by dsimp only; omega, by rw [f1]; exact r1.f1, by rw [f2]; exact r1.f2, by rw [f6]; exact r1.f6, h7, rfl, by dsimp only; omega, r1.mono (by simp -implicitDefEqProofs only [wL, Nat.reduceEqDiff, ↓reduceIte, reduceCtorEq]) (by simp -implicitDefEqProofs only [wL, Nat.reduceEqDiff, ↓reduceIte, reduceCtorEq]) (by simp -implicitDefEqProofs only [wL, Nat.reduceEqDiff, ↓reduceIte, reduceCtorEq]) (by (try simp only [wN]); omega) (fun j hj => by first | rfl | simp only [wM]), k4_2, k4_3.trans' r5⟩
  · rw [List.drop_eq_nil_of_le (by omega), unkGo_nil] at k4_2
    subst k4_2
    repeat' with_reducible first
      | refine ewp_reg_seq ?_ | refine ewp_seq ?_ | refine ewp_exit ?_ | refine xt_n ?_ | refine xt_e ?_ | refine xb_e ?_ | refine ewp_condQ ?_
      | simp -implicitDefEqProofs only [wA, Nat.reduceEqDiff, ↓reduceIte, reduceCtorEq, Nat.reduceAdd, Int.cast_ofNat_Int, Int.reduceLT, Int.reduceLE, Int.reduceEq, Int.reduceToNat, decide_true, decide_false, Bool.false_eq_true, g1, g2, g6, g7, g13, g1, g2, g6, g13, o0]
      | (refine condQ_i (fun h => ?_) (fun h => ?_) <;> have h_ := h <;> (try simp only [wD, reduceCtorEq] at h_) <;> (try (exfalso; first | omega | exact bf h_ (by assumption) | exact bt h_ (by assumption) | (refine absurd ?_ h_; focus assumption) | (refine absurd h_ ?_; focus assumption))) <;> (try simp only [h]))
      | (apply ldQ_cell; (focus with_unfolding_all rfl))
    exact hQ _ (hA1.mono (by simp -implicitDefEqProofs only [wL, Nat.reduceEqDiff, ↓reduceIte, reduceCtorEq]) (by simp -implicitDefEqProofs only [wL, Nat.reduceEqDiff, ↓reduceIte, reduceCtorEq]) (by simp -implicitDefEqProofs only [wL, Nat.reduceEqDiff, ↓reduceIte, reduceCtorEq]) (by (try simp only [wN]); omega) (fun j hj => by first | rfl | simp only [wM])) (by simp -implicitDefEqProofs only [wL, Nat.reduceEqDiff, ↓reduceIte, reduceCtorEq]; exact g7) (by simp only [wN]; omega) k4_3
end Go.Proofs


set_option maxHeartbeats 4000000
namespace Go.Proofs
open Go.E

/-- The start symbol, and the first production. -/
abbrev startS (src : Source) (st : List UInt8) : List UInt8 := if st = [] then (src.rules.headD {}).left else st
abbrev firstM (M : Mk) (start : List UInt8) : Mk := { M with prods := [{ left := 0, right := [1001 + leftGo start M.lefts 0], prec := -1 }] }
abbrev first0 (M : Mk) (start : List UInt8) : V := .agg [vi 0, .sl 1 true [vi (1001 + leftGo start M.lefts 0)], vi (-1), .str [], .sl 1 true [], vi 0]

theorem firstWalk {s0 : St} {m ti gi : Nat} {src : Source} {vN vP vT vL : V} {M : Mk} {start : List UInt8} {E : EC} {Q : Exit → St → Prop} (h : OfAt s0 m src ti gi vN vP vT vL M) (f7 : s0.f 7 = .str start) (b2 : M.lefts.length ≤ 1000000000)
    (hQ : ∀ s', OfAt s' m src ti gi vN (.sl 6 true [first0 M start]) vT vL (firstM M start) → s0.next ≤ s'.next → ewp Try.prog E Q s') : ewp Try.prog (.seq (.reg e28r104) E) Q s0 := by
  have hA0 := h
  have f1 := h.f1; have f2 := h.f2; have f6 := h.f6
  have hM := h.at_; have hm := hM.hm; have lm := hM.lm; have lt := hM.lt; have lg := hM.lg; have ln := h.ln
  obtain ⟨n1, n2, n3⟩ := hM.mt
  have hbd := leftGo_bd start M.lefts 0
  have hz : IntKind.i64.wrap (1001 + leftGo start M.lefts 0) = 1001 + leftGo start M.lefts 0 := wrap64 (by omega) (by omega)
  repeat' with_reducible first
    | refine ewp_reg_seq ?_
    | simp -implicitDefEqProofs only [wA, Nat.reduceEqDiff, ↓reduceIte, reduceCtorEq, Nat.reduceAdd, Int.cast_ofNat_Int, Int.reduceLT, Int.reduceLE, Int.reduceEq, Int.reduceToNat, decide_true, decide_false, Bool.false_eq_true, f1, f2, f6, f7, hm, hz]
    | (apply callQB2 (hp := yuccaref9_maker_left ?_); (focus (refine (hM.mono (Nat.le_refl _) (fun j hj => ?_)).er; (try simp only [wM]); (repeat rw [if_neg (by omega)]))); (focus exact er_cl); (focus (with_unfolding_all rfl)); (focus exact Flat.int _ _); rotate_left; (focus (first | assumption | omega | (simp only [wZ]; omega) | trivial)))
    | (apply fil_part; (focus with_unfolding_all rfl); (focus with_unfolding_all rfl); (focus with_unfolding_all rfl); (focus ((try simp -implicitDefEqProofs only [wY]); rfl)))
    | (apply bld_nil)
    | (apply bld_part; (focus with_unfolding_all rfl); (focus with_unfolding_all rfl); (focus with_unfolding_all rfl); (focus ((try simp -implicitDefEqProofs only [wE, Nat.reduceAdd]); rfl)))
    | (apply stQ_cell; (focus with_unfolding_all rfl); (focus with_unfolding_all rfl); (focus with_unfolding_all rfl); (focus (first | assumption | omega | (simp only [wZ]; omega) | trivial)))
  refine hQ _ (hA0.upd ⟨?_, ?_, ?_, hM.eN, ?_, hM.eT, hM.eL, by simp only [wN]; omega, by simp only [wN]; omega, by simp only [wN]; omega, hM.len, hM.len3⟩ (by simp -implicitDefEqProofs only [wL, Nat.reduceEqDiff, ↓reduceIte, reduceCtorEq]) (by simp -implicitDefEqProofs only [wL, Nat.reduceEqDiff, ↓reduceIte, reduceCtorEq]) (by simp -implicitDefEqProofs only [wL, Nat.reduceEqDiff, ↓reduceIte, reduceCtorEq]) (by simp only [wN]; omega) (fun j g1 g2 g3 g4 g5 => ?_)) (by simp only [wN]; omega)
  · simp only [wM]
    repeat (first | rw [if_pos trivial] | rw [if_pos rfl] | rw [if_neg (by omega)])
  · simp only [wM]
    repeat (first | rw [if_pos trivial] | rw [if_pos rfl] | rw [if_neg (by omega)])
    exact hM.ht
  · simp only [wM]
    repeat (first | rw [if_pos trivial] | rw [if_pos rfl] | rw [if_neg (by omega)])
    exact hM.hg
  · exact ErL.sl (.cons (ErL.agg (.cons (.int _ _) (.cons (ErL.sl (.cons (.int _ _) .nil)) (.cons (.int _ _) (.cons (.str _) (.cons (ErL.sl .nil) (.cons (.int _ _) .nil))))))) .nil)
  · simp only [wM]
    repeat (first | rw [if_pos trivial] | rw [if_pos rfl] | rw [if_neg (by omega)])

theorem startWalk {s0 : St} {m ti gi : Nat} {src : Source} {vN vP vT vL : V} {M : Mk} {st : List UInt8} {E : EC} {Q : Exit → St → Prop} (h : OfAt s0 m src ti gi vN vP vT vL M) (f7 : s0.f 7 = .str st) (hr : 0 < src.rules.length)
    (hQ : ∀ s', OfAt s' m src ti gi vN vP vT vL M → s'.f 7 = .str (startS src st) → s0.next ≤ s'.next → ewp Try.prog E Q s') : ewp Try.prog (.seq e28n103 E) Q s0 := by
  have hA0 := h
  have f1 := h.f1; have f2 := h.f2; have f6 := h.f6; have o0 := h.h0; have ln := h.ln
  by_cases hs : st = []
  · have hg : src.rules[(0 : Int).toNat]? = some (src.rules.headD {}) := by
      cases hrs : src.rules with
      | nil => rw [hrs] at hr; simp at hr
      | cons a r => rfl
    have e : startS src st = (src.rules.headD {}).left := if_pos hs
    rw [e] at hQ
    repeat' with_reducible first
      | refine ewp_reg_seq ?_ | refine ewp_seq ?_ | refine ewp_reg ?_ | refine xt_n ?_ | refine ewp_condQ ?_ | refine condQ_T ?_
      | simp -implicitDefEqProofs only [wA, Nat.reduceEqDiff, ↓reduceIte, reduceCtorEq, Nat.reduceAdd, Int.cast_ofNat_Int, Int.reduceLT, Int.reduceLE, Int.reduceEq, Int.reduceToNat, decide_true, decide_false, Bool.false_eq_true, f1, f2, f6, f7, o0, hs]
      | (apply ia_slQ; (focus omega); (focus (first | assumption | exact List.getElem?_eq_getElem (by omega) | rfl)))
      | (apply ldQ_cell; (focus with_unfolding_all rfl))
      | (apply ld_ipQ; (focus with_unfolding_all rfl))
    exact hQ _ (hA0.mono (by simp -implicitDefEqProofs only [wL, Nat.reduceEqDiff, ↓reduceIte, reduceCtorEq]) (by simp -implicitDefEqProofs only [wL, Nat.reduceEqDiff, ↓reduceIte, reduceCtorEq]) (by simp -implicitDefEqProofs only [wL, Nat.reduceEqDiff, ↓reduceIte, reduceCtorEq]) (by (try simp only [wN]); omega) (fun j hj => by first | rfl | simp only [wM])) (by simp -implicitDefEqProofs only [wL, Nat.reduceEqDiff, ↓reduceIte, reduceCtorEq]) (by simp only [wN]; omega)
  · have e : startS src st = st := if_neg hs
    rw [e] at hQ
    repeat' with_reducible first
      | refine ewp_reg_seq ?_ | refine ewp_seq ?_ | refine ewp_skip ?_ | refine xt_n ?_ | refine ewp_condQ ?_
      | simp -implicitDefEqProofs only [wA, Nat.reduceEqDiff, ↓reduceIte, reduceCtorEq, Nat.reduceAdd, Int.cast_ofNat_Int, Int.reduceLT, Int.reduceLE, Int.reduceEq, Int.reduceToNat, decide_true, decide_false, Bool.false_eq_true, f1, f2, f6, f7, o0]
      | (refine condQ_i (fun h => ?_) (fun h => ?_) <;> have h_ := h <;> (try simp only [wD, reduceCtorEq] at h_) <;> (try (exfalso; first | omega | exact bf h_ (by assumption) | exact bt h_ (by assumption) | (refine absurd ?_ h_; focus assumption) | (refine absurd h_ ?_; focus assumption))) <;> (try simp only [h]))
    exact hQ _ (hA0.mono (by simp -implicitDefEqProofs only [wL, Nat.reduceEqDiff, ↓reduceIte, reduceCtorEq]) (by simp -implicitDefEqProofs only [wL, Nat.reduceEqDiff, ↓reduceIte, reduceCtorEq]) (by simp -implicitDefEqProofs only [wL, Nat.reduceEqDiff, ↓reduceIte, reduceCtorEq]) (by (try simp only [wN]); omega) (fun j hj => by first | rfl | simp only [wM])) (by simp -implicitDefEqProofs only [wL, Nat.reduceEqDiff, ↓reduceIte, reduceCtorEq]; exact f7) (by simp only [wN]; omega)

theorem altM_f (M : Mk) (n : List UInt8) (a : Alt) : (altM M n a).lefts = M.lefts ∧ (altM M n a).types = M.types ∧ (altM M n a).nons = M.nons ∧ (altM M n a).toks.length ≤ M.toks.length + a.parts.length + 1 ∧ M.toks.length ≤ (altM M n a).toks.length ∧ M.inner ≤ (altM M n a).inner ∧ (altM M n a).inner ≤ M.inner + a.parts.length := by
  rw [altM_eq M n a _ _ rfl rfl]
  obtain ⟨h1, h2, h3, h4, h5, h6, h7, h8, h9, h10⟩ := altGo_f a.parts M { left := 1 + leftGo n M.lefts 0, prec := -1, at_ := a.at_ }
  generalize altGo a.parts (M, { left := 1 + leftGo n M.lefts 0, prec := -1, at_ := a.at_ }) = q at *
  generalize ({ q.2 with prec := precGo q.2.right (-1) } : GPr).prec = pr
  obtain ⟨k1, k2, k3, k4, k5, k6, k7⟩ := levM_f q.1 a.prec pr
  exact ⟨k1.trans h1, k3.trans h2, k4.trans h3, by show (levM q.1 a.prec pr).1.toks.length ≤ _; omega, by show _ ≤ (levM q.1 a.prec pr).1.toks.length; omega, by show _ ≤ (levM q.1 a.prec pr).1.inner; omega, by show (levM q.1 a.prec pr).1.inner ≤ _; omega⟩
theorem altsGo_nil (n : List UInt8) (M : Mk) : altsGo n [] M = M := rfl
theorem altsGo_cons (n : List UInt8) (a : Alt) (r : List Alt) (M : Mk) : altsGo n (a :: r) M = altsGo n r (altM M n a) := by rw [altsGo]
theorem rulGo_nil (M : Mk) : rulGo [] M = M := rfl
theorem rulGo_cons (r : Rule) (l : List Rule) (M : Mk) : rulGo (r :: l) M = rulGo l (altsGo r.left r.alts M) := by rw [rulGo]
end Go.Proofs
