/-
  Part of a proof that a law of the given program answers true: contracts of its functions, and the law. Holds for inputs of at most 1048576 values and letters in all.
-/
import Derived.Test.YtpnfbnlhjdnnpaaPB
set_option linter.unusedSimpArgs false
set_option linter.unusedVariables false
namespace Go.Proofs
open Go.E

theorem putM_bd (M : Mk) (x : Sym) (h : 1 ≤ M.toks.length) : 0 ≤ (putM M x).2 ∧ (putM M x).2 < (putM M x).1.toks.length := by
  have := tokM_bd x M.toks h
  unfold putM; split
  · exact ⟨by assumption, by simpa using this.2⟩
  · dsimp only; constructor
    · omega
    · simp; omega
theorem putM_f (M : Mk) (x : Sym) : (putM M x).1.types = M.types ∧ (putM M x).1.lefts = M.lefts ∧ (putM M x).1.prods = M.prods ∧ (putM M x).1.nons = M.nons ∧ (putM M x).1.level = M.level ∧ (putM M x).1.inner = M.inner ∧ M.toks.length ≤ (putM M x).1.toks.length ∧ (putM M x).1.toks.length ≤ M.toks.length + 1 := by
  obtain ⟨ff1, ff2, ff3, ff4, ff5, ff6, ff7, ff8⟩ := failM_f M x.at_ x.name
  unfold putM; split
  · exact ⟨rfl, rfl, rfl, rfl, rfl, rfl, Nat.le_refl _, by dsimp only; omega⟩
  · dsimp only
    split <;> simp_all
theorem declAM_f (M : Mk) (kind : Int) (x : Sym) (t : Int) : (declA M kind x t).types = M.types ∧ (declA M kind x t).toks.length = M.toks.length := by
  obtain ⟨ff1, ff2, ff3, ff4, ff5, ff6, ff7, ff8⟩ := failM_f M x.at_ x.name
  unfold declA; split
  · exact ⟨rfl, rfl⟩
  · dsimp only
    split <;> simp_all [setT]
theorem declBM_f (M : Mk) (x : Sym) (t : Int) : (declB2 M x t).types = M.types ∧ (declB2 M x t).toks.length = M.toks.length := by
  obtain ⟨ff1, ff2, ff3, ff4, ff5, ff6, ff7, ff8⟩ := failM_f M x.at_ x.name
  unfold declB2; split
  · dsimp only
    split <;> simp_all [setT]
  · exact ⟨rfl, rfl⟩
theorem declCM_f (M : Mk) (tag : List UInt8) (x : Sym) (t : Int) : (declC M tag x t).types = M.types ∧ (declC M tag x t).toks.length = M.toks.length := by
  obtain ⟨ff1, ff2, ff3, ff4, ff5, ff6, ff7, ff8⟩ := failM_f M x.at_ x.name
  unfold declC; split
  · dsimp only
    split <;> simp_all [setT]
  · exact ⟨rfl, rfl⟩
/-- Objects that are none of the maker's, nor tokens. -/
def FrO (H H' : Nat → Option MObj) (next m ti gi : Nat) : Prop := ∀ j, j < next → j ≠ m → j ≠ ti → j ≠ gi → (∀ f, H j ≠ some (.tok f)) → H' j = H j

theorem dropG_ne {F : Nat → Option MObj} {g : Option Nat} {j : Nat} (h : g ≠ some j) : dropG F g j = F j := if_neg h
theorem _root_.Go.E.Gr.ne {H : Nat → Option MObj} {next z j : Nat} {es : List V} {v : V} (h : Gr H next z es v) (ho : ∀ f, H j ≠ some (.tok f)) : gid v ≠ some j := by
  rcases h with rfl | ⟨id, fin, rfl, h1, _⟩
  · intro e; cases e
  · intro e; cases e; exact ho _ h1
theorem MkAt.nt {H : Nat → Option MObj} {next m ti gi : Nat} {vN vP vT vL : V} {M : Mk} (h : MkAt H next m ti gi vN vP vT vL M) : (∀ f, H m ≠ some (.tok f)) ∧ (∀ f, H ti ≠ some (.tok f)) ∧ (∀ f, H gi ≠ some (.tok f)) :=
  ⟨fun f e => (by rw [h.hm] at e; cases e), fun f e => (by rw [h.ht] at e; cases e), fun f e => (by rw [h.hg] at e; cases e)⟩
theorem _root_.Go.E.Gr.stay {H H' : Nat → Option MObj} {next n' m ti gi z : Nat} {es : List V} {v : V} {vN vP vT vL : V} {M : Mk} (h : Gr H next z es v) (hM : MkAt H next m ti gi vN vP vT vL M) (hn : next ≤ n') (hf : ∀ j, j < next → j ≠ m → j ≠ ti → j ≠ gi → H' j = H j) : Gr H' n' z es v := by
  obtain ⟨a1, a2, a3⟩ := hM.nt
  refine h.mono hn fun id h1 h2 => hf id h2 (fun e => ?_) (fun e => ?_) (fun e => ?_)
  · subst e; exact h.ne a1 h1
  · subst e; exact h.ne a2 h1
  · subst e; exact h.ne a3 h1

theorem declE {H : Nat → Option MObj} {next m ti gi : Nat} {vN vP vT vL : V} {M : Mk} {d : Decl} {x : Sym} (hM : MkAt H next m ti gi vN vP vT vL M) (hT : Gr H next 2 (M.types.map Non.V) vT) (hb : M.toks.length ≤ 549755813888) (hbt : M.types.length ≤ 549755813888) (hx : x.lit = true → x.name ≠ []) (hk : 1 ≤ d.kind ∧ d.kind ≤ 6) : ECalls Try.prog 40 [.ptr m 0 0, d.V, x.V] H next (fun _ H' next' => next ≤ next' ∧ (∃ ti' gi' vT', (ti' = ti ∨ next ≤ ti') ∧ (gi' = gi ∨ next ≤ gi') ∧ MkAt H' next' m ti' gi' vN vP vT' vL (declM M d x) ∧ Gr H' next' 2 ((declM M d x).types.map Non.V) vT') ∧ FrO H H' next m ti gi) := by
  refine ecalls_intro Try.func40 e40_nm e40_ok (by show 3 ≤ 152; decide) ?_
  show ewp _ e40n51 _ _
  have hm := hM.hm; have lm := hM.lm; have lt := hM.lt; have lg := hM.lg
  obtain ⟨n1, n2, n3⟩ := hM.mt
  by_cases hk5 : d.kind = 5
  · by_cases hn : typGo x.name M.types 0 < 0
    · have e : declM M d x = { M with types := M.types ++ [{ name := x.name, tag := d.tag }] } := by unfold declM; rw [if_pos hk5]; simp only [if_pos hn]
      rw [e]
      obtain ⟨a1, a2, a3⟩ := hM.nt
      repeat' with_reducible first
        | refine ewp_reg_seq ?_ | refine ewp_seq ?_ | refine ewp_reg ?_ | refine ewp_ret ?_ | refine xt_n ?_ | refine xt_r ?_ | refine ewp_condQ ?_ | refine condQ_T ?_
        | simp -implicitDefEqProofs only [wA, Nat.reduceEqDiff, ↓reduceIte, reduceCtorEq, Nat.reduceAdd, Int.cast_ofNat_Int, Int.reduceLT, Int.reduceLE, Int.reduceEq, Int.reduceToNat, decide_true, decide_false, Bool.false_eq_true, hm, hk5, dropG_ne (hT.ne a1)]
        | (refine condQ_i (fun h => ?_) (fun h => ?_) <;> have h_ := h <;> (try simp only [wD, reduceCtorEq] at h_) <;> (try (exfalso; first | omega | exact bf h_ (by assumption) | exact bt h_ (by assumption) | (refine absurd ?_ h_; focus assumption) | (refine absurd h_ ?_; focus assumption))) <;> (try simp only [h]))
        | (apply callQB2 (hp := yuccaref9_maker_typeOf ?_); (focus (refine (hM.mono (Nat.le_refl _) (fun j hj => ?_)).er; (try simp only [wM]); (repeat rw [if_neg (by omega)]))); (focus exact er_cl); (focus (with_unfolding_all rfl)); (focus exact Flat.int _ _); rotate_left; (focus (first | assumption | omega | (simp only [wZ]; omega) | trivial)))
        | (apply appQ_G rfl (hT.mono (Nat.le_refl _) (fun id h1 h2 => by (try simp only [wM]); (repeat rw [if_neg (by omega)]))); (focus (first | exact SrcN.sl | exact SrcN.asl)); (focus (simp only [wZ]; omega)); (focus (unfold maxLen; simp only [wZ]; omega)))
        | (apply fil_part; (focus with_unfolding_all rfl); (focus with_unfolding_all rfl); (focus with_unfolding_all rfl); (focus ((try simp -implicitDefEqProofs only [wY]); rfl)))
        | (apply bld_nil)
        | (apply bld_part; (focus with_unfolding_all rfl); (focus with_unfolding_all rfl); (focus with_unfolding_all rfl); (focus ((try simp -implicitDefEqProofs only [wE, Nat.reduceAdd]); rfl)))
        | (apply ldQ_cell; (focus with_unfolding_all rfl))
        | (apply stQ_cell; (focus with_unfolding_all rfl); (focus with_unfolding_all rfl); (focus with_unfolding_all rfl); (focus (first | assumption | omega | (simp only [wZ]; omega) | trivial)))
        | (apply boxQ_i; (focus with_unfolding_all rfl); (focus with_unfolding_all rfl))
        | simp -implicitDefEqProofs (disch := omega) only [w64, if_neg]
      refine heap0 rfl (Or.inr rfl) ?_
      refine ⟨by simp only [wN]; omega, ⟨ti, gi, _, Or.inl rfl, Or.inl rfl, ⟨?_, ?_, ?_, hM.eN, hM.eP, ?_, hM.eL, by simp only [wN]; omega, by simp only [wN]; omega, by simp only [wN]; omega, hM.len, hM.len3⟩, Gr.tok (id := next + 2 + 3 + 5 + 2 + 11) (fin := M.types.length + 1) ?_ (by simp only [wN]; omega)⟩, fun j h1 h2 h3 h4 h5 => ?_⟩
      · simp only [wM, ↓reduceIte]
        simp
      · simp only [wM]
        repeat first | rw [if_pos trivial] | rw [if_pos rfl] | rw [if_neg (by omega)]
        rw [dropG_ne (hT.ne a2)]
        simp only [wM]
        repeat first | rw [if_pos trivial] | rw [if_pos rfl] | rw [if_neg (by omega)]
        exact hM.ht
      · simp only [wM]
        repeat first | rw [if_pos trivial] | rw [if_pos rfl] | rw [if_neg (by omega)]
        rw [dropG_ne (hT.ne a3)]
        simp only [wM]
        repeat first | rw [if_pos trivial] | rw [if_pos rfl] | rw [if_neg (by omega)]
        exact hM.hg
      · exact .asl _ _ _ _ _ rfl (er_list fun v hv => by obtain ⟨a, _, rfl⟩ := List.mem_map.1 hv; exact er_cl)
      · simp only [wM]
        repeat first | rw [if_pos trivial] | rw [if_pos rfl] | rw [if_neg (by omega)]
      · simp only [wM]
        repeat first | rw [if_pos trivial] | rw [if_pos rfl] | rw [if_neg (by omega)]
        rw [dropG_ne (hT.ne h5)]
        simp only [wM]
        repeat first | rw [if_pos trivial] | rw [if_pos rfl] | rw [if_neg (by omega)]
    · have hbd := typGo_bd x.name M.types 0
      obtain ⟨k, hk2⟩ : ∃ k : Nat, typGo x.name M.types 0 = k := ⟨(typGo x.name M.types 0).toNat, by omega⟩
      have hkl : k < M.types.length := by omega
      have hgk : M.types.getD k {} = M.types[k] := by simp [List.getD, hkl]
      have e : declM M d x = if M.types[k].tag ≠ d.tag then failM M x.at_ x.name else M := by
        unfold declM; rw [if_pos hk5]; simp only [hk2, Int.toNat_natCast, hgk]; rw [if_neg (by omega)]
      rw [e]
      repeat' with_reducible first
        | refine ewp_reg_seq ?_ | refine ewp_seq ?_ | refine ewp_reg ?_ | refine ewp_skip ?_ | refine ewp_ret ?_ | refine xt_n ?_ | refine xt_r ?_ | refine ewp_condQ ?_ | refine condQ_T ?_
        | simp -implicitDefEqProofs only [wA, Nat.reduceEqDiff, ↓reduceIte, reduceCtorEq, Nat.reduceAdd, Int.cast_ofNat_Int, Int.reduceLT, Int.reduceLE, Int.reduceEq, Int.reduceToNat, decide_true, decide_false, Bool.false_eq_true, hm, hk5, hk2]
        | (refine condQ_i (fun h => ?_) (fun h => ?_) <;> have h_ := h <;> (try simp only [wD, reduceCtorEq] at h_) <;> (try (exfalso; first | omega | exact bf h_ (by assumption) | exact bt h_ (by assumption) | (refine absurd ?_ h_; focus assumption) | (refine absurd h_ ?_; focus assumption))) <;> (try simp only [h]))
        | (apply callQB2 (hp := yuccaref9_maker_typeOf ?_); (focus (refine (hM.mono (Nat.le_refl _) (fun j hj => ?_)).er; (try simp only [wM]); (repeat rw [if_neg (by omega)]))); (focus exact er_cl); (focus (with_unfolding_all rfl)); (focus exact Flat.int _ _); rotate_left; (focus (first | assumption | omega | (simp only [wZ]; omega) | trivial)))
        | (apply Gr.iaQ hT; (focus omega); (focus (first | assumption | exact List.getElem?_eq_getElem (by omega))))
        | (refine callQWc rfl rfl rfl ((failE (hM.mono (by simp only [wN]; omega) (fun j hj => by (try simp only [wM]); (repeat rw [if_neg (by omega)])))).mono ?_); rintro v1 H1 n1 ⟨q1, q2, q3⟩; (try simp only [wN] at q1); (try simp only [wM] at q3))
        | (apply ldQ_cell; (focus with_unfolding_all rfl))
        | (apply ld_ipQ; (focus with_unfolding_all rfl))
        | (apply boxQ_i; (focus with_unfolding_all rfl); (focus with_unfolding_all rfl))
        | simp -implicitDefEqProofs (disch := omega) only [w64, if_neg]
      · rw [if_pos h_]
        refine heap0 rfl (Or.inr rfl) ?_
        simp only [wN] at q3
        have hfr : ∀ j, j < next → j ≠ m → H1 j = H j := fun j h1 h2 => by rw [q3 j (by omega) h2, if_neg (by omega), if_neg (by omega)]
        refine ⟨by simp only [wN]; omega, ⟨ti, gi, vT, Or.inl rfl, Or.inl rfl, q2.mono (by simp only [wN]; omega) (fun j hj => by simp only [wM]), ?_⟩, fun j h1 h2 h3 h4 h5 => ?_⟩
        · rw [(failM_f M x.at_ x.name).2.2.2.1]
          exact hT.stay hM (by simp only [wN]; omega) (fun j h1 h2 h3 h4 => by simp only [wM]; exact hfr j h1 h2)
        · simp only [wM]; exact hfr j h1 h2
      · rw [if_neg (by simp [h_])]
        refine heap0 rfl (Or.inr rfl) ?_
        have hfr : ∀ j, j < next → (if j = next + 1 then some (.own 4 [x.V] false) else if j = next then some (.own 4 [d.V] false) else H j) = H j := fun j h1 => by rw [if_neg (by omega), if_neg (by omega)]
        refine ⟨by simp only [wN]; omega, ⟨ti, gi, vT, Or.inl rfl, Or.inl rfl, hM.mono (by simp only [wN]; omega) (fun j hj => by simp only [wM]; exact hfr j hj), ?_⟩, fun j h1 h2 h3 h4 h5 => ?_⟩
        · exact hT.stay hM (by simp only [wN]; omega) (fun j h1 h2 h3 h4 => by simp only [wM]; exact hfr j h1)
        · simp only [wM]; exact hfr j h1
  · obtain ⟨t1, t2⟩ := putM_bd M x (by have := hM.len3; omega)
    obtain ⟨p1, p2, p3, p4, p5, p6, p7, p8⟩ := putM_f M x
    obtain ⟨t, ht⟩ : ∃ t : Nat, (putM M x).2 = t := ⟨(putM M x).2.toNat, by omega⟩
    have e : declM M d x = declC (declB2 (declA (putM M x).1 d.kind x t) x t) d.tag x t := by unfold declM; rw [if_neg hk5]; simp only [ht]
    rw [e]
    generalize hM1 : (putM M x).1 = M1 at *
    obtain ⟨u1, u2⟩ := declAM_f M1 d.kind x t
    obtain ⟨u3, u4⟩ := declBM_f (declA M1 d.kind x t) x t
    obtain ⟨u5, u6⟩ := declCM_f (declB2 (declA M1 d.kind x t) x t) d.tag x t
    show ewp _ (.seq (.reg e40r0) (.seq e40n14 (.seq (.reg e40r15) (.seq (.reg e40r16) (.seq e40n25 (.seq e40n36 e40n45)))))) _ _
    have tail : ∀ (s : St) (ti1 gi1 : Nat), DAt s H next m ti gi vN vP vT vL d x t ti1 gi1 M1 → ewp Try.prog (.seq e40n25 (.seq e40n36 e40n45)) (HeapPost e40 fun _ H' next' => next ≤ next' ∧ (∃ ti' gi' vT', (ti' = ti ∨ next ≤ ti') ∧ (gi' = gi ∨ next ≤ gi') ∧ MkAt H' next' m ti' gi' vN vP vT' vL (declC (declB2 (declA M1 d.kind x t) x t) d.tag x t) ∧ Gr H' next' 2 ((declC (declB2 (declA M1 d.kind x t) x t) d.tag x t).types.map Non.V) vT') ∧ FrO H H' next m ti gi) s := by
      intro s ti1 gi1 hD
      refine declA_walk hD hk fun s2 h2 => declB_walk h2 (by omega) fun s3 h3 => declC_walk h3 fun s4 h4 => ?_
      refine heap0 rfl (Or.inl rfl) ⟨by have := h4.ln; omega, ⟨ti1, gi1, vT, h4.it, h4.ig, h4.at_, ?_⟩, fun j h5 h6 h7 h8 _ => h4.fr j h5 h6 h7 h8⟩
      rw [u5, u3, u1, p1]
      exact hT.stay hM (by have := h4.ln; omega) h4.fr
    generalize (EC.seq e40n25 (.seq e40n36 e40n45)) = F at tail
    repeat' with_reducible first
      | refine ewp_reg_seq ?_ | refine ewp_seq ?_ | refine ewp_skip ?_ | refine xt_n ?_ | refine ewp_condQ ?_
      | simp -implicitDefEqProofs only [wA, Nat.reduceEqDiff, ↓reduceIte, reduceCtorEq, Nat.reduceAdd, Int.cast_ofNat_Int, Int.reduceLT, Int.reduceLE, Int.reduceEq, Int.reduceToNat, decide_true, decide_false, Bool.false_eq_true, hm]
      | (refine condQ_i (fun h => ?_) (fun h => ?_) <;> have h_ := h <;> (try simp only [wD, reduceCtorEq] at h_) <;> (try (exfalso; first | omega | exact bf h_ (by assumption) | exact bt h_ (by assumption) | (refine absurd ?_ h_; focus assumption) | (refine absurd h_ ?_; focus assumption))) <;> (try simp only [h]))
      | (refine callQWc rfl rfl rfl ((putE (hM.mono (by simp only [wN]; omega) (fun j hj => by (try simp only [wM]); (repeat rw [if_neg (by omega)]))) (by omega) hx).mono ?_); rintro v1 H1 n1 ⟨q1, rfl, ⟨ti', gi', q3, q4, q5⟩, q6⟩; (try simp only [wN] at q1 q3 q4); (try simp only [wM, wN] at q6))
      | (apply ldQ_whole)
      | (apply ldQ_cell; (focus with_unfolding_all rfl))
      | (apply boxQ_i; (focus with_unfolding_all rfl); (focus with_unfolding_all rfl))
      | simp -implicitDefEqProofs (disch := omega) only [w64, if_neg]
    rw [hM1] at q5
    rw [ht]
    have hm1 := q5.hm
    repeat' with_reducible first
      | simp -implicitDefEqProofs only [wA, Nat.reduceEqDiff, ↓reduceIte, reduceCtorEq, Nat.reduceAdd, Int.cast_ofNat_Int, Int.reduceLT, Int.reduceLE, Int.reduceEq, Int.reduceToNat, decide_true, decide_false, Bool.false_eq_true, hm1]
      | (apply ia_mslQ; (focus omega); (focus (first | assumption | omega | (simp only [wZ]; omega) | trivial)))
      | (apply ldQ_cell; (focus with_unfolding_all rfl))
    have hj4 : H1 next = some (.own 4 [d.V] false) := by rw [q6 next (by omega) (by omega) (by omega) (by omega), if_neg (by omega), if_pos rfl]
    have hj5 : H1 (next + 1) = some (.own 4 [x.V] false) := by rw [q6 (next + 1) (by omega) (by omega) (by omega) (by omega), if_pos rfl]
    refine tail _ ti' gi' ⟨q5.mono (by simp only [wN]; omega) (fun j hj => by simp only [wM]), by omega, by omega, by simp -implicitDefEqProofs only [wL, Nat.reduceEqDiff, ↓reduceIte, reduceCtorEq], by simp -implicitDefEqProofs only [wL, Nat.reduceEqDiff, ↓reduceIte, reduceCtorEq], by simp -implicitDefEqProofs only [wL, Nat.reduceEqDiff, ↓reduceIte, reduceCtorEq], by simp -implicitDefEqProofs only [wL, Nat.reduceEqDiff, ↓reduceIte, reduceCtorEq], by simp -implicitDefEqProofs only [wL, Nat.reduceEqDiff, ↓reduceIte, reduceCtorEq], by simp only [wM]; exact hj4, by simp only [wM]; exact hj5, by omega, by simp only [wN]; omega, fun j h1 h2 h3 h4 => ?_⟩
    simp only [wM]
    rw [q6 j (by omega) h2 h3 h4, if_neg (by omega), if_neg (by omega)]
end Go.Proofs


set_option maxHeartbeats 4000000
namespace Go.Proofs
open Go.E

theorem ErP.shape {v : V} {z : Nat} {l : List V} (h : ErP v (.sl z false l)) : ∃ es, es.length = l.length ∧ (∀ (i : Nat) c c', es[i]? = some c → l[i]? = some c' → ErP c c') ∧ ((∃ b, v = .sl z b es) ∨ ∃ id f, v = .asl id f z es) := by
  unfold ErP at h
  cases h with
  | sl _ b cs _ hl h => exact ⟨cs, hl.symm, h, .inl ⟨b, rfl⟩⟩
  | asl id f _ cs _ hl h => exact ⟨cs, hl.symm, h, .inr ⟨id, f, rfl⟩⟩
  | msl id _ off len es ro _ hb => cases hb
theorem ErP.lenI {v : V} {z : Nat} {l : List V} (h : ErP v (.sl z false l)) : lenI v = some (.int .i64 (l.length : Int)) := by
  obtain ⟨es, h1, _, ⟨b, rfl⟩ | ⟨id, f, rfl⟩⟩ := ErP.shape h
  · rw [← h1]; rfl
  · rw [← h1]; rfl
theorem lab12 {H : Nat → Option MObj} {next m ti gi : Nat} {vN vP vT vL : V} {M : Mk} (h : MkAt H next m ti gi vN vP vT vL M) {H' : Nat → Option MObj} (hf : ∀ j, j < next → j ≠ m → j ≠ ti → j ≠ gi → H' j = H j) :
    ∀ id ob, id < next → H id = some ob → lab ob = 12 → H' id = some ob := by
  intro id ob hid ho hl
  rw [hf id hid ?_ ?_ ?_]
  · exact ho
  · intro e; rw [e, h.hm] at ho; cases ho; cases hl
  · intro e; rw [e, h.ht] at ho; cases ho
    rw [labT (by have := h.len3; omega)] at hl; cases hl
  · intro e; rw [e, h.hg] at ho; cases ho
    cases hgv : M.given with
    | nil => rw [hgv] at hl; cases hl
    | cons a r => rw [hgv] at hl; cases hl
theorem callQV {P : Program} [Glob P] {z id : Nat} {s : St} {K : V → St → Prop} {f : FuncId} {vs : List V} {H : Nat → Option MObj} {N : Nat} (hH : s.H = H) (hN : s.next = N)
    (h : ECalls P f vs H N fun v H' next' => (∀ id ob, id < N → H id = some ob → lab ob = z → H' id = some ob) ∧ K v { s with H := H', next := next' }) : callQ P (.v z) id s K f vs := by
  subst hN hH
  refine Or.inr ⟨rfl, ?_⟩
  rw [List.append_nil]
  exact h

@[reducible] def prC (p : GPr) (vR : V) : V := .agg [vi p.left, vR, vi p.prec, .str p.code, .sl 1 true [], vi p.at_]
/-- The state of an alternative. -/
structure AAt (s : St) (H : Nat → Option MObj) (next m ti gi pb : Nat) (vN vP vT vL vR : V) (ps : List V) (a : Alt) (ti1 gi1 : Nat) (M : Mk) (p : GPr) : Prop where
  at_ : MkAt s.H s.next m ti1 gi1 vN vP vT vL M
  it : ti1 = ti ∨ next ≤ ti1
  ig : gi1 = gi ∨ next ≤ gi1
  f0 : s.f 0 = .ptr m 0 0
  f5 : s.f 5 = .ptr next 0 0
  f6 : s.f 6 = .ptr pb 0 0
  h5 : s.H next = some (.own 6 [a.V] false)
  h6 : s.H pb = some (.own 6 [prC p vR] false)
  gR : Gr s.H s.next 1 (p.right.map (V.int .i64)) vR
  gP : Gr s.H s.next 6 ps vP
  eP : ErPL ps (M.prods.map GPr.V)
  sp : Sep vR vP
  ln : next < pb
  lp : pb < s.next
  fr : ∀ j, j < next → j ≠ m → j ≠ ti → j ≠ gi → (∀ f, H j ≠ some (.tok f)) → s.H j = H j
theorem AAt.ap {s : St} {H : Nat → Option MObj} {next m ti gi pb : Nat} {vN vP vT vL vR : V} {ps : List V} {a : Alt} {ti1 gi1 : Nat} {M : Mk} {p : GPr} (h : AAt s H next m ti gi pb vN vP vT vL vR ps a ti1 gi1 M p) (j : Nat) (e : V) (hj : s.H j = some (.own 6 [e] false)) :
    j ≠ m ∧ j ≠ ti1 ∧ j ≠ gi1 ∧ gid vR ≠ some j ∧ gid vP ≠ some j := by
  refine ⟨fun q => ?_, fun q => ?_, fun q => ?_, h.gR.ne fun f q => ?_, h.gP.ne fun f q => ?_⟩
  · rw [q, h.at_.hm] at hj; cases hj
  · rw [q, h.at_.ht] at hj
    have := h.at_.len3
    injection hj with hj; injection hj with _ hj
    have := congrArg List.length hj
    simp at this; omega
  · rw [q, h.at_.hg] at hj; cases hj
  · rw [hj] at q; cases q
  · rw [hj] at q; cases q
theorem AAt.upd {s s' : St} {H : Nat → Option MObj} {next m ti gi pb : Nat} {vN vP vT vL vR vP' vR' : V} {ps ps' : List V} {a : Alt} {ti1 gi1 ti2 gi2 : Nat} {M M' : Mk} {p p' : GPr} (h : AAt s H next m ti gi pb vN vP vT vL vR ps a ti1 gi1 M p)
    (hA : MkAt s'.H s'.next m ti2 gi2 vN vP' vT vL M') (it : ti2 = ti1 ∨ s.next ≤ ti2) (ig : gi2 = gi1 ∨ s.next ≤ gi2) (h0 : s'.f 0 = s.f 0) (h5 : s'.f 5 = s.f 5) (h6 : s'.f 6 = s.f 6) (hn : s.next ≤ s'.next)
    (h6o : s'.H pb = some (.own 6 [prC p' vR'] false)) (gR : Gr s'.H s'.next 1 (p'.right.map (V.int .i64)) vR') (gP : Gr s'.H s'.next 6 ps' vP') (eP : ErPL ps' (M'.prods.map GPr.V)) (sp : Sep vR' vP')
    (hH : ∀ j, j < s.next → j ≠ m → j ≠ ti1 → j ≠ gi1 → j ≠ pb → gid vR ≠ some j → gid vP ≠ some j → s'.H j = s.H j) : AAt s' H next m ti gi pb vN vP' vT vL vR' ps' a ti2 gi2 M' p' := by
  have ln := h.ln; have lp := h.lp
  obtain ⟨a1, a2, a3, a4, a5⟩ := h.ap next _ h.h5
  have it0 := h.it; have ig0 := h.ig
  refine ⟨hA, by omega, by omega, h0.trans h.f0, h5.trans h.f5, h6.trans h.f6, ?_, h6o, gR, gP, eP, sp, ln, by omega, fun j hj c1 c2 c3 c4 => ?_⟩
  · rw [hH next (by omega) a1 a2 a3 (by omega) a4 a5]; exact h.h5
  · have e := h.fr j hj c1 c2 c3 c4
    rw [hH j (by omega) c1 (by omega) (by omega) (by omega) (h.gR.ne fun f q => c4 f (by rw [← e]; exact q)) (h.gP.ne fun f q => c4 f (by rw [← e]; exact q))]
    exact e

theorem MkAt.mono3 {H H' : Nat → Option MObj} {next n' m ti gi : Nat} {vN vP vT vL : V} {M : Mk} (h : MkAt H next m ti gi vN vP vT vL M) (hn : next ≤ n') (hm : H' m = H m) (ht : H' ti = H ti) (hg : H' gi = H gi) : MkAt H' n' m ti gi vN vP vT vL M := by
  have := h.lm; have := h.lt; have := h.lg
  exact ⟨by rw [hm]; exact h.hm, by rw [ht]; exact h.ht, by rw [hg]; exact h.hg, h.eN, h.eP, h.eT, h.eL, by omega, by omega, by omega, h.len, h.len3⟩

theorem symM_f (M : Mk) (x : Sym) : (symM M x).1.types = M.types ∧ (symM M x).1.lefts = M.lefts ∧ (symM M x).1.prods = M.prods ∧ (symM M x).1.nons = M.nons ∧ (symM M x).1.level = M.level ∧ (symM M x).1.inner = M.inner ∧ M.toks.length ≤ (symM M x).1.toks.length ∧ (symM M x).1.toks.length ≤ M.toks.length + 1 := by
  obtain ⟨ff1, ff2, ff3, ff4, ff5, ff6, ff7, ff8⟩ := failM_f M x.at_ x.name
  unfold symM; split
  · exact putM_f M x
  · split
    · exact ⟨rfl, rfl, rfl, rfl, rfl, rfl, Nat.le_refl _, by dsimp only; omega⟩
    · split
      · dsimp only
        exact ⟨ff4, ff3, ff5, ff6, ff7, ff8, by rw [ff1]; omega, by rw [ff1]; omega⟩
      · exact ⟨rfl, rfl, rfl, rfl, rfl, rfl, Nat.le_refl _, by dsimp only; omega⟩

theorem symStep {s : St} {H : Nat → Option MObj} {next m ti gi pb wb : Nat} {vN vP vT vL vR : V} {ps : List V} {a : Alt} {ti1 gi1 : Nat} {M : Mk} {p : GPr} {w : Part} {Q : Exit → St → Prop} (h : AAt s H next m ti gi pb vN vP vT vL vR ps a ti1 gi1 M p)
    (f8 : s.f 8 = .ptr wb 0 0) (hw : s.H wb = some (.own 6 [w.V] false)) (hb : M.toks.length ≤ 1099511627776) (hbl : M.lefts.length ≤ 1099511627776) (hbr : p.right.length ≤ 549755813888) (hx : w.sym.lit = true → w.sym.name ≠ [])
    (hQ : ∀ s' ti2 gi2 vR', s'.f 7 = s.f 7 → s.next ≤ s'.next → AAt s' H next m ti gi pb vN vP vT vL vR' ps a ti2 gi2 (symM M w.sym).1 { p with right := p.right ++ [(symM M w.sym).2] } → Q .normal s') : ewp Try.prog (.reg e44r8) Q s := by
  have hM := h.at_
  have f0 := h.f0; have f6 := h.f6; have h6 := h.h6; have lp := h.lp
  have lm := hM.lm; have lt := hM.lt; have lg := hM.lg
  obtain ⟨b1, b2, b3, b4, b5⟩ := h.ap pb _ h6
  repeat' with_reducible first
    | refine ewp_reg ?_
    | simp -implicitDefEqProofs only [wA, Nat.reduceEqDiff, ↓reduceIte, reduceCtorEq, Nat.reduceAdd, Int.cast_ofNat_Int, Int.reduceLT, Int.reduceLE, Int.reduceEq, Int.reduceToNat, decide_true, decide_false, Bool.false_eq_true, f0, f6, f8, h6, hw]
    | (refine And.intro ?_ ?_; (focus (first | with_unfolding_all rfl | exact congrArg some (labT (by first | omega | (simp only [List.length_set]; omega))))))
    | (refine callQV rfl rfl ((symE (hM.mono (by simp only [wN]; omega) (fun j hj => by simp only [wM])) hb hbl hx).mono ?_); rintro v1 H1 n1 ⟨q1, rfl, ⟨ti', gi', q3, q4, q5⟩, q6⟩; refine ⟨lab12 (hM.mono (by simp only [wN]; omega) (fun j hj => by simp only [wM])) q6, ?_⟩; (try simp only [wN] at q1 q3 q4); (try simp only [wM, wN] at q6))
    | (apply ldQ_sub; (focus with_unfolding_all rfl); (focus with_unfolding_all rfl); (focus ((try simp -implicitDefEqProofs only [wE, Nat.reduceAdd]); rfl)))
    | (apply ldQ_cell; (focus with_unfolding_all rfl))
  have hG1 : Gr H1 n1 1 (p.right.map (V.int .i64)) vR := h.gR.stay hM (by omega) (fun j h1 h2 h3 h4 => q6 j (by omega) h2 h3 h4)
  have hP1 : Gr H1 n1 6 ps vP := h.gP.stay hM (by omega) (fun j h1 h2 h3 h4 => q6 j (by omega) h2 h3 h4)
  have h61 : H1 pb = some (.own 6 [prC p vR] false) := by rw [q6 pb (by omega) b1 b2 b3]; exact h6
  obtain ⟨y1, y2, y3, y4, y5, y6, y7, y8⟩ := symM_f M w.sym
  obtain ⟨c1, c2, c3⟩ := q5.nt
  repeat' with_reducible first
    | simp -implicitDefEqProofs only [wA, Nat.reduceEqDiff, ↓reduceIte, reduceCtorEq, Nat.reduceAdd, Int.cast_ofNat_Int, Int.reduceLT, Int.reduceLE, Int.reduceEq, Int.reduceToNat, decide_true, decide_false, Bool.false_eq_true, f6, h61, dropG_ne b4]
    | (apply appQ_G rfl (hG1.mono (Nat.le_refl _) (fun id h1 h2 => by (try simp only [wM]); (repeat rw [if_neg (by omega)]))); (focus (first | exact SrcN.sl | exact SrcN.asl)); (focus (simp only [wZ]; omega)); (focus (unfold maxLen; simp only [wZ]; omega)))
    | (apply stQ_cell; (focus with_unfolding_all rfl); (focus with_unfolding_all rfl); (focus with_unfolding_all rfl); (focus (first | assumption | omega | (simp only [wZ]; omega) | trivial)))
    | simp -implicitDefEqProofs (disch := omega) only [w64, if_neg]
  refine hQ _ ti' gi' (.asl (s.next + 7) (p.right.length + 1) 1 ((p.right ++ [(symM M w.sym).2]).map (V.int .i64))) (by simp -implicitDefEqProofs only [wL, Nat.reduceEqDiff, ↓reduceIte, reduceCtorEq]) (by simp only [wN]; omega) (h.upd (q5.mono3 (by simp only [wN]; omega) ?_ ?_ ?_) (by omega) (by omega) (by simp -implicitDefEqProofs only [wL, Nat.reduceEqDiff, ↓reduceIte, reduceCtorEq]) (by simp -implicitDefEqProofs only [wL, Nat.reduceEqDiff, ↓reduceIte, reduceCtorEq]) (by simp -implicitDefEqProofs only [wL, Nat.reduceEqDiff, ↓reduceIte, reduceCtorEq]) (by simp only [wN]; omega) ?_ (Gr.tok ?_ (by simp only [wN]; omega)) (hP1.mono (by simp only [wN]; omega) (fun id g1 g2 => ?_)) (by rw [y3]; exact h.eP) (Sep.newL h.gP (by omega)) (fun j g1 g2 g3 g4 g5 g6 g7 => ?_))
  · simp only [wM]
    repeat first | rw [if_pos trivial] | rw [if_pos rfl] | rw [if_neg (by omega)]
    exact dropG_ne (hG1.ne c1)
  · simp only [wM]
    repeat first | rw [if_pos trivial] | rw [if_pos rfl] | rw [if_neg (by omega)]
    exact dropG_ne (hG1.ne c2)
  · simp only [wM]
    repeat first | rw [if_pos trivial] | rw [if_pos rfl] | rw [if_neg (by omega)]
    exact dropG_ne (hG1.ne c3)
  · simp only [wM]
    repeat first | rw [if_pos trivial] | rw [if_pos rfl] | rw [if_neg (by omega)]
    try simp
  · simp only [wM]
    repeat first | rw [if_pos trivial] | rw [if_pos rfl] | rw [if_neg (by omega)]
  · have g3 := h.gP.lt g1
    have g4 : id ≠ pb := fun e => b5 (by rw [← e]; exact g1)
    simp only [wM]
    repeat first | rw [if_pos trivial] | rw [if_pos rfl] | rw [if_neg (by omega)]
    exact dropG_ne (fun e => h.sp id e g1)
  · simp only [wM]
    repeat first | rw [if_pos trivial] | rw [if_pos rfl] | rw [if_neg (by omega)]
    rw [dropG_ne g6]
    exact q6 j (by omega) g2 g3 g4

theorem codeStep {s : St} {H : Nat → Option MObj} {next m ti gi pb wb : Nat} {vN vP vT vL vR : V} {ps : List V} {a : Alt} {ti1 gi1 : Nat} {M : Mk} {p : GPr} {w : Part} {Q : Exit → St → Prop} (h : AAt s H next m ti gi pb vN vP vT vL vR ps a ti1 gi1 M p)
    (f8 : s.f 8 = .ptr wb 0 0) (hw : s.H wb = some (.own 6 [w.V] false))
    (hQ : ∀ s', s'.f 7 = s.f 7 → s.next ≤ s'.next → AAt s' H next m ti gi pb vN vP vT vL vR ps a ti1 gi1 M { p with code := w.code, at_ := w.at_ } → Q .normal s') : ewp Try.prog (.reg e44r10) Q s := by
  have hM := h.at_
  have f0 := h.f0; have f6 := h.f6; have h6 := h.h6; have lp := h.lp
  have lm := hM.lm; have lt := hM.lt; have lg := hM.lg
  obtain ⟨b1, b2, b3, b4, b5⟩ := h.ap pb _ h6
  repeat' with_reducible first
    | refine ewp_reg ?_
    | simp -implicitDefEqProofs only [wA, Nat.reduceEqDiff, ↓reduceIte, reduceCtorEq, Nat.reduceAdd, Int.cast_ofNat_Int, Int.reduceLT, Int.reduceLE, Int.reduceEq, Int.reduceToNat, decide_true, decide_false, Bool.false_eq_true, f0, f6, f8, h6, hw]
    | (refine And.intro ?_ ?_; (focus (first | with_unfolding_all rfl | exact congrArg some (labT (by first | omega | (simp only [List.length_set]; omega))))))
    | (apply ldQ_cell; (focus with_unfolding_all rfl))
    | (apply stQ_cell; (focus with_unfolding_all rfl); (focus with_unfolding_all rfl); (focus with_unfolding_all rfl); (focus (first | assumption | omega | (simp only [wZ]; omega) | trivial)))
  refine hQ _ (by simp -implicitDefEqProofs only [wL, Nat.reduceEqDiff, ↓reduceIte, reduceCtorEq]) (by simp only [wN]; omega) (h.upd (hM.mono3 (by simp only [wN]; omega) ?_ ?_ ?_) (Or.inl rfl) (Or.inl rfl) (by simp -implicitDefEqProofs only [wL, Nat.reduceEqDiff, ↓reduceIte, reduceCtorEq]) (by simp -implicitDefEqProofs only [wL, Nat.reduceEqDiff, ↓reduceIte, reduceCtorEq]) (by simp -implicitDefEqProofs only [wL, Nat.reduceEqDiff, ↓reduceIte, reduceCtorEq]) (by simp only [wN]; omega) ?_ (h.gR.mono (by simp only [wN]; omega) (fun id g1 g2 => ?_)) (h.gP.mono (by simp only [wN]; omega) (fun id g1 g2 => ?_)) h.eP h.sp (fun j g1 g2 g3 g4 g5 g6 g7 => ?_))
  · simp only [wM]
    repeat first | rw [if_pos trivial] | rw [if_pos rfl] | rw [if_neg (by omega)]
  · simp only [wM]
    repeat first | rw [if_pos trivial] | rw [if_pos rfl] | rw [if_neg (by omega)]
  · simp only [wM]
    repeat first | rw [if_pos trivial] | rw [if_pos rfl] | rw [if_neg (by omega)]
  · simp only [wM]
    repeat first | rw [if_pos trivial] | rw [if_pos rfl] | rw [if_neg (by omega)]
  · have g4 : id ≠ pb := fun e => b4 (by rw [← e]; exact g1)
    simp only [wM]
    repeat first | rw [if_pos trivial] | rw [if_pos rfl] | rw [if_neg (by omega)]
  · have g4 : id ≠ pb := fun e => b5 (by rw [← e]; exact g1)
    simp only [wM]
    repeat first | rw [if_pos trivial] | rw [if_pos rfl] | rw [if_neg (by omega)]
  · simp only [wM]
    repeat first | rw [if_pos trivial] | rw [if_pos rfl] | rw [if_neg (by omega)]

theorem innerStep {s : St} {H : Nat → Option MObj} {next m ti gi pb wb : Nat} {vN vP vT vL vR : V} {ps : List V} {a : Alt} {ti1 gi1 : Nat} {M : Mk} {p : GPr} {w : Part} {Q : Exit → St → Prop} (h : AAt s H next m ti gi pb vN vP vT vL vR ps a ti1 gi1 M p)
    (f8 : s.f 8 = .ptr wb 0 0) (hw : s.H wb = some (.own 6 [w.V] false)) (lw : wb < s.next) (hbl : M.lefts.length ≤ 1099511627776) (hbr : p.right.length ≤ 549755813888) (hbp : ps.length ≤ 549755813888) (hi : 0 ≤ M.inner) (hi2 : M.inner ≤ 1099511627776)
    (hQ : ∀ s' vP' vR' ps', s'.f 7 = s.f 7 → s.next ≤ s'.next → ps'.length = ps.length + 1 → AAt s' H next m ti gi pb vN vP' vT vL vR' ps' a ti1 gi1 { M with inner := M.inner + 1, prods := M.prods ++ [{ left := M.lefts.length + (M.inner + 1), prec := -1, code := w.code, args := p.right, at_ := w.at_ }] } { p with right := p.right ++ [1000 + M.lefts.length + (M.inner + 1)] } → Q .normal s') : ewp Try.prog e44n15 Q s := by
  have hM := h.at_
  have f0 := h.f0; have f6 := h.f6; have h6 := h.h6; have lp := h.lp; have hm := hM.hm
  have lm := hM.lm; have lt := hM.lt; have lg := hM.lg
  obtain ⟨n1, n2, n3⟩ := hM.mt
  obtain ⟨b1, b2, b3, b4, b5⟩ := h.ap pb _ h6
  have hLl : lenI vL = some (.int .i64 (M.lefts.length : Int)) := by have := ErP.lenI hM.eL; rwa [List.length_map] at this
  have hz1 : IntKind.i64.wrap (M.inner + 1) = M.inner + 1 := wrap64 (by omega) (by omega)
  have hz2 : IntKind.i64.wrap ((M.lefts.length : Int) + (M.inner + 1)) = M.lefts.length + (M.inner + 1) := wrap64 (by omega) (by omega)
  have hz3 : IntKind.i64.wrap (1000 + (M.lefts.length : Int)) = 1000 + M.lefts.length := wrap64 (by omega) (by omega)
  have hz4 : IntKind.i64.wrap (1000 + (M.lefts.length : Int) + (M.inner + 1)) = 1000 + M.lefts.length + (M.inner + 1) := wrap64 (by omega) (by omega)
  obtain ⟨c1, c2, c3⟩ := hM.nt
  obtain ⟨w1, w2, w3, w4, w5⟩ := h.ap wb _ hw
  have w6 : wb ≠ pb := fun e => by
    rw [e, h6] at hw
    injection hw with hw; injection hw with _ hw
    simp at hw
  have d4 := h.gR.ne c1
  have d5 := h.gP.ne c1
  have hneP : ∀ id, gid vP = some id → id ≠ m := fun id h1 e => d5 (by rw [← e]; exact h1)
  have hneR : ∀ id, gid vR = some id → id ≠ m := fun id h1 e => d4 (by rw [← e]; exact h1)
  have hsp : ∀ id, gid vR = some id → gid vP ≠ some id := fun id h1 e => h.sp id h1 e
  repeat' with_reducible first
    | refine ewp_reg_seq ?_ | refine ewp_reg ?_
    | simp -implicitDefEqProofs only [wA, Nat.reduceEqDiff, ↓reduceIte, reduceCtorEq, Nat.reduceAdd, Int.cast_ofNat_Int, Int.reduceLT, Int.reduceLE, Int.reduceEq, Int.reduceToNat, decide_true, decide_false, Bool.false_eq_true, f0, f6, f8, h6, hw, hm, hLl, hz1, hz2, hz3, hz4, dropG_ne b4, dropG_ne b5, dropG_ne d4, dropG_ne d5, dropG_ne w5]
    | (apply appQ_C (SrcN.gr h.gR); (focus (simp only [wZ]; omega)); (focus (unfold maxLen; simp only [wZ]; omega)))
    | (apply appQ_G rfl (h.gP.mono (Nat.le_refl _) (fun id h1 h2 => by have hne := hneP id h1; (try simp only [wM]); (repeat rw [if_neg (by omega)]))); (focus exact SrcN.sl); (focus (simp only [wZ]; omega)); (focus (unfold maxLen; simp only [wZ]; omega)))
    | (apply appQ_G rfl (h.gR.mono (Nat.le_refl _) (fun id h1 h2 => by have hne := hneR id h1; (try simp only [wM]); (repeat rw [if_neg (by omega)]); rw [dropG_ne (hsp id h1)]; simp only [wM]; (repeat rw [if_neg (by omega)]))); (focus exact SrcN.sl); (focus (simp only [wZ]; omega)); (focus (unfold maxLen; simp only [wZ]; omega)))
    | (apply fil_part; (focus with_unfolding_all rfl); (focus with_unfolding_all rfl); (focus with_unfolding_all rfl); (focus ((try simp -implicitDefEqProofs only [wY]); rfl)))
    | (apply bld_nil)
    | (apply bld_part; (focus with_unfolding_all rfl); (focus with_unfolding_all rfl); (focus with_unfolding_all rfl); (focus ((try simp -implicitDefEqProofs only [wE, Nat.reduceAdd]); rfl)))
    | (apply ldQ_cell; (focus with_unfolding_all rfl))
    | (apply stQ_cell; (focus with_unfolding_all rfl); (focus with_unfolding_all rfl); (focus with_unfolding_all rfl); (focus (first | assumption | omega | (simp only [wZ]; omega) | trivial)))
    | simp -implicitDefEqProofs (disch := omega) only [w64, if_neg]
  have hv : Er false (fun _ => none) (.agg [vi (M.lefts.length + (M.inner + 1)), .sl 1 true [], vi (-1), .str w.code, .asl (s.next + 8 + 21) p.right.length 1 (p.right.map (V.int .i64)), vi w.at_]) (GPr.V { left := M.lefts.length + (M.inner + 1), prec := -1, code := w.code, args := p.right, at_ := w.at_ }) :=
    ErL.agg (.cons (.int _ _) (.cons (ErL.sl .nil) (.cons (.int _ _) (.cons (.str _) (.cons er_asl (.cons (.int _ _) .nil))))))
  have heP : ErPL (ps ++ [(.agg [vi (M.lefts.length + (M.inner + 1)), .sl 1 true [], vi (-1), .str w.code, .asl (s.next + 8 + 21) p.right.length 1 (p.right.map (V.int .i64)), vi w.at_])]) ((M.prods ++ [({ left := M.lefts.length + (M.inner + 1), prec := -1, code := w.code, args := p.right, at_ := w.at_ } : GPr)]).map GPr.V) := by
    rw [List.map_append]; exact h.eP.snoc hv
  have e2 := h.gP.ne c2; have e3 := h.gP.ne c3
  have e2r := h.gR.ne c2; have e3r := h.gR.ne c3
  refine hQ _ (.asl (s.next + 8 + 26) (ps.length + 1) 6 (ps ++ [(.agg [vi (M.lefts.length + (M.inner + 1)), .sl 1 true [], vi (-1), .str w.code, .asl (s.next + 8 + 21) p.right.length 1 (p.right.map (V.int .i64)), vi w.at_])])) (.asl (s.next + 8 + 31 + 14) (p.right.length + 1) 1 ((p.right ++ [1000 + (M.lefts.length : Int) + (M.inner + 1)]).map (V.int .i64))) (ps ++ [(.agg [vi (M.lefts.length + (M.inner + 1)), .sl 1 true [], vi (-1), .str w.code, .asl (s.next + 8 + 21) p.right.length 1 (p.right.map (V.int .i64)), vi w.at_])]) (by simp -implicitDefEqProofs only [wL, Nat.reduceEqDiff, ↓reduceIte, reduceCtorEq]) (by simp only [wN]; omega) (by simp)
    (h.upd ⟨?_, ?_, ?_, hM.eN, ErL.asl heP, hM.eT, hM.eL, by simp only [wN]; omega, by simp only [wN]; omega, by simp only [wN]; omega, hM.len, hM.len3⟩ (Or.inl rfl) (Or.inl rfl) (by simp -implicitDefEqProofs only [wL, Nat.reduceEqDiff, ↓reduceIte, reduceCtorEq]) (by simp -implicitDefEqProofs only [wL, Nat.reduceEqDiff, ↓reduceIte, reduceCtorEq]) (by simp -implicitDefEqProofs only [wL, Nat.reduceEqDiff, ↓reduceIte, reduceCtorEq]) (by simp only [wN]; omega) ?_ (Gr.tok ?_ (by simp only [wN]; omega)) (Gr.tok ?_ (by simp only [wN]; omega)) heP (Sep.ids (by omega)) (fun j g1 g2 g3 g4 g5 g6 g7 => ?_))
  · simp only [wM]
    repeat first | rw [if_pos trivial] | rw [if_pos rfl] | rw [if_neg (by omega)] | simp only [wM] | rw [dropG_ne d4] | rw [dropG_ne d5]
  · simp only [wM]
    repeat first | rw [if_pos trivial] | rw [if_pos rfl] | rw [if_neg (by omega)] | simp only [wM] | rw [dropG_ne e2] | rw [dropG_ne e2r]
    exact hM.ht
  · simp only [wM]
    repeat first | rw [if_pos trivial] | rw [if_pos rfl] | rw [if_neg (by omega)] | simp only [wM] | rw [dropG_ne e3] | rw [dropG_ne e3r]
    exact hM.hg
  · simp only [wM]
    repeat first | rw [if_pos trivial] | rw [if_pos rfl] | rw [if_neg (by omega)]
    try simp
  · simp only [wM]
    repeat first | rw [if_pos trivial] | rw [if_pos rfl] | rw [if_neg (by omega)]
  · have l1 : gid vR ≠ some (s.next + 8 + 26) := fun e => by have := h.gR.lt e; omega
    simp only [wM]
    repeat first | rw [if_pos trivial] | rw [if_pos rfl] | rw [if_neg (by omega)] | simp only [wM] | rw [dropG_ne l1]
  · simp only [wM]
    repeat first | rw [if_pos trivial] | rw [if_pos rfl] | rw [if_neg (by omega)] | simp only [wM] | rw [dropG_ne g6] | rw [dropG_ne g7]
end Go.Proofs


set_option maxHeartbeats 4000000
namespace Go.Proofs
open Go.E

theorem AAt.mono {s s' : St} {H : Nat → Option MObj} {next m ti gi pb : Nat} {vN vP vT vL vR : V} {ps : List V} {a : Alt} {ti1 gi1 : Nat} {M : Mk} {p : GPr} (h : AAt s H next m ti gi pb vN vP vT vL vR ps a ti1 gi1 M p)
    (h0 : s'.f 0 = s.f 0) (h5 : s'.f 5 = s.f 5) (h6 : s'.f 6 = s.f 6) (hn : s.next ≤ s'.next) (hH : ∀ j, j < s.next → s'.H j = s.H j) : AAt s' H next m ti gi pb vN vP vT vL vR ps a ti1 gi1 M p :=
  h.upd (h.at_.mono hn hH) (Or.inl rfl) (Or.inl rfl) h0 h5 h6 hn (by rw [hH pb h.lp]; exact h.h6) (h.gR.mono hn fun id _ g => hH id g) (h.gP.mono hn fun id _ g => hH id g) h.eP h.sp fun j g _ _ _ _ _ _ => hH j g

theorem altGo_nil (q : Mk × GPr) : altGo [] q = q := rfl
theorem altGo_cons (w : Part) (r : List Part) (M : Mk) (p : GPr) : altGo (w :: r) (M, p) = if w.code = [] then altGo r ((symM M w.sym).1, { p with right := p.right ++ [(symM M w.sym).2] })
    else if r = [] then (M, { p with code := w.code, at_ := w.at_ })
    else altGo r ({ M with inner := M.inner + 1, prods := M.prods ++ [{ left := M.lefts.length + (M.inner + 1), prec := -1, code := w.code, args := p.right, at_ := w.at_ }] },
      { p with right := p.right ++ [1000 + M.lefts.length + (M.inner + 1)] }) := by rw [altGo]

theorem partsWalk {s0 : St} {H : Nat → Option MObj} {next m ti gi pb : Nat} {vN vP vT vL vR : V} {ps : List V} {a : Alt} {ti1 gi1 : Nat} {M : Mk} {p : GPr} {E : EC} {Q : Exit → St → Prop} (h : AAt s0 H next m ti gi pb vN vP vT vL vR ps a ti1 gi1 M p)
    (b1 : M.toks.length + a.parts.length ≤ 549755813888) (b2 : M.lefts.length ≤ 549755813888) (b3 : p.right.length + a.parts.length ≤ 274877906944) (b4 : ps.length + a.parts.length ≤ 274877906944) (b5 : 0 ≤ M.inner) (b6 : M.inner + a.parts.length ≤ 549755813888)
    (hx : ∀ w ∈ a.parts, w.sym.lit = true → w.sym.name ≠ [])
    (hQ : ∀ s' vP' vR' ps' ti2 gi2, AAt s' H next m ti gi pb vN vP' vT vL vR' ps' a ti2 gi2 (altGo a.parts (M, p)).1 (altGo a.parts (M, p)).2 → ps'.length ≤ ps.length + a.parts.length → ewp Try.prog E Q s') : ewp Try.prog (.seq e44n28 E) Q s0 := by
  generalize hR : altGo a.parts (M, p) = R at hQ
  have f0 := h.f0; have f5 := h.f5; have f6 := h.f6
  repeat' with_reducible first
    | refine ewp_reg_seq ?_ | refine ewp_seq ?_ | refine ewp_block ?_
    | simp -implicitDefEqProofs only [wA, Nat.reduceEqDiff, ↓reduceIte, reduceCtorEq, Nat.reduceAdd, Int.cast_ofNat_Int, Int.reduceLT, Int.reduceLE, Int.reduceEq, Int.reduceToNat, decide_true, decide_false, Bool.false_eq_true, f0, f5, f6]
  refine ewp_loopN ?nx1 (fun (k : Nat) s => s.f 0 = ?v1_0 ∧ s.f 5 = ?v1_5 ∧ s.f 6 = ?v1_6 ∧ s.f 7 = vi k ∧ (k ≤ a.parts.length) ∧ ((∃ vP vR ps1 ti1 gi1 M1 p1, AAt s H next m ti gi pb vN vP vT vL vR ps1 a ti1 gi1 M1 p1 ∧ altGo (a.parts.drop k) (M1, p1) = R ∧ M1.toks.length ≤ M.toks.length + k ∧ M1.lefts.length = M.lefts.length ∧ p1.right.length ≤ p.right.length + k ∧ ps1.length ≤ ps.length + k ∧ 0 ≤ M1.inner ∧ M1.inner ≤ M.inner + k))) (fun k => a.parts.length - k) (0) (by simp -implicitDefEqProofs only [wN, Nat.reduceAdd, Nat.zero_add]; exact Nat.le_refl _) (by refine ⟨?_, ?_, ?_, ?_, (by first | omega | (simp; done) | assumption), (by exact ⟨vP, vR, ps, ti1, gi1, M, p, h.mono (by simp -implicitDefEqProofs only [wL, Nat.reduceEqDiff, ↓reduceIte, reduceCtorEq]) (by simp -implicitDefEqProofs only [wL, Nat.reduceEqDiff, ↓reduceIte, reduceCtorEq]) (by simp -implicitDefEqProofs only [wL, Nat.reduceEqDiff, ↓reduceIte, reduceCtorEq]) (by simp only [wN]; omega) (fun j hj => by simp only [wM]), hR, by omega, rfl, by omega, by omega, b5, by omega⟩)⟩ <;> first | (simp -implicitDefEqProofs only [wL, wM, wN, wX, Nat.reduceEqDiff, ↓reduceIte, reduceCtorEq, Nat.reduceAdd, Option.some.injEq] <;> first | rfl | exact ⟨_, rfl⟩ | exact ⟨_, rfl, by first | assumption | exact Gr.nil | exact Gr.tok rfl (by omega) | exact Gr.tok (by simp -implicitDefEqProofs only [wM, Nat.reduceEqDiff, ↓reduceIte, reduceCtorEq] <;> rfl) (by omega) | exact Gr.clip⟩) | rfl | exact ⟨_, rfl⟩) ?_
  intro k s hnx ⟨g0, g5, g6, g7, k1_0, k1_1⟩
  obtain ⟨vP, vR, ps1, ti1, gi1, M1, p1, hA1, hal, t1, t2, t3, t4, t5, t6⟩ := k1_1
  have g0 := hA1.f0; have g5 := hA1.f5; have g6 := hA1.f6; have o5 := hA1.h5; have lp := hA1.lp; have ln := hA1.ln
  by_cases hk : k < a.parts.length
  · have hd : a.parts.drop k = a.parts[k] :: a.parts.drop (k + 1) := List.drop_eq_getElem_cons hk
    have hxk := hx a.parts[k] (List.getElem_mem hk)
    rw [hd, altGo_cons] at hal
    have hwf : ∃ wb, wb = s.next + 5 + 5 := ⟨_, rfl⟩
    show ewp _ (.seq e44n5 (.seq (.block 1 (.seq (.reg e44r6) (.block 2 (.seq (.reg e44r7) (.cond (.t 82) (.reg e44r8) (.seq (.reg e44r9) (.cond (.t 95) (.reg e44r10) e44n15))))))) (.reg e44r23))) _ _
    have T8 : ∀ (s' : St) (Q : Exit → St → Prop) (wb : Nat), AAt s' H next m ti gi pb vN vP vT vL vR ps1 a ti1 gi1 M1 p1 → s'.f 8 = .ptr wb 0 0 → s'.H wb = some (.own 6 [a.parts[k].V] false) → (∀ s2 ti2 gi2 vR', s2.f 7 = s'.f 7 → s'.next ≤ s2.next → AAt s2 H next m ti gi pb vN vP vT vL vR' ps1 a ti2 gi2 (symM M1 a.parts[k].sym).1 { p1 with right := p1.right ++ [(symM M1 a.parts[k].sym).2] } → Q .normal s2) → ewp Try.prog (.reg e44r8) Q s' :=
      fun s' Q wb q1 q2 q3 q4 => symStep q1 q2 q3 (by omega) (by omega) (by omega) hxk q4
    have T10 : ∀ (s' : St) (Q : Exit → St → Prop) (wb : Nat), AAt s' H next m ti gi pb vN vP vT vL vR ps1 a ti1 gi1 M1 p1 → s'.f 8 = .ptr wb 0 0 → s'.H wb = some (.own 6 [a.parts[k].V] false) → (∀ s2, s2.f 7 = s'.f 7 → s'.next ≤ s2.next → AAt s2 H next m ti gi pb vN vP vT vL vR ps1 a ti1 gi1 M1 { p1 with code := a.parts[k].code, at_ := a.parts[k].at_ } → Q .normal s2) → ewp Try.prog (.reg e44r10) Q s' :=
      fun s' Q wb q1 q2 q3 q4 => codeStep q1 q2 q3 q4
    have T15 : ∀ (s' : St) (Q : Exit → St → Prop) (wb : Nat), AAt s' H next m ti gi pb vN vP vT vL vR ps1 a ti1 gi1 M1 p1 → s'.f 8 = .ptr wb 0 0 → s'.H wb = some (.own 6 [a.parts[k].V] false) → wb < s'.next → (∀ s2 vP' vR' ps', s2.f 7 = s'.f 7 → s'.next ≤ s2.next → ps'.length = ps1.length + 1 → AAt s2 H next m ti gi pb vN vP' vT vL vR' ps' a ti1 gi1 { M1 with inner := M1.inner + 1, prods := M1.prods ++ [{ left := M1.lefts.length + (M1.inner + 1), prec := -1, code := a.parts[k].code, args := p1.right, at_ := a.parts[k].at_ }] } { p1 with right := p1.right ++ [1000 + M1.lefts.length + (M1.inner + 1)] } → Q .normal s2) → ewp Try.prog e44n15 Q s' :=
      fun s' Q wb q1 q2 q3 q5 q4 => innerStep q1 q2 q3 q5 (by omega) (by omega) (by omega) t5 (by omega) q4
    generalize (EC.reg e44r8) = E8 at T8
    generalize (EC.reg e44r10) = E10 at T10
    generalize e44n15 = E15 at T15
    by_cases hc : a.parts[k].code = []
    · rw [if_pos hc] at hal
      obtain ⟨y1, y2, y3, y4, y5, y6, y7, y8⟩ := symM_f M1 a.parts[k].sym
      repeat' with_reducible first
        | refine ewp_reg_seq ?_ | refine ewp_seq ?_ | refine ewp_skip ?_ | refine ewp_block ?_ | refine xt_n ?_ | refine ewp_condQ ?_
        | simp -implicitDefEqProofs only [wA, Nat.reduceEqDiff, ↓reduceIte, reduceCtorEq, Nat.reduceAdd, Int.cast_ofNat_Int, Int.reduceLT, Int.reduceLE, Int.reduceEq, Int.reduceToNat, decide_true, decide_false, Bool.false_eq_true, g0, g5, g6, g7, g0, g5, g6, o5]
        | (refine condQ_i (fun h => ?_) (fun h => ?_) <;> have h_ := h <;> (try simp only [wD, reduceCtorEq] at h_) <;> (try (exfalso; first | omega | exact bf h_ (by assumption) | exact bt h_ (by assumption) | (refine absurd ?_ h_; focus assumption) | (refine absurd h_ ?_; focus assumption))) <;> (try simp only [h]))
        | (apply ia_slQ; (focus omega); (focus (first | assumption | exact List.getElem?_eq_getElem (by omega) | rfl)))
        | (apply ldQ_cell; (focus with_unfolding_all rfl))
        | (apply stQ_whole; (focus with_unfolding_all rfl); (focus with_unfolding_all rfl))
      refine T8 _ _ (s.next + 5 + 5) (hA1.mono (by simp -implicitDefEqProofs only [wL, Nat.reduceEqDiff, ↓reduceIte, reduceCtorEq]) (by simp -implicitDefEqProofs only [wL, Nat.reduceEqDiff, ↓reduceIte, reduceCtorEq]) (by simp -implicitDefEqProofs only [wL, Nat.reduceEqDiff, ↓reduceIte, reduceCtorEq]) (by simp only [wN]; omega) (fun j hj => by simp only [wM]; repeat (first | rw [if_pos trivial] | rw [if_pos rfl] | rw [if_neg (by omega)]))) (by simp -implicitDefEqProofs only [wL, Nat.reduceEqDiff, ↓reduceIte, reduceCtorEq]) (by simp only [wM]; repeat (first | rw [if_pos trivial] | rw [if_pos rfl] | rw [if_neg (by omega)])) (fun s2 ti2 gi2 vR2 h7a h7b hA => ?_)
      have h7 : s2.f 7 = vi k := h7a.trans (by simp -implicitDefEqProofs only [wL, Nat.reduceEqDiff, ↓reduceIte, reduceCtorEq, g0, g5, g6, g7])
      simp only [wN] at h7b
      have hA2 := hA.mono (s' := (((s2.bump 3).put (some 22) (vi k)).put (some 23) (.int .i64 ((k + 1 : Nat) : Int))).put (some 7) (.int .i64 ((k + 1 : Nat) : Int))) (by simp -implicitDefEqProofs only [wL, Nat.reduceEqDiff, ↓reduceIte, reduceCtorEq]) (by simp -implicitDefEqProofs only [wL, Nat.reduceEqDiff, ↓reduceIte, reduceCtorEq]) (by simp -implicitDefEqProofs only [wL, Nat.reduceEqDiff, ↓reduceIte, reduceCtorEq]) (by simp only [wN]; omega) (fun j hj => by simp only [wM])
      repeat' with_reducible first
        | refine ewp_reg ?_ | refine xt_n ?_ | refine xb_n ?_
        | simp -implicitDefEqProofs only [wA, Nat.reduceEqDiff, ↓reduceIte, reduceCtorEq, Nat.reduceAdd, Int.cast_ofNat_Int, Int.reduceLT, Int.reduceLE, Int.reduceEq, Int.reduceToNat, decide_true, decide_false, Bool.false_eq_true, g0, g5, g6, g7, h7]
        | simp -implicitDefEqProofs (disch := omega) only [w64, if_neg]
      refine ⟨by (try simp only [wN]); omega, k + 1, by omega, by rw [f0]; exact hA2.f0, by rw [f5]; exact hA2.f5, by rw [f6]; exact hA2.f6, by simp -implicitDefEqProofs only [wL, Nat.reduceEqDiff, ↓reduceIte, reduceCtorEq], by omega, vP, vR2, ps1, ti2, gi2, _, _, hA2, hal, by omega, by rw [y2]; exact t2, by simp; omega, by omega, by rw [y6]; exact t5, by rw [y6]; omega⟩
    · rw [if_neg hc] at hal
      by_cases hl : k + 1 = a.parts.length
      · rw [if_pos (List.drop_eq_nil_of_le (by omega))] at hal
        have hal : altGo (a.parts.drop (k + 1)) (M1, { p1 with code := a.parts[k].code, at_ := a.parts[k].at_ }) = R := by rw [List.drop_eq_nil_of_le (by omega)]; exact hal
        repeat' with_reducible first
          | refine ewp_reg_seq ?_ | refine ewp_seq ?_ | refine ewp_skip ?_ | refine ewp_block ?_ | refine xt_n ?_ | refine ewp_condQ ?_
          | simp -implicitDefEqProofs only [wA, Nat.reduceEqDiff, ↓reduceIte, reduceCtorEq, Nat.reduceAdd, Int.cast_ofNat_Int, Int.reduceLT, Int.reduceLE, Int.reduceEq, Int.reduceToNat, decide_true, decide_false, Bool.false_eq_true, g0, g5, g6, g7, g0, g5, g6, o5]
          | (refine condQ_i (fun h => ?_) (fun h => ?_) <;> have h_ := h <;> (try simp only [wD, reduceCtorEq] at h_) <;> (try (exfalso; first | omega | exact bf h_ (by assumption) | exact bt h_ (by assumption) | (refine absurd ?_ h_; focus assumption) | (refine absurd h_ ?_; focus assumption))) <;> (try simp only [h]))
          | (apply ia_slQ; (focus omega); (focus (first | assumption | exact List.getElem?_eq_getElem (by omega) | rfl)))
          | (apply ldQ_cell; (focus with_unfolding_all rfl))
          | (apply stQ_whole; (focus with_unfolding_all rfl); (focus with_unfolding_all rfl))
          | simp -implicitDefEqProofs (disch := omega) only [w64, if_neg]
        refine T10 _ _ (s.next + 5 + 5) (hA1.mono (by simp -implicitDefEqProofs only [wL, Nat.reduceEqDiff, ↓reduceIte, reduceCtorEq]) (by simp -implicitDefEqProofs only [wL, Nat.reduceEqDiff, ↓reduceIte, reduceCtorEq]) (by simp -implicitDefEqProofs only [wL, Nat.reduceEqDiff, ↓reduceIte, reduceCtorEq]) (by simp only [wN]; omega) (fun j hj => by simp only [wM]; repeat (first | rw [if_pos trivial] | rw [if_pos rfl] | rw [if_neg (by omega)]))) (by simp -implicitDefEqProofs only [wL, Nat.reduceEqDiff, ↓reduceIte, reduceCtorEq]) (by simp only [wM]; repeat (first | rw [if_pos trivial] | rw [if_pos rfl] | rw [if_neg (by omega)])) (fun s2 h7a h7b hA => ?_)
        have h7 : s2.f 7 = vi k := h7a.trans (by simp -implicitDefEqProofs only [wL, Nat.reduceEqDiff, ↓reduceIte, reduceCtorEq, g0, g5, g6, g7])
        simp only [wN] at h7b
        have hA2 := hA.mono (s' := (((s2.bump 3).put (some 22) (vi k)).put (some 23) (.int .i64 ((k + 1 : Nat) : Int))).put (some 7) (.int .i64 ((k + 1 : Nat) : Int))) (by simp -implicitDefEqProofs only [wL, Nat.reduceEqDiff, ↓reduceIte, reduceCtorEq]) (by simp -implicitDefEqProofs only [wL, Nat.reduceEqDiff, ↓reduceIte, reduceCtorEq]) (by simp -implicitDefEqProofs only [wL, Nat.reduceEqDiff, ↓reduceIte, reduceCtorEq]) (by simp only [wN]; omega) (fun j hj => by simp only [wM])
        repeat' with_reducible first
          | refine ewp_reg ?_ | refine xt_n ?_ | refine xb_n ?_
          | simp -implicitDefEqProofs only [wA, Nat.reduceEqDiff, ↓reduceIte, reduceCtorEq, Nat.reduceAdd, Int.cast_ofNat_Int, Int.reduceLT, Int.reduceLE, Int.reduceEq, Int.reduceToNat, decide_true, decide_false, Bool.false_eq_true, g0, g5, g6, g7, h7]
          | simp -implicitDefEqProofs (disch := omega) only [w64, if_neg]
        refine ⟨by (try simp only [wN]); omega, k + 1, by omega, by rw [f0]; exact hA2.f0, by rw [f5]; exact hA2.f5, by rw [f6]; exact hA2.f6, by simp -implicitDefEqProofs only [wL, Nat.reduceEqDiff, ↓reduceIte, reduceCtorEq], by omega, vP, vR, ps1, ti1, gi1, _, _, hA2, hal, by omega, t2, by dsimp only; omega, by omega, t5, by omega⟩
      · rw [if_neg (by rw [List.drop_eq_getElem_cons (show k + 1 < a.parts.length by omega)]; exact List.cons_ne_nil _ _)] at hal
        repeat' with_reducible first
          | refine ewp_reg_seq ?_ | refine ewp_seq ?_ | refine ewp_skip ?_ | refine ewp_block ?_ | refine xt_n ?_ | refine ewp_condQ ?_
          | simp -implicitDefEqProofs only [wA, Nat.reduceEqDiff, ↓reduceIte, reduceCtorEq, Nat.reduceAdd, Int.cast_ofNat_Int, Int.reduceLT, Int.reduceLE, Int.reduceEq, Int.reduceToNat, decide_true, decide_false, Bool.false_eq_true, g0, g5, g6, g7, g0, g5, g6, o5]
          | (refine condQ_i (fun h => ?_) (fun h => ?_) <;> have h_ := h <;> (try simp only [wD, reduceCtorEq] at h_) <;> (try (exfalso; first | omega | exact bf h_ (by assumption) | exact bt h_ (by assumption) | (refine absurd ?_ h_; focus assumption) | (refine absurd h_ ?_; focus assumption))) <;> (try simp only [h]))
          | (apply ia_slQ; (focus omega); (focus (first | assumption | exact List.getElem?_eq_getElem (by omega) | rfl)))
          | (apply ldQ_cell; (focus with_unfolding_all rfl))
          | (apply stQ_whole; (focus with_unfolding_all rfl); (focus with_unfolding_all rfl))
          | simp -implicitDefEqProofs (disch := omega) only [w64, if_neg]
        refine T15 _ _ (s.next + 5 + 5) (hA1.mono (by simp -implicitDefEqProofs only [wL, Nat.reduceEqDiff, ↓reduceIte, reduceCtorEq]) (by simp -implicitDefEqProofs only [wL, Nat.reduceEqDiff, ↓reduceIte, reduceCtorEq]) (by simp -implicitDefEqProofs only [wL, Nat.reduceEqDiff, ↓reduceIte, reduceCtorEq]) (by simp only [wN]; omega) (fun j hj => by simp only [wM]; repeat (first | rw [if_pos trivial] | rw [if_pos rfl] | rw [if_neg (by omega)]))) (by simp -implicitDefEqProofs only [wL, Nat.reduceEqDiff, ↓reduceIte, reduceCtorEq]) (by simp only [wM]; repeat (first | rw [if_pos trivial] | rw [if_pos rfl] | rw [if_neg (by omega)])) (by simp only [wN]; omega) (fun s2 vP2 vR2 ps2 h7a h7b h7c hA => ?_)
        have h7 : s2.f 7 = vi k := h7a.trans (by simp -implicitDefEqProofs only [wL, Nat.reduceEqDiff, ↓reduceIte, reduceCtorEq, g0, g5, g6, g7])
        simp only [wN] at h7b
        have hA2 := hA.mono (s' := (((s2.bump 3).put (some 22) (vi k)).put (some 23) (.int .i64 ((k + 1 : Nat) : Int))).put (some 7) (.int .i64 ((k + 1 : Nat) : Int))) (by simp -implicitDefEqProofs only [wL, Nat.reduceEqDiff, ↓reduceIte, reduceCtorEq]) (by simp -implicitDefEqProofs only [wL, Nat.reduceEqDiff, ↓reduceIte, reduceCtorEq]) (by simp -implicitDefEqProofs only [wL, Nat.reduceEqDiff, ↓reduceIte, reduceCtorEq]) (by simp only [wN]; omega) (fun j hj => by simp only [wM])
        repeat' with_reducible first
          | refine ewp_reg ?_ | refine xt_n ?_ | refine xb_n ?_
          | simp -implicitDefEqProofs only [wA, Nat.reduceEqDiff, ↓reduceIte, reduceCtorEq, Nat.reduceAdd, Int.cast_ofNat_Int, Int.reduceLT, Int.reduceLE, Int.reduceEq, Int.reduceToNat, decide_true, decide_false, Bool.false_eq_true, g0, g5, g6, g7, h7]
          | simp -implicitDefEqProofs (disch := omega) only [w64, if_neg]
        refine ⟨by (try simp only [wN]); omega, k + 1, by omega, by rw [f0]; exact hA2.f0, by rw [f5]; exact hA2.f5, by rw [f6]; exact hA2.f6, by simp -implicitDefEqProofs only [wL, Nat.reduceEqDiff, ↓reduceIte, reduceCtorEq], by omega, vP2, vR2, ps2, ti1, gi1, _, _, hA2, hal, by dsimp only; omega, t2, by simp; omega, by omega, by dsimp only; omega, by dsimp only; omega⟩
  · rw [List.drop_eq_nil_of_le (by omega), altGo_nil] at hal
    subst hal
    repeat' with_reducible first
      | refine ewp_reg_seq ?_ | refine ewp_seq ?_ | refine ewp_exit ?_ | refine xt_n ?_ | refine xt_e ?_ | refine xb_e ?_ | refine ewp_condQ ?_
      | simp -implicitDefEqProofs only [wA, Nat.reduceEqDiff, ↓reduceIte, reduceCtorEq, Nat.reduceAdd, Int.cast_ofNat_Int, Int.reduceLT, Int.reduceLE, Int.reduceEq, Int.reduceToNat, decide_true, decide_false, Bool.false_eq_true, g0, g5, g6, g7, g0, g5, g6, o5]
      | (refine condQ_i (fun h => ?_) (fun h => ?_) <;> have h_ := h <;> (try simp only [wD, reduceCtorEq] at h_) <;> (try (exfalso; first | omega | exact bf h_ (by assumption) | exact bt h_ (by assumption) | (refine absurd ?_ h_; focus assumption) | (refine absurd h_ ?_; focus assumption))) <;> (try simp only [h]))
      | (apply ldQ_cell; (focus with_unfolding_all rfl))
    exact hQ _ vP vR ps1 ti1 gi1 (hA1.mono (by simp -implicitDefEqProofs only [wL, Nat.reduceEqDiff, ↓reduceIte, reduceCtorEq]) (by simp -implicitDefEqProofs only [wL, Nat.reduceEqDiff, ↓reduceIte, reduceCtorEq]) (by simp -implicitDefEqProofs only [wL, Nat.reduceEqDiff, ↓reduceIte, reduceCtorEq]) (by simp only [wN]; omega) (fun j hj => by simp only [wM]; repeat (first | rw [if_pos trivial] | rw [if_pos rfl] | rw [if_neg (by omega)]))) (by omega)
end Go.Proofs


set_option maxHeartbeats 4000000
namespace Go.Proofs
open Go.E

/-- A production whose level's token is set. -/
abbrev withP (p : GPr) (q : Int) : GPr := { p with prec := q }
theorem AAt.setP {s s' : St} {H : Nat → Option MObj} {next m ti gi pb : Nat} {vN vP vT vL vR : V} {ps : List V} {a : Alt} {ti1 gi1 : Nat} {M : Mk} {p : GPr} {q : Int} (h : AAt s H next m ti gi pb vN vP vT vL vR ps a ti1 gi1 M p)
    (h0 : s'.f 0 = s.f 0) (h5 : s'.f 5 = s.f 5) (h6 : s'.f 6 = s.f 6) (hn : s.next ≤ s'.next) (hp : s'.H pb = some (.own 6 [prC { p with prec := q } vR] false)) (hH : ∀ j, j < s.next → j ≠ pb → s'.H j = s.H j) : AAt s' H next m ti gi pb vN vP vT vL vR ps a ti1 gi1 M { p with prec := q } := by
  obtain ⟨b1, b2, b3, b4, b5⟩ := h.ap pb _ h.h6
  have hM := h.at_
  exact h.upd (hM.mono3 hn (hH m hM.lm (Ne.symm b1)) (hH ti1 hM.lt (Ne.symm b2)) (hH gi1 hM.lg (Ne.symm b3))) (Or.inl rfl) (Or.inl rfl) h0 h5 h6 hn hp (h.gR.mono hn fun id g1 g2 => hH id g2 fun e => b4 (by rw [← e]; exact g1)) (h.gP.mono hn fun id g1 g2 => hH id g2 fun e => b5 (by rw [← e]; exact g1)) h.eP h.sp fun j g _ _ _ g5 _ _ => hH j g g5

theorem precWalk {s0 : St} {H : Nat → Option MObj} {next m ti gi pb : Nat} {vN vP vT vL vR : V} {ps : List V} {a : Alt} {ti1 gi1 : Nat} {M : Mk} {p : GPr} {E : EC} {Q : Exit → St → Prop} (h : AAt s0 H next m ti gi pb vN vP vT vL vR ps a ti1 gi1 M p) (hbr : p.right.length ≤ 549755813888)
    (hQ : ∀ s', AAt s' H next m ti gi pb vN vP vT vL vR ps a ti1 gi1 M { p with prec := precGo p.right p.prec } → ewp Try.prog E Q s') : ewp Try.prog (.seq e44n43 E) Q s0 := by
  generalize hR : precGo p.right p.prec = R at hQ
  have f0 := h.f0; have f5 := h.f5; have f6 := h.f6
  repeat' with_reducible first
    | refine ewp_reg_seq ?_ | refine ewp_seq ?_ | refine ewp_block ?_
    | simp -implicitDefEqProofs only [wA, Nat.reduceEqDiff, ↓reduceIte, reduceCtorEq, Nat.reduceAdd, Int.cast_ofNat_Int, Int.reduceLT, Int.reduceLE, Int.reduceEq, Int.reduceToNat, decide_true, decide_false, Bool.false_eq_true, f0, f5, f6]
  refine ewp_loopN ?nx2 (fun (z : Nat × Int) s => s.f 0 = ?v2_0 ∧ s.f 5 = ?v2_5 ∧ s.f 6 = ?v2_6 ∧ s.f 9 = vi z.1 ∧ (z.1 ≤ p.right.length) ∧ ((AAt s H next m ti gi pb vN vP vT vL vR ps a ti1 gi1 M (withP p z.2))) ∧ (precGo (p.right.drop z.1) z.2 = R)) (fun z => p.right.length - z.1) ((0, p.prec)) (by simp -implicitDefEqProofs only [wN, Nat.reduceAdd, Nat.zero_add]; exact Nat.le_refl _) (by refine ⟨?_, ?_, ?_, ?_, (by first | omega | (simp; done) | assumption), (by exact h.mono (by simp -implicitDefEqProofs only [wL, Nat.reduceEqDiff, ↓reduceIte, reduceCtorEq]) (by simp -implicitDefEqProofs only [wL, Nat.reduceEqDiff, ↓reduceIte, reduceCtorEq]) (by simp -implicitDefEqProofs only [wL, Nat.reduceEqDiff, ↓reduceIte, reduceCtorEq]) (by simp only [wN]; omega) (fun j hj => by simp only [wM])), (by exact hR)⟩ <;> first | (simp -implicitDefEqProofs only [wL, wM, wN, wX, Nat.reduceEqDiff, ↓reduceIte, reduceCtorEq, Nat.reduceAdd, Option.some.injEq] <;> first | rfl | exact ⟨_, rfl⟩ | exact ⟨_, rfl, by first | assumption | exact Gr.nil | exact Gr.tok rfl (by omega) | exact Gr.tok (by simp -implicitDefEqProofs only [wM, Nat.reduceEqDiff, ↓reduceIte, reduceCtorEq] <;> rfl) (by omega) | exact Gr.clip⟩) | rfl | exact ⟨_, rfl⟩) ?_
  intro z s hnx ⟨g0, g5, g6, g9, k2_0, k2_1, k2_2⟩
  obtain ⟨k, q⟩ := z
  dsimp only at g9 k2_0 k2_1 k2_2
  have hA1 := k2_1
  have g0 := hA1.f0; have g5 := hA1.f5; have g6 := hA1.f6; have lp := hA1.lp; have ln := hA1.ln
  have o6 : s.H pb = some (.own 6 [.agg [vi p.left, vR, vi q, .str p.code, .sl 1 true [], vi p.at_]] false) := hA1.h6
  have GR : Gr s.H s.next 1 (p.right.map (V.int .i64)) vR := hA1.gR
  by_cases hk : k < p.right.length
  · rw [List.drop_eq_getElem_cons hk, precGo] at k2_2
    by_cases hx : p.right[k] < 1000
    · rw [if_pos hx] at k2_2
      repeat' with_reducible first
        | refine ewp_reg_seq ?_ | refine ewp_seq ?_ | refine ewp_reg ?_ | refine ewp_skip ?_ | refine ewp_block ?_ | refine xt_n ?_ | refine xb_n ?_ | refine ewp_condQ ?_
        | simp -implicitDefEqProofs only [wA, Nat.reduceEqDiff, ↓reduceIte, reduceCtorEq, Nat.reduceAdd, Int.cast_ofNat_Int, Int.reduceLT, Int.reduceLE, Int.reduceEq, Int.reduceToNat, decide_true, decide_false, Bool.false_eq_true, g0, g5, g6, g9, g0, g5, g6, o6, GR.len]
        | (refine condQ_i (fun h => ?_) (fun h => ?_) <;> have h_ := h <;> (try simp only [wD, reduceCtorEq] at h_) <;> (try (exfalso; first | omega | exact bf h_ (by assumption) | exact bt h_ (by assumption) | (refine absurd ?_ h_; focus assumption) | (refine absurd h_ ?_; focus assumption))) <;> (try simp only [h]))
        | (apply Gr.iaQ GR; (focus omega); (focus (first | assumption | exact List.getElem?_eq_getElem (by omega))))
        | (apply ldQ_cell; (focus with_unfolding_all rfl))
        | (apply stQ_cell; (focus with_unfolding_all rfl); (focus with_unfolding_all rfl); (focus with_unfolding_all rfl); (focus (first | assumption | omega | (simp only [wZ]; omega) | trivial)))
        | simp -implicitDefEqProofs (disch := omega) only [w64, if_neg]
      exact ⟨by omega, (k + 1, p.right[k]), by dsimp only; omega, f0.symm, f5.symm, f6.symm, rfl, by dsimp only; omega, hA1.setP (by simp -implicitDefEqProofs only [wL, Nat.reduceEqDiff, ↓reduceIte, reduceCtorEq]) (by simp -implicitDefEqProofs only [wL, Nat.reduceEqDiff, ↓reduceIte, reduceCtorEq]) (by simp -implicitDefEqProofs only [wL, Nat.reduceEqDiff, ↓reduceIte, reduceCtorEq]) (by simp only [wN]; omega) (by simp only [wM]; repeat (first | rw [if_pos trivial] | rw [if_pos rfl] | rw [if_neg (by omega)])) (fun j g g' => by simp only [wM]; repeat (first | rw [if_pos trivial] | rw [if_pos rfl] | rw [if_neg (by omega)])), k2_2⟩
    · rw [if_neg hx] at k2_2
      repeat' with_reducible first
        | refine ewp_reg_seq ?_ | refine ewp_seq ?_ | refine ewp_reg ?_ | refine ewp_skip ?_ | refine ewp_block ?_ | refine xt_n ?_ | refine xb_n ?_ | refine ewp_condQ ?_
        | simp -implicitDefEqProofs only [wA, Nat.reduceEqDiff, ↓reduceIte, reduceCtorEq, Nat.reduceAdd, Int.cast_ofNat_Int, Int.reduceLT, Int.reduceLE, Int.reduceEq, Int.reduceToNat, decide_true, decide_false, Bool.false_eq_true, g0, g5, g6, g9, g0, g5, g6, o6, GR.len]
        | (refine condQ_i (fun h => ?_) (fun h => ?_) <;> have h_ := h <;> (try simp only [wD, reduceCtorEq] at h_) <;> (try (exfalso; first | omega | exact bf h_ (by assumption) | exact bt h_ (by assumption) | (refine absurd ?_ h_; focus assumption) | (refine absurd h_ ?_; focus assumption))) <;> (try simp only [h]))
        | (apply Gr.iaQ GR; (focus omega); (focus (first | assumption | exact List.getElem?_eq_getElem (by omega))))
        | (apply ldQ_cell; (focus with_unfolding_all rfl))
        | simp -implicitDefEqProofs (disch := omega) only [w64, if_neg]
      exact ⟨by omega, (k + 1, q), by dsimp only; omega, f0.symm, f5.symm, f6.symm, rfl, by dsimp only; omega, hA1.mono (by simp -implicitDefEqProofs only [wL, Nat.reduceEqDiff, ↓reduceIte, reduceCtorEq]) (by simp -implicitDefEqProofs only [wL, Nat.reduceEqDiff, ↓reduceIte, reduceCtorEq]) (by simp -implicitDefEqProofs only [wL, Nat.reduceEqDiff, ↓reduceIte, reduceCtorEq]) (by simp only [wN]; omega) (fun j hj => by simp only [wM]), k2_2⟩
  · rw [List.drop_eq_nil_of_le (by omega), precGo] at k2_2
    subst k2_2
    repeat' with_reducible first
      | refine ewp_reg_seq ?_ | refine ewp_seq ?_ | refine ewp_exit ?_ | refine xt_n ?_ | refine xt_e ?_ | refine xb_e ?_ | refine ewp_condQ ?_
      | simp -implicitDefEqProofs only [wA, Nat.reduceEqDiff, ↓reduceIte, reduceCtorEq, Nat.reduceAdd, Int.cast_ofNat_Int, Int.reduceLT, Int.reduceLE, Int.reduceEq, Int.reduceToNat, decide_true, decide_false, Bool.false_eq_true, g0, g5, g6, g9, g0, g5, g6, o6, GR.len]
      | (refine condQ_i (fun h => ?_) (fun h => ?_) <;> have h_ := h <;> (try simp only [wD, reduceCtorEq] at h_) <;> (try (exfalso; first | omega | exact bf h_ (by assumption) | exact bt h_ (by assumption) | (refine absurd ?_ h_; focus assumption) | (refine absurd h_ ?_; focus assumption))) <;> (try simp only [h]))
      | (apply ldQ_cell; (focus with_unfolding_all rfl))
    exact hQ _ (hA1.mono (by simp -implicitDefEqProofs only [wL, Nat.reduceEqDiff, ↓reduceIte, reduceCtorEq]) (by simp -implicitDefEqProofs only [wL, Nat.reduceEqDiff, ↓reduceIte, reduceCtorEq]) (by simp -implicitDefEqProofs only [wL, Nat.reduceEqDiff, ↓reduceIte, reduceCtorEq]) (by simp only [wN]; omega) (fun j hj => by simp only [wM]))

/-- The level that stands behind %prec. -/
def levM (M : Mk) (x : Sym) (q : Int) : Mk × Int :=
  if x.name ≠ [] then (if x.lit = true ∨ leftGo x.name M.lefts 0 < 0 then symM M x else (failM M x.at_ x.name, -1)) else (M, q)
theorem levM_f (M : Mk) (x : Sym) (q : Int) : (levM M x q).1.lefts = M.lefts ∧ (levM M x q).1.prods = M.prods ∧ (levM M x q).1.types = M.types ∧ (levM M x q).1.nons = M.nons ∧ (levM M x q).1.inner = M.inner ∧ M.toks.length ≤ (levM M x q).1.toks.length ∧ (levM M x q).1.toks.length ≤ M.toks.length + 1 := by
  obtain ⟨ff1, ff2, ff3, ff4, ff5, ff6, ff7, ff8⟩ := failM_f M x.at_ x.name
  obtain ⟨y1, y2, y3, y4, y5, y6, y7, y8⟩ := symM_f M x
  unfold levM; split
  · split
    · exact ⟨y2, y3, y1, y4, y6, y7, y8⟩
    · exact ⟨ff3, ff5, ff4, ff6, ff8, by dsimp only; rw [ff1]; exact Nat.le_refl _, by dsimp only; rw [ff1]; omega⟩
  · exact ⟨rfl, rfl, rfl, rfl, rfl, Nat.le_refl _, by dsimp only; omega⟩
theorem AAt.callP {s s' : St} {H : Nat → Option MObj} {next m ti gi pb : Nat} {vN vP vT vL vR : V} {ps : List V} {a : Alt} {ti1 gi1 ti2 gi2 : Nat} {M M' : Mk} {p : GPr} {q : Int} (h : AAt s H next m ti gi pb vN vP vT vL vR ps a ti1 gi1 M p)
    (hA : MkAt s'.H s'.next m ti2 gi2 vN vP vT vL M') (it : ti2 = ti1 ∨ s.next ≤ ti2) (ig : gi2 = gi1 ∨ s.next ≤ gi2) (hpr : M'.prods = M.prods) (h0 : s'.f 0 = s.f 0) (h5 : s'.f 5 = s.f 5) (h6 : s'.f 6 = s.f 6) (hn : s.next ≤ s'.next)
    (hp : s'.H pb = some (.own 6 [prC { p with prec := q } vR] false)) (hH : ∀ j, j < s.next → j ≠ m → j ≠ ti1 → j ≠ gi1 → j ≠ pb → s'.H j = s.H j) : AAt s' H next m ti gi pb vN vP vT vL vR ps a ti2 gi2 M' (withP p q) := by
  obtain ⟨b1, b2, b3, b4, b5⟩ := h.ap pb _ h.h6
  obtain ⟨c1, c2, c3⟩ := h.at_.nt
  exact h.upd hA it ig h0 h5 h6 hn hp (h.gR.mono hn fun id g1 g2 => hH id g2 (fun e => h.gR.ne c1 (by rw [← e]; exact g1)) (fun e => h.gR.ne c2 (by rw [← e]; exact g1)) (fun e => h.gR.ne c3 (by rw [← e]; exact g1)) (fun e => b4 (by rw [← e]; exact g1)))
    (h.gP.mono hn fun id g1 g2 => hH id g2 (fun e => h.gP.ne c1 (by rw [← e]; exact g1)) (fun e => h.gP.ne c2 (by rw [← e]; exact g1)) (fun e => h.gP.ne c3 (by rw [← e]; exact g1)) (fun e => b5 (by rw [← e]; exact g1))) (by rw [hpr]; exact h.eP) h.sp fun j g1 g2 g3 g4 g5 _ _ => hH j g1 g2 g3 g4 g5

theorem levWalk {s0 : St} {H : Nat → Option MObj} {next m ti gi pb : Nat} {vN vP vT vL vR : V} {ps : List V} {a : Alt} {ti1 gi1 : Nat} {M : Mk} {p : GPr} {E : EC} {Q : Exit → St → Prop} (h : AAt s0 H next m ti gi pb vN vP vT vL vR ps a ti1 gi1 M p) (b1 : M.toks.length ≤ 1099511627776) (b2 : M.lefts.length ≤ 1099511627776) (hx : a.prec.lit = true → a.prec.name ≠ [])
    (hQ : ∀ s' ti2 gi2, AAt s' H next m ti gi pb vN vP vT vL vR ps a ti2 gi2 (levM M a.prec p.prec).1 (withP p (levM M a.prec p.prec).2) → ewp Try.prog E Q s') : ewp Try.prog (.seq e44n53 E) Q s0 := by
  have hA0 := h
  have hM := h.at_
  have f0 := h.f0; have f5 := h.f5; have f6 := h.f6; have h5 := h.h5; have h6 := h.h6; have hm := hM.hm; have lp := h.lp; have ln := h.ln
  have lm := hM.lm; have lt := hM.lt; have lg := hM.lg
  obtain ⟨p1, p2, p3, p4, p5⟩ := h.ap pb _ h6
  obtain ⟨n1, n2, n3⟩ := hM.mt
  by_cases hn : a.prec.name = []
  · have e : levM M a.prec p.prec = (M, p.prec) := by unfold levM; rw [if_neg (by simp [hn])]
    rw [e] at hQ
    repeat' with_reducible first
      | refine ewp_reg_seq ?_ | refine ewp_seq ?_ | refine ewp_skip ?_ | refine xt_n ?_ | refine ewp_condQ ?_
      | simp -implicitDefEqProofs only [wA, Nat.reduceEqDiff, ↓reduceIte, reduceCtorEq, Nat.reduceAdd, Int.cast_ofNat_Int, Int.reduceLT, Int.reduceLE, Int.reduceEq, Int.reduceToNat, decide_true, decide_false, Bool.false_eq_true, f0, f5, f6, h5, h6]
      | (refine condQ_i (fun h => ?_) (fun h => ?_) <;> have h_ := h <;> (try simp only [wD, reduceCtorEq] at h_) <;> (try (exfalso; first | omega | exact bf h_ (by assumption) | exact bt h_ (by assumption) | (refine absurd ?_ h_; focus assumption) | (refine absurd h_ ?_; focus assumption))) <;> (try simp only [h]))
      | (apply ldQ_cell; (focus with_unfolding_all rfl))
    exact hQ _ ti1 gi1 (hA0.mono (by simp -implicitDefEqProofs only [wL, Nat.reduceEqDiff, ↓reduceIte, reduceCtorEq]) (by simp -implicitDefEqProofs only [wL, Nat.reduceEqDiff, ↓reduceIte, reduceCtorEq]) (by simp -implicitDefEqProofs only [wL, Nat.reduceEqDiff, ↓reduceIte, reduceCtorEq]) (by simp only [wN]; omega) (fun j hj => by simp only [wM]))
  · by_cases hC : a.prec.lit = true ∨ leftGo a.prec.name M.lefts 0 < 0
    · have e : levM M a.prec p.prec = symM M a.prec := by unfold levM; rw [if_pos hn, if_pos hC]
      rw [e] at hQ
      repeat' with_reducible first
        | refine ewp_reg_seq ?_ | refine ewp_seq ?_ | refine ewp_reg ?_ | refine ewp_condQ ?_ | refine condQ_T ?_ | refine L_gdQ ?_ | refine gdQ_FF ?_ | refine gdQ_TF ?_
        | simp -implicitDefEqProofs only [wA, Nat.reduceEqDiff, ↓reduceIte, reduceCtorEq, Nat.reduceAdd, Int.cast_ofNat_Int, Int.reduceLT, Int.reduceLE, Int.reduceEq, Int.reduceToNat, decide_true, decide_false, Bool.false_eq_true, f0, f5, f6, h5, h6, hm]
        | (refine condQ_i (fun h => ?_) (fun h => ?_) <;> have h_ := h <;> (try simp only [wD, reduceCtorEq] at h_) <;> (try (exfalso; first | omega | exact bf h_ (by assumption) | exact bt h_ (by assumption) | (refine absurd ?_ h_; focus assumption) | (refine absurd h_ ?_; focus assumption))) <;> (try simp only [h]))
        | ((first | refine gdQ_iT (fun h => ?_) (fun h => ?_) | refine gdQ_iF (fun h => ?_) (fun h => ?_)) <;> have h_ := h <;> (try simp only [wD, reduceCtorEq] at h_) <;> (try (exfalso; first | omega | exact bf h_ (by assumption) | exact bt h_ (by assumption) | (refine absurd ?_ h_; focus assumption) | (refine absurd h_ ?_; focus assumption))) <;> (try simp only [h]))
        | (apply callQB2 (hp := yuccaref9_maker_left ?_); (focus (exact (hM.mono3 (Nat.le_refl _) (by (try simp only [wM]); (repeat rw [if_neg (by omega)])) (by (try simp only [wM]); (repeat rw [if_neg (by omega)])) (by (try simp only [wM]); (repeat rw [if_neg (by omega)]))).er)); (focus exact er_cl); (focus (with_unfolding_all rfl)); (focus exact Flat.int _ _); rotate_left; (focus (first | assumption | omega | (simp only [wZ]; omega) | trivial)))
        | (refine callQWc rfl rfl rfl ((symE (hM.mono3 (by simp only [wN]; omega) (by (try simp only [wM]); (repeat rw [if_neg (by omega)])) (by (try simp only [wM]); (repeat rw [if_neg (by omega)])) (by (try simp only [wM]); (repeat rw [if_neg (by omega)]))) b1 b2 hx).mono ?_); rintro v1 H1 n1 ⟨q1, rfl, ⟨ti', gi', q3, q4, q5⟩, q6⟩; (try simp only [wN] at q1); (try simp only [wN] at q3); (try simp only [wN] at q4); (try simp only [wM, wN] at q6))
        | (apply ldQ_sub; (focus with_unfolding_all rfl); (focus with_unfolding_all rfl); (focus ((try simp -implicitDefEqProofs only [wE, Nat.reduceAdd]); rfl)))
        | (apply ldQ_cell; (focus with_unfolding_all rfl))
        | (apply stQ_cell; (focus with_unfolding_all rfl); (focus with_unfolding_all rfl); (focus with_unfolding_all rfl); (focus (first | assumption | omega | (simp only [wZ]; omega) | trivial)))
        | simp -implicitDefEqProofs (disch := omega) only [w64, if_neg]
      · have h61 : H1 pb = some (.own 6 [.agg [vi p.left, vR, vi (-1), .str p.code, .sl 1 true [], vi p.at_]] false) := by rw [q6 pb (by omega) p1 p2 p3, if_pos rfl]
        obtain ⟨y1, y2, y3, y4, y5, y6, y7, y8⟩ := symM_f M a.prec
        repeat' with_reducible first
          | refine xt_n ?_
          | simp -implicitDefEqProofs only [wA, Nat.reduceEqDiff, ↓reduceIte, reduceCtorEq, Nat.reduceAdd, Int.cast_ofNat_Int, Int.reduceLT, Int.reduceLE, Int.reduceEq, Int.reduceToNat, decide_true, decide_false, Bool.false_eq_true, f6, h61]
          | (apply stQ_cell; (focus with_unfolding_all rfl); (focus with_unfolding_all rfl); (focus with_unfolding_all rfl); (focus (first | assumption | omega | (simp only [wZ]; omega) | trivial)))
        exact hQ _ ti' gi' (hA0.callP (q5.mono3 (by simp only [wN]; omega) (by simp only [wM]; repeat (first | rw [if_pos trivial] | rw [if_pos rfl] | rw [if_neg (by omega)])) (by simp only [wM]; repeat (first | rw [if_pos trivial] | rw [if_pos rfl] | rw [if_neg (by omega)])) (by simp only [wM]; repeat (first | rw [if_pos trivial] | rw [if_pos rfl] | rw [if_neg (by omega)]))) (by omega) (by omega) y3 (by simp -implicitDefEqProofs only [wL, Nat.reduceEqDiff, ↓reduceIte, reduceCtorEq]) (by simp -implicitDefEqProofs only [wL, Nat.reduceEqDiff, ↓reduceIte, reduceCtorEq]) (by simp -implicitDefEqProofs only [wL, Nat.reduceEqDiff, ↓reduceIte, reduceCtorEq]) (by simp only [wN]; omega) (by simp only [wM]; repeat (first | rw [if_pos trivial] | rw [if_pos rfl] | rw [if_neg (by omega)])) (fun j g1 g2 g3 g4 g5 => by simp only [wM]; repeat (first | rw [if_pos trivial] | rw [if_pos rfl] | rw [if_neg (by omega)]); rw [q6 j (by omega) g2 g3 g4, if_neg g5]))
      · exact absurd hC (by simp [*])
      · have h61 : H1 pb = some (.own 6 [.agg [vi p.left, vR, vi (-1), .str p.code, .sl 1 true [], vi p.at_]] false) := by rw [q6 pb (by omega) p1 p2 p3, if_pos rfl]
        obtain ⟨y1, y2, y3, y4, y5, y6, y7, y8⟩ := symM_f M a.prec
        repeat' with_reducible first
          | refine xt_n ?_
          | simp -implicitDefEqProofs only [wA, Nat.reduceEqDiff, ↓reduceIte, reduceCtorEq, Nat.reduceAdd, Int.cast_ofNat_Int, Int.reduceLT, Int.reduceLE, Int.reduceEq, Int.reduceToNat, decide_true, decide_false, Bool.false_eq_true, f6, h61]
          | (apply stQ_cell; (focus with_unfolding_all rfl); (focus with_unfolding_all rfl); (focus with_unfolding_all rfl); (focus (first | assumption | omega | (simp only [wZ]; omega) | trivial)))
        exact hQ _ ti' gi' (hA0.callP (q5.mono3 (by simp only [wN]; omega) (by simp only [wM]; repeat (first | rw [if_pos trivial] | rw [if_pos rfl] | rw [if_neg (by omega)])) (by simp only [wM]; repeat (first | rw [if_pos trivial] | rw [if_pos rfl] | rw [if_neg (by omega)])) (by simp only [wM]; repeat (first | rw [if_pos trivial] | rw [if_pos rfl] | rw [if_neg (by omega)]))) (by omega) (by omega) y3 (by simp -implicitDefEqProofs only [wL, Nat.reduceEqDiff, ↓reduceIte, reduceCtorEq]) (by simp -implicitDefEqProofs only [wL, Nat.reduceEqDiff, ↓reduceIte, reduceCtorEq]) (by simp -implicitDefEqProofs only [wL, Nat.reduceEqDiff, ↓reduceIte, reduceCtorEq]) (by simp only [wN]; omega) (by simp only [wM]; repeat (first | rw [if_pos trivial] | rw [if_pos rfl] | rw [if_neg (by omega)])) (fun j g1 g2 g3 g4 g5 => by simp only [wM]; repeat (first | rw [if_pos trivial] | rw [if_pos rfl] | rw [if_neg (by omega)]); rw [q6 j (by omega) g2 g3 g4, if_neg g5]))
    · have e : levM M a.prec p.prec = (failM M a.prec.at_ a.prec.name, -1) := by unfold levM; rw [if_pos hn, if_neg hC]
      rw [e] at hQ
      have c1 : a.prec.lit = false := by cases hl : a.prec.lit with | true => exact absurd (Or.inl hl) hC | false => rfl
      have c2 : ¬ leftGo a.prec.name M.lefts 0 < 0 := fun e => hC (Or.inr e)
      repeat' with_reducible first
        | refine ewp_reg_seq ?_ | refine ewp_seq ?_ | refine ewp_reg ?_ | refine xt_n ?_ | refine ewp_condQ ?_ | refine L_gdQ ?_ | refine gdQ_FF ?_
        | simp -implicitDefEqProofs only [wA, Nat.reduceEqDiff, ↓reduceIte, reduceCtorEq, Nat.reduceAdd, Int.cast_ofNat_Int, Int.reduceLT, Int.reduceLE, Int.reduceEq, Int.reduceToNat, decide_true, decide_false, Bool.false_eq_true, f0, f5, f6, h5, h6, hm]
        | (refine condQ_i (fun h => ?_) (fun h => ?_) <;> have h_ := h <;> (try simp only [wD, reduceCtorEq] at h_) <;> (try (exfalso; first | omega | exact bf h_ (by assumption) | exact bt h_ (by assumption) | (refine absurd ?_ h_; focus assumption) | (refine absurd h_ ?_; focus assumption))) <;> (try simp only [h]))
        | ((first | refine gdQ_iT (fun h => ?_) (fun h => ?_) | refine gdQ_iF (fun h => ?_) (fun h => ?_)) <;> have h_ := h <;> (try simp only [wD, reduceCtorEq] at h_) <;> (try (exfalso; first | omega | exact bf h_ (by assumption) | exact bt h_ (by assumption) | (refine absurd ?_ h_; focus assumption) | (refine absurd h_ ?_; focus assumption))) <;> (try simp only [h]))
        | (apply callQB2 (hp := yuccaref9_maker_left ?_); (focus (exact (hM.mono3 (Nat.le_refl _) (by (try simp only [wM]); (repeat rw [if_neg (by omega)])) (by (try simp only [wM]); (repeat rw [if_neg (by omega)])) (by (try simp only [wM]); (repeat rw [if_neg (by omega)]))).er)); (focus exact er_cl); (focus (with_unfolding_all rfl)); (focus exact Flat.int _ _); rotate_left; (focus (first | assumption | omega | (simp only [wZ]; omega) | trivial)))
        | (refine callQWc rfl rfl rfl ((failE (hM.mono3 (by simp only [wN]; omega) (by (try simp only [wM]); (repeat rw [if_neg (by omega)])) (by (try simp only [wM]); (repeat rw [if_neg (by omega)])) (by (try simp only [wM]); (repeat rw [if_neg (by omega)]))) ).mono ?_); rintro v1 H1 n1 ⟨q1, q2, q6⟩; (try simp only [wN] at q1); (try simp only [wN] at q3); (try simp only [wN] at q4); (try simp only [wM, wN] at q6))
        | (apply ldQ_cell; (focus with_unfolding_all rfl))
        | (apply stQ_cell; (focus with_unfolding_all rfl); (focus with_unfolding_all rfl); (focus with_unfolding_all rfl); (focus (first | assumption | omega | (simp only [wZ]; omega) | trivial)))
        | simp -implicitDefEqProofs (disch := omega) only [w64, if_neg]
      exact hQ _ ti1 gi1 (hA0.callP (q2.mono3 (by simp only [wN]; omega) (by simp only [wM]) (by simp only [wM]) (by simp only [wM])) (Or.inl rfl) (Or.inl rfl) (failM_f M a.prec.at_ a.prec.name).2.2.2.2.1 (by simp -implicitDefEqProofs only [wL, Nat.reduceEqDiff, ↓reduceIte, reduceCtorEq]) (by simp -implicitDefEqProofs only [wL, Nat.reduceEqDiff, ↓reduceIte, reduceCtorEq]) (by simp -implicitDefEqProofs only [wL, Nat.reduceEqDiff, ↓reduceIte, reduceCtorEq]) (by simp only [wN]; omega) (by simp only [wM]; rw [q6 pb (by omega) p1, if_pos rfl]) (fun j g1 g2 g3 g4 g5 => by simp only [wM]; rw [q6 j (by omega) g2, if_neg g5]))
end Go.Proofs


set_option maxHeartbeats 4000000
namespace Go.Proofs
open Go.E

abbrev prodM (M : Mk) (p : GPr) : Mk := { M with prods := M.prods ++ [{ p with args := p.right }] }
theorem lastWalk {s0 : St} {H : Nat → Option MObj} {next m ti gi pb : Nat} {vN vP vT vL vR : V} {ps : List V} {a : Alt} {ti1 gi1 : Nat} {M : Mk} {p : GPr} {Q : Exit → St → Prop} (h : AAt s0 H next m ti gi pb vN vP vT vL vR ps a ti1 gi1 M p) (hbr : p.right.length ≤ 549755813888) (hbp : ps.length ≤ 549755813888)
    (hQ : ∀ s' vP' ps', MkAt s'.H s'.next m ti1 gi1 vN vP' vT vL (prodM M p) → Gr s'.H s'.next 6 ps' vP' → ErPL ps' ((prodM M p).prods.map GPr.V) → ps'.length = ps.length + 1 → s0.next ≤ s'.next → FrO H s'.H next m ti gi → Q .normal s') : ewp Try.prog e44n56 Q s0 := by
  have hM := h.at_
  have f0 := h.f0; have f5 := h.f5; have f6 := h.f6; have h5 := h.h5; have h6 := h.h6; have hm := hM.hm; have lp := h.lp; have ln := h.ln
  have lm := hM.lm; have lt := hM.lt; have lg := hM.lg
  obtain ⟨p1, p2, p3, p4, p5⟩ := h.ap pb _ h6
  obtain ⟨n1, n2, n3⟩ := hM.mt
  obtain ⟨c1, c2, c3⟩ := hM.nt
  have d5 := h.gP.ne c1
  have hneP : ∀ id, gid vP = some id → id ≠ m ∧ id ≠ pb := fun id h1 => ⟨fun e => d5 (by rw [← e]; exact h1), fun e => p5 (by rw [← e]; exact h1)⟩
  repeat' with_reducible first
    | refine ewp_reg_seq ?_ | refine ewp_reg ?_
    | simp -implicitDefEqProofs only [wA, Nat.reduceEqDiff, ↓reduceIte, reduceCtorEq, Nat.reduceAdd, Int.cast_ofNat_Int, Int.reduceLT, Int.reduceLE, Int.reduceEq, Int.reduceToNat, decide_true, decide_false, Bool.false_eq_true, f0, f5, f6, h5, h6, hm, dropG_ne d5, dropG_ne p5]
    | (apply appQ_C (SrcN.gr h.gR); (focus (simp only [wZ]; omega)); (focus (unfold maxLen; simp only [wZ]; omega)))
    | (apply appQ_G rfl (h.gP.mono (Nat.le_refl _) (fun id h1 h2 => by have hne := hneP id h1; (try simp only [wM]); (repeat rw [if_neg (by omega)]))); (focus exact SrcN.sl); (focus (simp only [wZ]; omega)); (focus (unfold maxLen; simp only [wZ]; omega)))
    | (apply fil_part; (focus with_unfolding_all rfl); (focus with_unfolding_all rfl); (focus with_unfolding_all rfl); (focus ((try simp -implicitDefEqProofs only [wY]); rfl)))
    | (apply ldQ_whole)
    | (apply ldQ_cell; (focus with_unfolding_all rfl))
    | (apply stQ_cell; (focus with_unfolding_all rfl); (focus with_unfolding_all rfl); (focus with_unfolding_all rfl); (focus (first | assumption | omega | (simp only [wZ]; omega) | trivial)))
    | simp -implicitDefEqProofs (disch := omega) only [w64, if_neg]
  have hv : Er false (fun _ => none) (.agg [vi p.left, vR, vi p.prec, .str p.code, .asl (s0.next + 3) p.right.length 1 (p.right.map (V.int .i64)), vi p.at_]) (GPr.V { p with args := p.right }) :=
    ErL.agg (.cons (.int _ _) (.cons (h.gR.er rfl) (.cons (.int _ _) (.cons (.str _) (.cons er_asl (.cons (.int _ _) .nil))))))
  have heP : ErPL (ps ++ [(.agg [vi p.left, vR, vi p.prec, .str p.code, .asl (s0.next + 3) p.right.length 1 (p.right.map (V.int .i64)), vi p.at_])]) ((prodM M p).prods.map GPr.V) := by
    show ErPL _ ((M.prods ++ [({ p with args := p.right } : GPr)]).map GPr.V)
    rw [List.map_append]; exact h.eP.snoc hv
  have e2 := h.gP.ne c2; have e3 := h.gP.ne c3
  refine hQ _ (.asl (s0.next + 6 + 8) (ps.length + 1) 6 (ps ++ [(.agg [vi p.left, vR, vi p.prec, .str p.code, .asl (s0.next + 3) p.right.length 1 (p.right.map (V.int .i64)), vi p.at_])])) (ps ++ [(.agg [vi p.left, vR, vi p.prec, .str p.code, .asl (s0.next + 3) p.right.length 1 (p.right.map (V.int .i64)), vi p.at_])]) ⟨?_, ?_, ?_, hM.eN, ErL.asl heP, hM.eT, hM.eL, by simp only [wN]; omega, by simp only [wN]; omega, by simp only [wN]; omega, hM.len, hM.len3⟩ (Gr.tok ?_ (by simp only [wN]; omega)) heP (by simp) (by simp only [wN]; omega) (fun j g1 g2 g3 g4 g5 => ?_)
  · simp only [wM]
    repeat first | rw [if_pos trivial] | rw [if_pos rfl] | rw [if_neg (by omega)] | simp only [wM] | rw [dropG_ne d5]
  · simp only [wM]
    repeat first | rw [if_pos trivial] | rw [if_pos rfl] | rw [if_neg (by omega)] | simp only [wM] | rw [dropG_ne e2]
    exact hM.ht
  · simp only [wM]
    repeat first | rw [if_pos trivial] | rw [if_pos rfl] | rw [if_neg (by omega)] | simp only [wM] | rw [dropG_ne e3]
    exact hM.hg
  · simp only [wM]
    repeat first | rw [if_pos trivial] | rw [if_pos rfl] | rw [if_neg (by omega)] | simp only [wM]
  · have e := h.fr j g1 g2 g3 g4 g5
    have e5 := h.gP.ne (j := j) (fun f q => g5 f (by rw [← e]; exact q))
    simp only [wM]
    repeat first | rw [if_pos trivial] | rw [if_pos rfl] | rw [if_neg (by omega)] | simp only [wM] | rw [dropG_ne e5]
    exact e

theorem altGo_f : ∀ (l : List Part) (M : Mk) (p : GPr), (altGo l (M, p)).1.lefts = M.lefts ∧ (altGo l (M, p)).1.types = M.types ∧ (altGo l (M, p)).1.nons = M.nons ∧ (altGo l (M, p)).2.prec = p.prec ∧ (altGo l (M, p)).2.left = p.left ∧ M.toks.length ≤ (altGo l (M, p)).1.toks.length ∧ (altGo l (M, p)).1.toks.length ≤ M.toks.length + l.length ∧
    (altGo l (M, p)).2.right.length ≤ p.right.length + l.length ∧ M.inner ≤ (altGo l (M, p)).1.inner ∧ (altGo l (M, p)).1.inner ≤ M.inner + l.length
  | [], M, p => by rw [altGo_nil]; exact ⟨rfl, rfl, rfl, rfl, rfl, Nat.le_refl _, Nat.le_refl _, Nat.le_refl _, Int.le_refl _, by simp⟩
  | w :: r, M, p => by
    rw [altGo_cons]
    obtain ⟨y1, y2, y3, y4, y5, y6, y7, y8⟩ := symM_f M w.sym
    split
    · obtain ⟨h1, h2, h3, h4, h5, h6, h7, h8, h9, h10⟩ := altGo_f r (symM M w.sym).1 { p with right := p.right ++ [(symM M w.sym).2] }
      refine ⟨h1.trans y2, h2.trans y1, h3.trans y4, h4, h5, by omega, by rw [List.length_cons]; omega, ?_, by omega, by rw [List.length_cons]; omega⟩
      simp at h8 ⊢; omega
    · split
      · dsimp only
        exact ⟨rfl, rfl, rfl, rfl, rfl, Nat.le_refl _, by omega, by omega, by omega, by simp; omega⟩
      · obtain ⟨h1, h2, h3, h4, h5, h6, h7, h8, h9, h10⟩ := altGo_f r { M with inner := M.inner + 1, prods := M.prods ++ [{ left := M.lefts.length + (M.inner + 1), prec := -1, code := w.code, args := p.right, at_ := w.at_ }] } { p with right := p.right ++ [1000 + M.lefts.length + (M.inner + 1)] }
        dsimp only at h1 h2 h3 h4 h5 h6 h7 h8 h9 h10
        refine ⟨h1, h2, h3, h4, h5, by omega, by rw [List.length_cons]; omega, ?_, by omega, by rw [List.length_cons]; omega⟩
        simp at h8 ⊢; omega
theorem altM_eq (M : Mk) (n : List UInt8) (a : Alt) (q : Mk × GPr) (P : GPr) (hq : q = altGo a.parts (M, { left := 1 + leftGo n M.lefts 0, prec := -1, at_ := a.at_ })) (hP : P = { q.2 with prec := precGo q.2.right (-1) }) :
    altM M n a = prodM (levM q.1 a.prec P.prec).1 (withP P (levM q.1 a.prec P.prec).2) := by
  subst hq hP
  obtain ⟨ff1, ff2, ff3, ff4, ff5, ff6, ff7, ff8⟩ := failM_f (altGo a.parts (M, { left := 1 + leftGo n M.lefts 0, prec := -1, at_ := a.at_ })).1 a.prec.at_ a.prec.name
  unfold altM levM prodM withP
  dsimp only
  split
  · split
    · rfl
    · rw [ff5]
  · rfl

theorem altE {H : Nat → Option MObj} {next m ti gi : Nat} {vN vP vT vL : V} {M : Mk} {ps : List V} {n : List UInt8} {a : Alt} (hM : MkAt H next m ti gi vN vP vT vL M) (hP : Gr H next 6 ps vP) (heP : ErPL ps (M.prods.map GPr.V)) (b1 : M.toks.length + a.parts.length ≤ 274877906944) (b2 : M.lefts.length ≤ 274877906944) (b3 : a.parts.length ≤ 137438953472) (b4 : ps.length + a.parts.length ≤ 137438953472) (b5 : 0 ≤ M.inner) (b6 : M.inner + a.parts.length ≤ 274877906944) (hx : ∀ w ∈ a.parts, w.sym.lit = true → w.sym.name ≠ []) (hxp : a.prec.lit = true → a.prec.name ≠ []) : ECalls Try.prog 44 [.ptr m 0 0, .str n, a.V] H next (fun _ H' next' => next ≤ next' ∧ (∃ ti' gi' vP' ps', (ti' = ti ∨ next ≤ ti') ∧ (gi' = gi ∨ next ≤ gi') ∧ MkAt H' next' m ti' gi' vN vP' vT vL (altM M n a) ∧ Gr H' next' 6 ps' vP' ∧ ErPL ps' ((altM M n a).prods.map GPr.V) ∧ ps'.length ≤ ps.length + a.parts.length + 1) ∧ FrO H H' next m ti gi) := by
  refine ecalls_intro Try.func44 e44_nm e44_ok (by show 3 ≤ 173; decide) ?_
  show ewp _ e44n61 _ _
  have hm := hM.hm; have lm := hM.lm; have lt := hM.lt; have lg := hM.lg
  have hbd := leftGo_bd n M.lefts 0
  have hz : IntKind.i64.wrap (1 + leftGo n M.lefts 0) = 1 + leftGo n M.lefts 0 := wrap64 (by omega) (by omega)
  show ewp _ (.seq (.reg e44r0) (.seq (.reg e44r1) (.seq e44n28 (.seq e44n43 (.seq e44n53 e44n56))))) _ _
  have tail : ∀ (s : St) (pb : Nat), AAt s H next m ti gi pb vN vP vT vL (.sl 1 true []) ps a ti gi M { left := 1 + leftGo n M.lefts 0, prec := -1, at_ := a.at_ } → ewp Try.prog (.seq e44n28 (.seq e44n43 (.seq e44n53 e44n56))) (HeapPost e44 fun _ H' next' => next ≤ next' ∧ (∃ ti' gi' vP' ps', (ti' = ti ∨ next ≤ ti') ∧ (gi' = gi ∨ next ≤ gi') ∧ MkAt H' next' m ti' gi' vN vP' vT vL (altM M n a) ∧ Gr H' next' 6 ps' vP' ∧ ErPL ps' ((altM M n a).prods.map GPr.V) ∧ ps'.length ≤ ps.length + a.parts.length + 1) ∧ FrO H H' next m ti gi) s := by
    intro s pb hA
    generalize hp0 : ({ left := 1 + leftGo n M.lefts 0, prec := -1, at_ := a.at_ } : GPr) = p0 at hA
    have hr0 : p0.right = [] := by rw [← hp0]
    have hc0 : p0.prec = -1 := by rw [← hp0]
    obtain ⟨h1, h2, h3, h4, h5, h6, h7, h8, h9, h10⟩ := altGo_f a.parts M p0
    rw [hr0, List.length_nil] at h8
    have hpr : (altGo a.parts (M, p0)).1.lefts = M.lefts := h1
    refine partsWalk hA (by omega) (by omega) (by rw [hr0, List.length_nil]; omega) (by omega) b5 (by omega) hx fun s1 vP1 vR1 ps1 ti1 gi1 hA1 hl1 => ?_
    refine precWalk hA1 (by omega) fun s2 hA2 => ?_
    refine levWalk hA2 (by omega) (by rw [h1]; omega) hxp fun s3 ti3 gi3 hA3 => ?_
    refine lastWalk hA3 (by show (altGo a.parts (M, p0)).2.right.length ≤ _; omega) (by omega) fun s4 vP4 ps4 k1 k2 k3 k4 k5 k6 => ?_
    have he := altM_eq M n a (altGo a.parts (M, p0)) { (altGo a.parts (M, p0)).2 with prec := precGo (altGo a.parts (M, p0)).2.right (altGo a.parts (M, p0)).2.prec } (by rw [hp0]) (by rw [h4, hc0])
    refine heap0 rfl (Or.inl rfl) ⟨by have := hA3.ln; have := hA3.lp; omega, ⟨ti3, gi3, vP4, ps4, hA3.it, hA3.ig, ?_, k2, ?_, by omega⟩, k6⟩
    · rw [he]; exact k1
    · rw [he]; exact k3
  generalize (EC.seq e44n28 (.seq e44n43 (.seq e44n53 e44n56))) = F at tail
  repeat' with_reducible first
    | refine ewp_reg_seq ?_
    | simp -implicitDefEqProofs only [wA, Nat.reduceEqDiff, ↓reduceIte, reduceCtorEq, Nat.reduceAdd, Int.cast_ofNat_Int, Int.reduceLT, Int.reduceLE, Int.reduceEq, Int.reduceToNat, decide_true, decide_false, Bool.false_eq_true, hm, hz]
    | (apply callQB2 (hp := yuccaref9_maker_left ?_); (focus (refine (hM.mono (Nat.le_refl _) (fun j hj => ?_)).er; (try simp only [wM]); (repeat rw [if_neg (by omega)]))); (focus exact er_cl); (focus (with_unfolding_all rfl)); (focus exact Flat.int _ _); rotate_left; (focus (first | assumption | omega | (simp only [wZ]; omega) | trivial)))
    | (apply bld_nil)
    | (apply bld_part; (focus with_unfolding_all rfl); (focus with_unfolding_all rfl); (focus with_unfolding_all rfl); (focus ((try simp -implicitDefEqProofs only [wE, Nat.reduceAdd]); rfl)))
    | (apply ldQ_cell; (focus with_unfolding_all rfl))
    | (apply stQ_whole; (focus with_unfolding_all rfl); (focus with_unfolding_all rfl))
    | (apply boxQ_i; (focus with_unfolding_all rfl); (focus with_unfolding_all rfl))
  refine tail _ (next + 1 + 7) ⟨hM.mono (by simp only [wN]; omega) (fun j hj => by simp only [wM]; repeat (first | rw [if_pos trivial] | rw [if_pos rfl] | rw [if_neg (by omega)])), Or.inl rfl, Or.inl rfl, by simp -implicitDefEqProofs only [wL, Nat.reduceEqDiff, ↓reduceIte, reduceCtorEq], by simp -implicitDefEqProofs only [wL, Nat.reduceEqDiff, ↓reduceIte, reduceCtorEq], by simp -implicitDefEqProofs only [wL, Nat.reduceEqDiff, ↓reduceIte, reduceCtorEq], by simp only [wM]; repeat (first | rw [if_pos trivial] | rw [if_pos rfl] | rw [if_neg (by omega)]), by simp only [wM]; repeat (first | rw [if_pos trivial] | rw [if_pos rfl] | rw [if_neg (by omega)]), Gr.nil, hP.mono (by simp only [wN]; omega) (fun id g1 g2 => by simp only [wM]; repeat (first | rw [if_pos trivial] | rw [if_pos rfl] | rw [if_neg (by omega)])), heP, Sep.slL, by omega, by simp only [wN]; omega, fun j g1 g2 g3 g4 g5 => by simp only [wM]; repeat (first | rw [if_pos trivial] | rw [if_pos rfl] | rw [if_neg (by omega)])⟩
end Go.Proofs
