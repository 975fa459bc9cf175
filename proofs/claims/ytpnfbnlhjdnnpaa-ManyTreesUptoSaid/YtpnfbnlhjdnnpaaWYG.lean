/- Part of a proof that a law of the given program answers true. -/
import Derived.Test.YtpnfbnlhjdnnpaaWYF
set_option linter.unusedSimpArgs false
set_option linter.unusedVariables false
set_option maxHeartbeats 4000000
namespace Go.Proofs
open Go.E
theorem ia_intC {K : V → Prop} {n : Nat} {l : Nat → Int} {k : IntKind} {i : Int} (h0 : 0 ≤ i) (h : i.toNat < n) (hk : K (.iptr 1 (vi (l i.toNat)) 0)) : onS (iaddrV 1 (.sl 1 false (intC n l)) (.int k i)) K :=
 ia_slQ (f := fun k => vi (l k)) (l := List.range n) (x := i.toNat) h0 (List.getElem?_range h) hk
theorem phi_hi {c : Nat} (h : 4000 ≤ c) : phi (c + 1) ≤ phi c + 1 := by unfold phi; omega
theorem phi_lo {c : Nat} (h : c < 4000) : phi (c + 1) + 7 = phi c := by unfold phi; omega
theorem node_step {H : Nat → Option MObj} {next wi : Nat} {g : Grammar} {l : Nat → Int} {E : Nat → Bool} {P : List Int} {a c : Nat} {y deep : Int} (hg : GOk g) (hl : IsLow g l) (hE : IsGrow g true E) (IH : c < 4000 → ∀ (H : Nat → Option MObj) (next : Nat) (P : List Int) (a c1 : Nat) (s deep : Int), c + 1 ≤ c1 → NodeIn g l E H next wi P a c1 → NodeS g E s → -(c1 : Int) - 1 ≤ deep → deep ≤ 1000 → ECalls Try.prog 35 [.ptr wi 0 0, vi s, vi deep] H next (NodeQ g l E H next wi P a c1 s)) (hI : NodeIn g l E H next wi P a c) (hS : NodeS g E y) (hd : -(c : Int) - 1 ≤ deep) (hd2 : deep ≤ 1000) : ECalls Try.prog 35 [.ptr wi 0 0, vi y, vi deep] H next (NodeQ g l E H next wi P a c y) := by
 refine ecalls_intro Try.func35 e35_nm e35_ok (by show 3 ≤ 182; decide) ?_
 show ewp _ e35n76 _ _
 obtain ⟨hw, hlw, hPb, hac, hphi⟩ := hI
 have hcb := phi_le hphi
 have hnl := hg.nn2
 have hzc : IntKind.i64.wrap ((c + 1 : Nat) : Int) = ((c + 1 : Nat) : Int) := wrap64 (by omega) (by omega)
 have hza : IntKind.i64.wrap ((a + 1 : Nat) : Int) = ((a + 1 : Nat) : Int) := wrap64 (by omega) (by omega)
 have hza2 : IntKind.i64.wrap (((a + 1 : Nat) : Int) - 1) = (a : Int) := by rw [wrap64 (by omega) (by omega)]; omega
 have W70 := @ndKids
 have W51 := @ndPick
 show ewp _ (.seq (.reg e35r0) (.seq (.reg e35r1) (.seq e35n6 (.seq e35n13 (.seq (.reg e35r14) (.seq (.seq (.reg e35r15) (.cond (.t 60) e35n51 .skip)) e35n70)))))) _ _
 generalize e35n70 = E70 at W70 ⊢
 generalize e35n51 = E51 at W51 ⊢
 by_cases hc : 4000 ≤ c
 · have hph := phi_hi hc
   repeat' with_reducible first
    | refine s_ ?_
    | simp -implicitDefEqProofs only [wZZ, seval, hw, hzc]
    | (refine condQ_j (fun h h_ => ?_) (fun h h_ => ?_) <;> (try simp only [wD, reduceCtorEq] at h_) <;> (try exact wb_) <;> (try simp only [h]))
    | (apply bld_nil)
    | (apply ldQ_cell; (exact wu_))
    | (apply stQ_whole; (exact wu_); (exact wu_))
    | (apply stQ_cell; (exact wu_); (exact wu_); (exact wu_); (exact wf_))
    | simp -implicitDefEqProofs (disch := omega) only [w64, if_neg]
   refine heapM (t := 6) (id := next) (ro := false) rfl (Or.inr rfl) (by (simp -implicitDefEqProofs only [wL, seval])) (by ((try simp only [wM]); (repeat first | rw [if_pos trivial] | rw [if_pos rfl] | rw [if_neg (by omega)]))) rfl ⟨by ((try simp only [wN]) <;> omega), ⟨P, a, c + 1, by ((try simp only [wM]); (repeat first | rw [if_pos trivial] | rw [if_pos rfl] | rw [if_neg (by omega)])), by omega, hph, by omega, Nat.le_refl _, .mk 0 0 0 [], ⟨.sl 4 true [], rfl, rfl, rfl, rfl, .sl 4 true [] [] rfl (by simp)⟩, fun h => by omega⟩, fun j h1 h2 => by ((try simp only [wM]); (repeat first | rw [if_pos trivial] | rw [if_pos rfl] | rw [if_neg (by omega)]))⟩
 · have hph := phi_lo (c := c) (by omega)
   by_cases hs : y < 1000
   · repeat' with_reducible first
      | refine s_ ?_
      | simp -implicitDefEqProofs only [wZZ, seval, hw, hzc, hza, hza2]
      | (refine condQ_j (fun h h_ => ?_) (fun h h_ => ?_) <;> (try simp only [wD, reduceCtorEq] at h_) <;> (try exact wb_) <;> (try simp only [h]))
      | (apply bld_nil)
      | (apply bld_part; (exact wu_); (exact wu_); (exact wu_); (focus ((try simp -implicitDefEqProofs only [wE, Nat.reduceAdd]); rfl)))
      | (apply ldQ_cell; (exact wu_))
      | (apply stQ_whole; (exact wu_); (exact wu_))
      | (apply stQ_cell; (exact wu_); (exact wu_); (exact wu_); (exact wf_))
      | simp -implicitDefEqProofs (disch := omega) only [w64, if_neg]
     refine heapM (t := 6) (id := next) (ro := false) rfl (Or.inr rfl) (by (simp -implicitDefEqProofs only [wL, seval])) (by ((try simp only [wM]); (repeat first | rw [if_pos trivial] | rw [if_pos rfl] | rw [if_neg (by omega)]))) rfl ⟨by ((try simp only [wN]) <;> omega), ⟨P, a + 1, c + 1, by ((try simp only [wM]); (repeat first | rw [if_pos trivial] | rw [if_pos rfl] | rw [if_neg (by omega)])), by omega, by omega, by omega, Nat.le_refl _, .mk y (-1) a [], ⟨.sl 4 true [], rfl, rfl, rfl, rfl, .sl 4 true [] [] rfl (by simp)⟩, fun _ => ⟨by rw [Nd.size, Nd.sizes]; omega, 1, Or.inl ⟨hs, rfl, trivial, rfl⟩⟩⟩, fun j h1 h2 => by ((try simp only [wM]); (repeat first | rw [if_pos trivial] | rw [if_pos rfl] | rw [if_neg (by omega)]))⟩
   · obtain ⟨k, rfl, hk, hEk⟩ : ∃ k : Nat, y = 1000 + (k : Int) ∧ k < g.nons.length ∧ E k = true := by
      rcases hS with h | h
      · exact absurd h hs
      · exact h
     obtain ⟨m0, p0, hm0, hm1, hm2, hm3⟩ := hl.get hE hg hk hEk
     have hzk : IntKind.i64.wrap (1000 + (k : Int) - 1000) = (k : Int) := by rw [wrap64 (by omega) (by omega)]; omega
     have fin : ∀ (s1 : St) (m : Nat) (p : GPr) (P1 : List Int) (Q : Exit → St → Prop), s1.f 0 = .ptr wi 0 0 → s1.f 1 = vi (1000 + (k : Int)) → s1.f 2 = vi deep → s1.f 6 = .ptr next 0 0 → s1.f 7 = vi m → s1.H wi = some (.own 10 [grV g l E P1 a (c + 1)] false) → (∃ x1 x2 x3 x4, s1.H next = some (.own 4 [.agg [x1, x2, x3, x4]] false)) → wi < s1.next → next < s1.next → g.prods[m]? = some p → p.left = (k : Int) → fitsB true E p.right = true → P1.length ≤ P.length → (∀ j, j < next → j ≠ wi → s1.H j = H j) → next ≤ s1.next →
      (∀ s', HeapPost e35 (NodeQ g l E H next wi P a c (1000 + (k : Int))) .ret s' → Q .ret s') → ewp Try.prog E70 Q s1 := by
      intro s1 m p P1 Q q0 q1 q2 q6 q7 qw qn ql qm qp qpl qf qP qH qN qQ
      refine W70 (p := p) (P := P1) (a := a) (c := c + 1) (wi := wi) (k := k) (m := m) (r6 := next) (l := l) (E := E) hg (IH (by omega)) q0 q1 q2 q6 q7 qw qn (by omega) ql qm qp qpl qf (by omega) (by omega) (by omega) (by omega) (by omega) hd2 (fun s' v P' a' c' t r1 r2 r3 r4 r5 r6 r7 r8 r9 r10 r11 => qQ s' ?_)
      refine heapM (t := 6) (id := next) (ro := false) rfl (Or.inr rfl) r1 r2 (by obtain ⟨kv, rfl, _⟩ := r3; rfl) ⟨by omega, ⟨P', a', c', r4, by omega, by omega, r7, by omega, t, r3, fun hc' => ?_⟩, fun j h1 h2 => (r10 j (by omega) h2 (by omega)).trans (qH j h1 h2)⟩
      obtain ⟨u1, u2⟩ := r9 hc'
      exact ⟨by omega, u2⟩
     by_cases hpk : 0 < P.length ∧ 0 < deep
     · repeat' with_reducible first
        | refine s_ ?_
        | simp -implicitDefEqProofs only [wZZ, seval, hw, hzc, hzk, hm0]
        | (refine condQ_j (fun h h_ => ?_) (fun h h_ => ?_) <;> (try simp only [wD, reduceCtorEq] at h_) <;> (try exact wb_) <;> (try simp only [h]))
        | ((first | refine gdQ_iT (fun h => ?_) (fun h => ?_) | refine gdQ_iF (fun h => ?_) (fun h => ?_)) <;> have h_ := h <;> (try simp only [wD, reduceCtorEq] at h_) <;> (try exact wb_) <;> (try simp only [h]))
        | (refine ia_intC (by omega) (by omega) ?_)
        | (apply ldQ_cell; (exact wu_))
        | (apply stQ_cell; (exact wu_); (exact wu_); (exact wu_); (exact wf_))
        | simp -implicitDefEqProofs (disch := omega) only [w64, if_neg]
       refine W51 (P := P) (a := a) (c := c + 1) (wi := wi) (k := k) (l := l) (E := E) hg (by (simp -implicitDefEqProofs only [wL, seval])) (by (simp -implicitDefEqProofs only [wL, seval])) (by ((try simp only [wM]); (repeat first | rw [if_pos trivial] | rw [if_pos rfl] | rw [if_neg (by omega)]))) (by ((try simp only [wN]) <;> omega)) hk ⟨m0, p0, hm1, hm2, hm3⟩ hpk.1 hPb (fun s2 m p r7 u1 u2 u3 u4 u5 v0 v1 v2 v6 uN => ?_)
       (try simp only [wN] at u5 uN)
       repeat' with_reducible first
        | refine xt_n ?_
       refine fin s2 m p (P.drop 1) _ (v0.trans (by (simp -implicitDefEqProofs only [wL, seval]))) (v1.trans (by (simp -implicitDefEqProofs only [wL, seval]))) (v2.trans (by (simp -implicitDefEqProofs only [wL, seval]))) (v6.trans (by (simp -implicitDefEqProofs only [wL, seval]))) r7 u4 ⟨_, _, _, _, (u5 next (by omega) (by omega)).trans (by ((try simp only [wM]); (repeat first | rw [if_pos trivial] | rw [if_pos rfl] | rw [if_neg (by omega)])))⟩ (by omega) (by omega) u1 u2 u3 (by rw [List.length_drop]; omega) (fun j h1 h2 => (u5 j (by omega) h2).trans (by ((try simp only [wM]); (repeat first | rw [if_pos trivial] | rw [if_pos rfl] | rw [if_neg (by omega)])))) (by omega) (fun s' h => h)
     · repeat' with_reducible first
        | refine s_ ?_
        | simp -implicitDefEqProofs only [wZZ, seval, hw, hzc, hzk, hm0]
        | (refine condQ_j (fun h h_ => ?_) (fun h h_ => ?_) <;> (try simp only [wD, reduceCtorEq] at h_) <;> (try exact wb_) <;> (try simp only [h]))
        | ((first | refine gdQ_iT (fun h => ?_) (fun h => ?_) | refine gdQ_iF (fun h => ?_) (fun h => ?_)) <;> have h_ := h <;> (try simp only [wD, reduceCtorEq] at h_) <;> (try exact wb_) <;> (try simp only [h]))
        | (refine ia_intC (by omega) (by omega) ?_)
        | (apply ldQ_cell; (exact wu_))
        | (apply stQ_cell; (exact wu_); (exact wu_); (exact wu_); (exact wf_))
        | simp -implicitDefEqProofs (disch := omega) only [w64, if_neg]
       all_goals exact fin _ m0 p0 P _ (by (simp -implicitDefEqProofs only [wL, seval])) (by (simp -implicitDefEqProofs only [wL, seval])) (by (simp -implicitDefEqProofs only [wL, seval])) (by (simp -implicitDefEqProofs only [wL, seval])) (by (simp -implicitDefEqProofs only [wL, seval])) (by ((try simp only [wM]); (repeat first | rw [if_pos trivial] | rw [if_pos rfl] | rw [if_neg (by omega)]))) ⟨_, _, _, _, by ((try simp only [wM]); (repeat first | rw [if_pos trivial] | rw [if_pos rfl] | rw [if_neg (by omega)]))⟩ (by ((try simp only [wN]) <;> omega)) (by ((try simp only [wN]) <;> omega)) hm1 hm2 hm3 (Nat.le_refl _) (fun j h1 h2 => by ((try simp only [wM]); (repeat first | rw [if_pos trivial] | rw [if_pos rfl] | rw [if_neg (by omega)]))) (by ((try simp only [wN]) <;> omega)) (fun s' h => h)
theorem node_all {g : Grammar} {l : Nat → Int} {E : Nat → Bool} (hg : GOk g) (hl : IsLow g l) (hE : IsGrow g true E) (wi : Nat) : ∀ (F : Nat) (H : Nat → Option MObj) (next : Nat) (P : List Int) (a c : Nat) (s deep : Int), 4000 ≤ c + F → NodeIn g l E H next wi P a c → NodeS g E s → -(c : Int) - 1 ≤ deep → deep ≤ 1000 → ECalls Try.prog 35 [.ptr wi 0 0, vi s, vi deep] H next (NodeQ g l E H next wi P a c s)
 | 0, H, next, P, a, c, s, deep, hF, hI, hS, h1, h2 => node_step hg hl hE (fun h => by omega) hI hS h1 h2
 | F + 1, H, next, P, a, c, s, deep, hF, hI, hS, h1, h2 => node_step hg hl hE (fun _ H next P a c1 s deep hc hI hS h1 h2 => node_all hg hl hE wi F H next P a c1 s deep (by omega) hI hS h1 h2) hI hS h1 h2

theorem postM2 {ef : EF} {t u n id : Nat} {ag ro : Bool} {v w res : V} {e : Exit} {s : St} (he : ef.res = [.inr (t, ag, n), .inl u]) (hx : e = .normal ∨ e = .ret) (hp : s.f t = .ptr id 0 0) (hH : s.H id = some (.own n [v] ro)) (ha : v.isAgg = ag) (hu : s.f u = w)
 (h : Er true s.H (.tup [v, w]) res) : PurePost ef res e s := by
 have hv : loadV s ag n (s.f t) = some v := by
  rw [hp]
  simp only [loadV, hH, List.getElem?_cons_zero, partE, ha, and_self, if_true]
 exact ⟨hx, _, by rw [he]; simp [resV, resL, hv, one, hu], h⟩
def GrowG (g : Grammar) (k : Nat) (v : V) : Prop := ∃ (t : Nd) (ok : Bool), v = .tup [t.V, .bool ok] ∧ (ok = true → t.size ≤ 4000 ∧ ∃ d j, TreeD g anyW d (1000 + (k : Int)) 0 j t)
theorem grow_ex {g : Grammar} {k : Nat} {P : List Int} (hg : GOk g) (hP : P.length ≤ 1099511627776) (hk : ∃ p r, g.prods = p :: r ∧ p.right = [1000 + (k : Int)]) (hkn : k < g.nons.length) : ∃ v, GrowG g k v ∧ Pure Try.prog 17 [g.V, .sl 1 false (P.map (V.int .i64))] v := by
 refine pure_ex Try.func17 e17_nm e17_ok (by show 2 ≤ 40; decide) ?_
 show ewp _ e17n15 _ _
 obtain ⟨p, r, hpr, hpR⟩ := hk
 obtain ⟨l, hl, plow⟩ := ref_lowest hg
 obtain ⟨E, hE, pvain⟩ := yuccaref9_Vain hg
 have hvl := vainL_len g.nons.length E
 have hnl := hg.nn2
 have hgp : g.prods[0]? = some p := by rw [hpr]; rfl
 obtain ⟨pl, pr, pc, pco, pa, pat⟩ := p
 dsimp only at hpR
 subst hpR
 have hg0 : [1000 + (k : Int)][0]? = some (1000 + (k : Int)) := rfl
 have hhas := yuccaref0_Has (a := vainL g.nons.length E) (x := 1000 + (k : Int)) (by omega)
 rw [vain_dec (Or.inr ⟨k, rfl, hkn⟩), if_neg (by omega), show (1000 + (k : Int) - 1000).toNat = k by omega] at hhas
 have hvc := vainL_len g.nons.length E
 have hic := intC_cls g.nons.length l
 cases hEk : E k with
 | false =>
   rw [hEk] at hhas
   repeat' with_reducible first
    | refine s_ ?_
    | simp -implicitDefEqProofs only [wZZ, seval]
    | (apply callQ1 (hp := plow); (focus exact er_cl))
    | (apply callQ1 (hp := pvain); (focus exact er_cl))
    | (apply ia_slQ; (focus omega); (focus with_unfolding_all exact hgp))
    | (with_unfolding_all (refine ia_slQ (f := V.int .i64) (l := [1000 + (k : Int)]) (x := 1000 + (k : Int)) (by omega) rfl ?_))
    | (apply callQ2 (hp := hhas); (focus exact er_cl); (focus exact er_cl))
    | (apply bld_nil)
    | (apply bld_part; (exact wu_); (exact wu_); (exact wu_); (focus ((try simp -implicitDefEqProofs only [wE, Nat.reduceAdd]); rfl)))
    | (apply ldQ_whole)
    | (apply ldQ_cell; (exact wu_))
    | (apply ld_ipQ; (exact wu_))
    | (apply stQ_whole; (exact wu_); (exact wu_))
    | (apply boxQ_i; (exact wu_); (exact wu_))
   exact ⟨_, ⟨.mk 0 0 0 [], false, rfl, fun h => (by cases h)⟩, postM2 (t := 4) (u := 5) (id := 1) (n := 4) (ro := false) (ag := true) (v := .agg [.int .i64 0, .int .i64 0, .int .i64 0, .sl 4 true []]) (w := .bool false) rfl (Or.inr rfl) (by (simp -implicitDefEqProofs only [wL, seval])) (by ((try simp only [wM]); (repeat first | rw [if_pos trivial] | rw [if_pos rfl] | rw [if_neg (by omega)]))) rfl (by (simp -implicitDefEqProofs only [wL, seval])) (ErL.tup (.cons (NdAt_er (t := .mk 0 0 0 []) ⟨.sl 4 true [], rfl, rfl, rfl, rfl, .sl 4 true [] [] rfl (by simp)⟩) (.cons (.bool _) .nil)))⟩
 | true =>
   rw [hEk] at hhas
   have hno := node_all hg hl hE 10 4000
   repeat' with_reducible first
    | refine s_ ?_
    | simp -implicitDefEqProofs only [wZZ, seval]
    | (apply callQ1 (hp := plow); (focus exact er_cl))
    | (apply callQ1 (hp := pvain); (focus exact er_cl))
    | (apply ia_slQ; (focus omega); (focus with_unfolding_all exact hgp))
    | (with_unfolding_all (refine ia_slQ (f := V.int .i64) (l := [1000 + (k : Int)]) (x := 1000 + (k : Int)) (by omega) rfl ?_))
    | (apply callQ2 (hp := hhas); (focus exact er_cl); (focus exact er_cl))
    | (apply bld_nil)
    | (apply bld_part; (exact wu_); (exact wu_); (exact wu_); (focus ((try simp -implicitDefEqProofs only [wE, Nat.reduceAdd]); rfl)))
    | (apply ldQ_whole)
    | (apply ldQ_cell; (exact wu_))
    | (apply ld_ipQ; (exact wu_))
    | (apply boxQ_i; (exact wu_); (exact wu_))
   refine callQWc rfl rfl rfl ((hno _ _ P 0 0 (1000 + (k : Int)) 20 (by omega) ⟨by ((try simp only [wM]); (repeat first | rw [if_pos trivial] | rw [if_pos rfl] | rw [if_neg (by omega)])); rfl, by ((try simp only [wN]) <;> omega), hP, by omega, by decide⟩ (Or.inr ⟨k, rfl, hkn, hEk⟩) (by omega) (by omega)).mono ?_)
   rintro v1 H1 n1' ⟨q1, ⟨P2, a2, c2, q2, q3, q4, q5, q6, t, ⟨kv, rfl, k1, k2, k3, k4⟩, q8⟩, q9⟩
   (try simp only [wN] at q1)
   have q9' : ∀ j, j < 12 → j ≠ 10 → j = 1 → H1 j = some (.own 4 [.agg [.int .i64 0, .int .i64 0, .int .i64 0, .sl 4 true []]] false) := fun j h1 h2 h3 => by
    subst h3
    rw [q9 1 (by ((try simp only [wN]) <;> omega)) (by omega)]
    ((try simp only [wM]); (repeat first | rw [if_pos trivial] | rw [if_pos rfl] | rw [if_neg (by omega)]))
   have q91 := q9' 1 (by omega) (by omega) rfl
   repeat' with_reducible first
    | refine s_ ?_
    | simp -implicitDefEqProofs only [wZZ, seval, q2, q91]
    | (refine And.intro ?_ ?_; (focus (first | with_unfolding_all rfl | exact congrArg some (labT (by first | omega | (simp only [List.length_set]; omega))))))
    | (apply ldQ_whole)
    | (apply ldQ_cell; (exact wu_))
    | (apply stQ_whole; (exact wu_); (exact wu_))
   exact ⟨_, ⟨t, decide (c2 ≤ 4000), rfl, fun h => (by
    have h := of_decide_eq_true h
    obtain ⟨u1, d, u2⟩ := q8 h
    exact ⟨by omega, d, a2, u2⟩)⟩, postM2 (t := 4) (u := 5) (id := 1) (n := 4) (ro := false) (ag := true) (v := .agg [vi t.sym, vi t.prod, vi t.at_, kv]) (w := .bool (decide ((c2 : Int) ≤ 4000))) rfl (Or.inr rfl) (by (simp -implicitDefEqProofs only [wL, seval])) (by ((try simp only [wM]); (repeat first | rw [if_pos trivial] | rw [if_pos rfl] | rw [if_neg (by omega)]))) rfl (by (simp -implicitDefEqProofs only [wL, seval])) (ErL.tup (.cons (NdAt_er ⟨kv, rfl, k1, k2, k3, k4⟩) (.cons (er_bool (by rw [Bool.eq_iff_iff, decide_eq_true_eq, decide_eq_true_eq]; omega)) .nil)))⟩
end Go.Proofs
