/- Part of a proof that a law of the given program answers true. -/
import Derived.Test.YtpnfbnlhjdnnpaaWHC
set_option linter.unusedSimpArgs false
set_option linter.unusedVariables false
set_option maxHeartbeats 4000000
namespace Go.Proofs
open Go.E
structure Cnt (g : Grammar) (nn : Nat) : Prop where
 nl : g.nons.length = nn
 nb : nn ≤ 1000000
 pb : g.prods.length ≤ 1000000
 pl : ∀ p ∈ g.prods, ∃ l : Nat, p.left = l ∧ l < nn
 pr : ∀ p ∈ g.prods, ∀ s ∈ p.right, s < 1000 ∨ ∃ k : Nat, s = 1000 + (k : Int) ∧ k < nn
 rb : ∀ p ∈ g.prods, p.right.length ≤ 1000000
theorem span1 {s0 : St} {g : Grammar} {w : List Int} {nn i j m ni is : Nat} {T : Tbl} {Q : Exit → St → Prop} (hg : Cnt g nn) (f0 : s0.f 0 = .ptr m 0 0) (f1 : s0.f 1 = vi i) (f2 : s0.f 2 = vi j) (f7 : s0.f 7 = .msl is 1 0 nn)
 (hm : s0.H m = some (.own 7 [cntC g w ni nn] false)) (hn : s0.H ni = some (.own 625 (tabV nn T) false)) (hs : s0.H is = some (.own 1 (sumC nn (fun _ => 0)) false)) (lm : m < s0.next) (ln : ni < s0.next) (ls : is < s0.next) (e1 : is ≠ m) (e2 : is ≠ ni)
 (hij : i ≤ j) (hj : j ≤ 24) (hjw : j ≤ w.length) (hw : w.length ≤ 24) (hT : ∀ k a b, T k a b ≤ 2)
 (hQ : ∀ s', s'.H is = some (.own 1 (sumC nn (sumP T g.prods w i j)) false) → (∀ id, id < s0.next → id ≠ is → s'.H id = s0.H id) → (∀ t, t < 9 → s'.f t = s0.f t) → s0.next ≤ s'.next → Q .normal s') : ewp Try.prog e29n22 Q s0 := by
 have hpb := hg.pb
 repeat' with_reducible first
  | refine s_ ?_
  | simp -implicitDefEqProofs only [wZZ, seval, f0, f1, f2, f7, hm]
  | (apply ldQ_cell; (exact wu_))
 refine ewp_loopN ?nx2 (fun (q : Nat) s => s.f 0 = ?v2_0 ∧ s.f 1 = ?v2_1 ∧ s.f 2 = ?v2_2 ∧ s.f 6 = ?v2_6 ∧ s.f 7 = ?v2_7 ∧ s.f 24 = ?v2_24 ∧ s.f 25 = ?v2_25 ∧ s.f 26 = vi q ∧ (q ≤ g.prods.length) ∧ ((s.H is = some (MObj.own 1 (sumC nn (sumP T (g.prods.take q) w i j)) false))) ∧ ((∀ id, id < s0.next → id ≠ is → s.H id = s0.H id)) ∧ ((∀ t, t < 9 → s.f t = s0.f t))) (fun q => g.prods.length - q) (0) wj_ (by refine ⟨?_, ?_, ?_, ?_, ?_, ?_, ?_, ?_, (by first | omega | (simp; done) | assumption), (by simp only [wM]; rw [List.take_zero]; exact hs), (by intro id h1 h2; simp only [wM]), (by intro t h1; simp only [wL]; repeat (first | rw [if_pos trivial] | rw [if_pos rfl] | rw [if_neg (by omega)]))⟩ <;> first | (simp -implicitDefEqProofs only [wL, wM, wN, wX, seval, Option.some.injEq] <;> exact wt_) | rfl | exact ⟨_, rfl⟩) ?_
 intro q s hnx ⟨g0, g1, g2, g6, g7, g24, g25, g26, k2_0, k2_1, k2_2, k2_3⟩
 have os := k2_1
 have om : s.H m = some (.own 7 [cntC g w ni nn] false) := by rw [k2_2 m lm (fun e => e1 e.symm)]; exact hm
 have on : s.H ni = some (.own 625 (tabV nn T) false) := by rw [k2_2 ni ln (fun e => e2 e.symm)]; exact hn
 by_cases hq : q < g.prods.length
 · obtain ⟨lf, hl1, hl2⟩ := hg.pl _ (List.getElem_mem hq)
   have hpr := hg.pr _ (List.getElem_mem hq); have hrb := hg.rb _ (List.getElem_mem hq)
   have hnb := hg.nb
   have htk : g.prods.take (q + 1) = g.prods.take q ++ [g.prods[q]] := by rw [List.take_add_one, List.getElem?_eq_getElem hq]; rfl
   have hst : sumP T (g.prods.take (q + 1)) w i j = upd (sumP T (g.prods.take q) w i j) lf (min 2 (sumP T (g.prods.take q) w i j lf + waysN T w g.prods[q].right i j)) := by
    rw [htk, sumP_snoc]; unfold sumS; rw [hl1]; rfl
   have hzq : IntKind.i64.wrap ((q + 1 : Nat) : Int) = ((q + 1 : Nat) : Int) := wrap64 (by omega) (by omega)
   have hS := sumP_le T (g.prods.take q) w i j lf
   have hW : waysN T w g.prods[q].right i j ≤ 2 := (waysV_le T w i g.prods[q].right).1 j
   have hz2 : IntKind.i64.wrap (((sumP T (g.prods.take q) w i j lf : Nat) : Int) + ((waysN T w g.prods[q].right i j : Nat) : Int)) = ((sumP T (g.prods.take q) w i j lf + waysN T w g.prods[q].right i j : Nat) : Int) := by rw [wrap64 (by omega) (by omega)]; omega
   have hmn := min2_nat (sumP T (g.prods.take q) w i j lf + waysN T w g.prods[q].right i j)
   by_cases hlt : sumP T (g.prods.take q) w i j lf < 2
   · repeat' with_reducible first
      | refine s_ ?_
      | simp -implicitDefEqProofs only [wZZ, seval, g0, g1, g2, g6, g7, g24, g25, g26, f0, f1, f2, f7, om, os, hl1, hzq, hz2, st_min2, min2_ii, hmn]
      | (refine condQ_j (fun h h_ => ?_) (fun h h_ => ?_) <;> (try simp only [wD, reduceCtorEq] at h_) <;> (try exact wb_) <;> (try simp only [h]))
      | (refine ld1 hl2 ?_)
      | (apply ia_slQ; (focus omega); (exact wd_))
      | (apply ia_mslQ; (focus omega); (exact wf_))
      | (apply ldQ_cell; (exact wu_))
      | (apply stQ_whole; (exact wu_); (exact wu_))
      | simp -implicitDefEqProofs (disch := omega) only [w64, if_neg]
     refine callQB4 (x' := .iptr 7 (cntV g w nn T) 0) (hp := many_counter_ways (T := T) (w := w) (nn := nn) (g := g) hij hj hjw hw hpr hnb hrb hT) ?_ er_cl er_cl er_cl ?_ ?_ ?_
     · refine cnt_er (ni := ni) ?_ ?_
       · simp only [wM]
         repeat rw [if_neg (by omega)]
         exact om
       · simp only [wM]
         repeat rw [if_neg (by omega)]
         exact on
     · rfl
     · exact Flat.int _ _
     repeat' with_reducible first
      | refine s_ ?_
      | simp -implicitDefEqProofs only [wZZ, seval, g0, g1, g2, g6, g7, g24, g25, g26, f0, f1, f2, f7, om, os, hl1, hzq, hz2, st_min2, min2_ii, hmn]
      | (refine st1 hl2 ?_)
      | (apply ia_mslQ; (focus omega); (exact wf_))
      | simp -implicitDefEqProofs (disch := omega) only [w64, if_neg]
     refine ⟨wk_, q + 1, (by omega), ?_⟩
     refine ⟨?_, ?_, ?_, ?_, ?_, ?_, ?_, ?_, ?_, ?_, ?_, ?_⟩
     iterate 8 (focus (first | (simp -implicitDefEqProofs only [wL, wM, wN, wX, seval, Option.some.injEq, g0, g1, g2, g6, g7, g24, g25, g26, hl1] <;> exact wt_) | rfl | exact ⟨_, rfl⟩))
     all_goals try omega
     · exact congrArg some (congrArg (fun c => MObj.own 1 c false) (congrArg (sumC nn) hst.symm))
     · intro id h1 h2
       repeat rw [if_neg (by omega)]
       exact k2_2 id h1 h2
     · intro t h1
       repeat rw [if_neg (by omega)]
       exact k2_3 t h1
   · have hst2 : sumP T (g.prods.take (q + 1)) w i j = sumP T (g.prods.take q) w i j := by
      rw [hst]; funext k; unfold upd; split
      · rename_i e; subst e; omega
      · rfl
     repeat' with_reducible first
      | refine s_ ?_
      | simp -implicitDefEqProofs only [wZZ, seval, g0, g1, g2, g6, g7, g24, g25, g26, f0, f1, f2, f7, om, os, hl1, hzq, hz2, st_min2, min2_ii, hmn]
      | (refine condQ_j (fun h h_ => ?_) (fun h h_ => ?_) <;> (try simp only [wD, reduceCtorEq] at h_) <;> (try exact wb_) <;> (try simp only [h]))
      | (refine ld1 hl2 ?_)
      | (apply ia_slQ; (focus omega); (exact wd_))
      | (apply ia_mslQ; (focus omega); (exact wf_))
      | (apply ldQ_cell; (exact wu_))
      | (apply stQ_whole; (exact wu_); (exact wu_))
      | simp -implicitDefEqProofs (disch := omega) only [w64, if_neg]
     refine ⟨wk_, q + 1, (by omega), ?_⟩
     refine ⟨?_, ?_, ?_, ?_, ?_, ?_, ?_, ?_, ?_, ?_, ?_, ?_⟩
     iterate 8 (focus (first | (simp -implicitDefEqProofs only [wL, wM, wN, wX, seval, Option.some.injEq, g0, g1, g2, g6, g7, g24, g25, g26, hl1] <;> exact wt_) | rfl | exact ⟨_, rfl⟩))
     all_goals try omega
     · rw [hst2]
       repeat rw [if_neg (by omega)]
     · intro id h1 h2
       repeat rw [if_neg (by omega)]
       exact k2_2 id h1 h2
     · intro t h1
       repeat rw [if_neg (by omega)]
       exact k2_3 t h1
 · have eq : q = g.prods.length := by omega
   subst eq
   rw [List.take_length] at k2_1
   repeat' with_reducible first
    | refine s_ ?_
    | simp -implicitDefEqProofs only [wZZ, seval, g0, g1, g2, g6, g7, g24, g25, g26, f0]
   refine hQ _ ?_ ?_ ?_ ?_
   · simp only [wM]; exact k2_1
   · intro id h1 h2; simp only [wM]; exact k2_2 id h1 h2
   · intro t h1; simp only [wL]; rw [if_neg (by omega)]; exact k2_3 t h1
   · simp only [wN] <;> omega

def mixN (S : Nat → Nat) (T : Tbl) (i j q : Nat) : Tbl := fun k a b => if k < q ∧ a = i ∧ b = j then S k else T k a b
def chg (S : Nat → Nat) (T : Tbl) (i j q : Nat) : Bool := (List.range q).any fun k => S k != T k i j
theorem chg_suc (S : Nat → Nat) (T : Tbl) (i j q : Nat) : chg S T i j (q + 1) = (chg S T i j q || S q != T q i j) := by unfold chg; rw [List.range_succ, List.any_append]; simp
theorem chg_f {S : Nat → Nat} {T : Tbl} {i j n : Nat} (h : chg S T i j n = false) : ∀ k, k < n → S k = T k i j := by
 intro k hk
 unfold chg at h
 have := List.any_eq_false.1 h k (List.mem_range.2 hk)
 simpa using this
theorem chg_t {S : Nat → Nat} {T : Tbl} {i j n : Nat} (h : chg S T i j n = true) : ∃ k, k < n ∧ S k ≠ T k i j := by
 unfold chg at h
 obtain ⟨k, hk, h2⟩ := List.any_eq_true.1 h
 exact ⟨k, List.mem_range.1 hk, by simpa using h2⟩
theorem mix_0 (S : Nat → Nat) (T : Tbl) (i j : Nat) : mixN S T i j 0 = T := by funext k a b; unfold mixN; rw [if_neg (by omega)]
theorem mix_suc (S : Nat → Nat) (T : Tbl) (i j q : Nat) : updT (mixN S T i j q) q i j (S q) = mixN S T i j (q + 1) := by
 funext k a b
 unfold updT mixN
 by_cases h1 : k = q ∧ a = i ∧ b = j
 · rw [if_pos h1, if_pos (by omega), h1.1]
 · rw [if_neg h1]
   by_cases h2 : k < q ∧ a = i ∧ b = j
   · rw [if_pos h2, if_pos (by omega)]
   · rw [if_neg h2, if_neg (by omega)]
theorem mix_at (S : Nat → Nat) (T : Tbl) (i j q : Nat) : mixN S T i j q q i j = T q i j := by unfold mixN; rw [if_neg (by omega)]
theorem ldMo {K : V → Prop} {nn k a b o : Nat} {T : Tbl} {ro : Bool} (h : k < nn) (ha : a < 25) (hb : b < 25) (ho : o = a * 25 + b) (hk : K (vi (T k a b))) : onS (ldQ (some (.own 625 (tabV nn T) ro)) false 1 k o) K := by subst ho; exact ldM h ha hb hk
theorem stMo {K : St → Prop} {s : St} {nn k a b x id o : Nat} {T : Tbl} (h : k < nn) (ha : a < 25) (hb : b < 25) (ho : o = a * 25 + b) (hk : K (s.setO id (some (.own 625 (tabV nn (updT T k a b x)) false)))) : onS (stQ s (some (.own 625 (tabV nn T) false)) 1 id k o (vi x)) K := by subst ho; exact stM h ha hb hk
theorem span2 {s0 : St} {g : Grammar} {w : List Int} {nn i j m ni is : Nat} {T : Tbl} {S : Nat → Nat} {Q : Exit → St → Prop} (hnb : nn ≤ 1000000) (f0 : s0.f 0 = .ptr m 0 0) (f1 : s0.f 1 = vi i) (f2 : s0.f 2 = vi j) (f6 : s0.f 6 = .bool false) (f7 : s0.f 7 = .msl is 1 0 nn)
 (hm : s0.H m = some (.own 7 [cntC g w ni nn] false)) (hn : s0.H ni = some (.own 625 (tabV nn T) false)) (hs : s0.H is = some (.own 1 (sumC nn S) false)) (lm : m < s0.next) (ln : ni < s0.next) (ls : is < s0.next) (e1 : is ≠ m) (e2 : is ≠ ni) (e3 : m ≠ ni)
 (hi : i < 25) (hj : j < 25)
 (hQ : ∀ s', s'.H ni = some (.own 625 (tabV nn (mixN S T i j nn)) false) → (∀ id, id < s0.next → id ≠ ni → s'.H id = s0.H id) → (∀ t, t < 6 → s'.f t = s0.f t) → s'.f 6 = .bool (chg S T i j nn) → s0.next ≤ s'.next → Q .normal s') : ewp Try.prog e29n38 Q s0 := by
 repeat' with_reducible first
  | refine s_ ?_
  | simp -implicitDefEqProofs only [wZZ, seval, f0, f1, f2, f7, hm]
 refine ewp_loopN ?nx3 (fun (q : Nat) s => s.f 0 = ?v3_0 ∧ s.f 1 = ?v3_1 ∧ s.f 2 = ?v3_2 ∧ s.f 54 = ?v3_54 ∧ s.f 55 = ?v3_55 ∧ s.f 56 = vi q ∧ (q ≤ nn) ∧ ((s.H ni = some (MObj.own 625 (tabV nn (mixN S T i j q)) false))) ∧ ((∀ id, id < s0.next → id ≠ ni → s.H id = s0.H id)) ∧ ((∀ t, t < 6 → s.f t = s0.f t)) ∧ (s.f 6 = V.bool (chg S T i j q) )) (fun q => nn - q) (0) wj_ (by refine ⟨?_, ?_, ?_, ?_, ?_, ?_, (by first | omega | (simp; done) | assumption), (by simp only [wM]; rw [mix_0]; exact hn), (by intro id h1 h2; simp only [wM]), (by intro t h1; simp only [wL]; repeat (first | rw [if_pos trivial] | rw [if_pos rfl] | rw [if_neg (by omega)])), (by (try simp -implicitDefEqProofs only [wL, wM, wN, seval]); exact f6)⟩ <;> first | (simp -implicitDefEqProofs only [wL, wM, wN, wX, seval, Option.some.injEq] <;> exact wt_) | rfl | exact ⟨_, rfl⟩) ?_
 intro q s hnx ⟨g0, g1, g2, g54, g55, g56, k3_0, k3_1, k3_2, k3_3, g6⟩
 have on := k3_1
 have om : s.H m = some (.own 7 [cntC g w ni nn] false) := by rw [k3_2 m lm e3]; exact hm
 have os : s.H is = some (.own 1 (sumC nn S) false) := by rw [k3_2 is ls e2]; exact hs
 by_cases hq : q < nn
 · have hzq : IntKind.i64.wrap ((q + 1 : Nat) : Int) = ((q + 1 : Nat) : Int) := wrap64 (by omega) (by omega)
   have hat := mix_at S T i j q
   have hsu := mix_suc S T i j q
   have hcs := chg_suc S T i j q
   cases hc : chg S T i j q with
   | true =>
     rw [hc] at g6 hcs
     repeat' with_reducible first
      | refine s_ ?_
      | simp -implicitDefEqProofs only [wZZ, seval, g0, g1, g2, g54, g55, g56, g6, f0, f1, f2, f7, om, os, on, hzq, hat, hsu]
      | (refine condQ_j (fun h h_ => ?_) (fun h h_ => ?_) <;> (try simp only [wD, reduceCtorEq] at h_) <;> (try exact wb_) <;> (try simp only [h]))
      | (refine ld1 hq ?_)
      | (refine stMo (a := i) (b := j) hq hi hj (by omega) ?_)
      | (refine onS_i (iaA_ptr (by omega)) ?_)
      | (apply ia_mslQ; (focus omega); (exact wf_))
      | (apply ldQ_cell; (exact wu_))
     refine ⟨wk_, q + 1, (by omega), ?_⟩
     refine ⟨?_, ?_, ?_, ?_, ?_, ?_, ?_, ?_, ?_, ?_, ?_⟩
     iterate 6 (focus (first | (simp -implicitDefEqProofs only [wL, wM, wN, wX, seval, Option.some.injEq, g0, g1, g2, g54, g55, g56, g6] <;> exact wt_) | rfl | exact ⟨_, rfl⟩))
     all_goals try omega
     all_goals try simp -implicitDefEqProofs only [wL, wM, wN, wX, seval, g0, g1, g2, g54, g55, g56, g6]
     · intro id h1 h2
       repeat rw [if_neg (by omega)]
       exact k3_2 id h1 h2
     · intro t h1
       repeat rw [if_neg (by omega)]
       exact k3_3 t h1
     · rw [hcs]; rfl
   | false =>
     rw [hc] at g6 hcs
     repeat' with_reducible first
      | refine s_ ?_
      | simp -implicitDefEqProofs only [wZZ, seval, g0, g1, g2, g54, g55, g56, g6, f0, f1, f2, f7, om, os, on, hzq, hat, hsu]
      | (refine condQ_j (fun h h_ => ?_) (fun h h_ => ?_) <;> (try simp only [wD, reduceCtorEq] at h_) <;> (try exact wb_) <;> (try simp only [h]))
      | (refine ld1 hq ?_)
      | (refine ldMo (a := i) (b := j) hq hi hj (by omega) ?_)
      | (refine stMo (a := i) (b := j) hq hi hj (by omega) ?_)
      | (refine onS_i (iaA_ptr (by omega)) ?_)
      | (apply ia_mslQ; (focus omega); (exact wf_))
      | (apply ldQ_cell; (exact wu_))
     refine ⟨wk_, q + 1, (by omega), ?_⟩
     refine ⟨?_, ?_, ?_, ?_, ?_, ?_, ?_, ?_, ?_, ?_, ?_⟩
     iterate 6 (focus (first | (simp -implicitDefEqProofs only [wL, wM, wN, wX, seval, Option.some.injEq, g0, g1, g2, g54, g55, g56, g6] <;> exact wt_) | rfl | exact ⟨_, rfl⟩))
     all_goals try omega
     all_goals try simp -implicitDefEqProofs only [wL, wM, wN, wX, seval, g0, g1, g2, g54, g55, g56, g6]
     · intro id h1 h2
       repeat rw [if_neg (by omega)]
       exact k3_2 id h1 h2
     · intro t h1
       repeat rw [if_neg (by omega)]
       exact k3_3 t h1
     · rw [hcs]; refine congrArg V.bool ?_
       by_cases e : S q = T q i j
       · simp [e]
       · have e2 : ¬ ((S q : Int) = (T q i j : Int)) := by omega
         rw [bne_iff_ne.2 e]; simp [e2]
 · repeat' with_reducible first
    | refine s_ ?_
    | simp -implicitDefEqProofs only [wZZ, seval, g0, g1, g2, g54, g55, g56, g6, f0]
    | (refine condQ_j (fun h h_ => ?_) (fun h h_ => ?_) <;> (try simp only [wD, reduceCtorEq] at h_) <;> (try exact wb_) <;> (try simp only [h]))
   have eq : q = nn := by omega
   subst eq
   refine hQ _ ?_ ?_ ?_ ?_ ?_
   · simp only [wM]; exact k3_1
   · intro id h1 h2; simp only [wM]; exact k3_2 id h1 h2
   · intro t h1; simp only [wL]; rw [if_neg (by omega)]; exact k3_3 t h1
   · simp only [wL]; rw [if_neg (by omega)]; exact g6
   · simp only [wN] <;> omega

theorem spanR {s0 : St} {g : Grammar} {w : List Int} {nn i j m ni is : Nat} {T : Tbl} {Q : Exit → St → Prop} (hg : Cnt g nn) (f0 : s0.f 0 = .ptr m 0 0) (f1 : s0.f 1 = vi i) (f2 : s0.f 2 = vi j) (f6 : s0.f 6 = .bool false) (f7 : s0.f 7 = .msl is 1 0 nn)
 (hm : s0.H m = some (.own 7 [cntC g w ni nn] false)) (hn : s0.H ni = some (.own 625 (tabV nn T) false)) (hs : s0.H is = some (.own 1 (sumC nn (fun _ => 0)) false)) (lm : m < s0.next) (ln : ni < s0.next) (ls : is < s0.next) (e1 : is ≠ m) (e2 : is ≠ ni) (e3 : m ≠ ni)
 (hij : i ≤ j) (hj : j ≤ 24) (hjw : j ≤ w.length) (hw : w.length ≤ 24) (hT : ∀ k a b, T k a b ≤ 2)
 (hQ : ∀ s', s'.H ni = some (.own 625 (tabV nn (roundN T nn g.prods w i j)) false) → (∀ id, id < s0.next → id ≠ is → id ≠ ni → s'.H id = s0.H id) → (∀ t, t < 6 → s'.f t = s0.f t) → s'.f 6 = .bool (chg (sumP T g.prods w i j) T i j nn) → s0.next ≤ s'.next → Q .normal s') : ewp Try.prog e29n39 Q s0 := by
 refine ewp_seq (span1 hg f0 f1 f2 f7 hm hn hs lm ln ls e1 e2 hij hj hjw hw hT fun s1 h1 h2 h3 h4 => ?_)
 refine xt_n ?_
 refine span2 (m := m) (g := g) (w := w) (T := T) hg.nb (by rw [h3 0 (by omega)]; exact f0) (by rw [h3 1 (by omega)]; exact f1) (by rw [h3 2 (by omega)]; exact f2) (by rw [h3 6 (by omega)]; exact f6) (by rw [h3 7 (by omega)]; exact f7) (by rw [h2 m lm e1.symm]; exact hm) (by rw [h2 ni ln e2.symm]; exact hn) h1 (by omega) (by omega) (by omega) e1 e2 e3 (by omega) (by omega) fun s2 k1 k2 k3 k4 k5 => ?_
 exact hQ s2 k1 (fun id a b c => by rw [k2 id (by omega) c, h2 id a b]) (fun t ht => by rw [k3 t ht, h3 t (by omega)]) k4 (by omega)
theorem spanE {H : Nat → Option MObj} {next m ni nn i j : Nat} {g : Grammar} {w : List Int} {T : Tbl} (hg : Cnt g nn) (hm : H m = some (.own 7 [cntC g w ni nn] false)) (hn : H ni = some (.own 625 (tabV nn T) false)) (lm : m < next) (ln : ni < next) (e3 : m ≠ ni) (hij : i ≤ j) (hj : j ≤ 24) (hjw : j ≤ w.length) (hw : w.length ≤ 24) (hT : ∀ k a b, T k a b ≤ 2) (hpre : ∀ k, k < nn → T k i j ≤ sumP T g.prods w i j k) : ECalls Try.prog 29 [.ptr m 0 0, vi i, vi j] H next (fun _ H' next' => next ≤ next' ∧ (∃ n, H' ni = some (.own 625 (tabV nn (rnds nn g.prods w i j T n)) false) ∧ ∀ k, k < nn → sumP (rnds nn g.prods w i j T n) g.prods w i j k = rnds nn g.prods w i j T n k i j) ∧ ∀ id, id < next → id ≠ ni → H' id = H id) := by
 refine ecalls_intro Try.func29 e29_nm e29_ok (by show 3 ≤ 89; decide) ?_
 show ewp _ e29n46 _ _
 repeat' with_reducible first
  | refine s_ ?_
  | simp -implicitDefEqProofs only [wZZ, seval]
 refine ewp_loopN ?nx1 (fun (p : Nat × Bool) s => s.f 0 = ?v1_0 ∧ s.f 1 = ?v1_1 ∧ s.f 2 = ?v1_2 ∧ s.f 6 = V.bool p.2 ∧ ((s.H ni = some (MObj.own 625 (tabV nn (rnds nn g.prods w i j T p.1)) false))) ∧ ((∀ id, id < next → id ≠ ni → s.H id = H id)) ∧ ((p.2 = false → ∀ k, k < nn → sumP (rnds nn g.prods w i j T p.1) g.prods w i j k = rnds nn g.prods w i j T p.1 k i j))) (fun p => 2 * room nn i j (rnds nn g.prods w i j T p.1) + (if p.2 then 1 else 0)) ((0, true)) wj_ (by refine ⟨?_, ?_, ?_, ?_, (by simp only [wM]; exact hn), (by intro id h1 h2; simp only [wM]), (by intro h; cases h)⟩ <;> first | (simp -implicitDefEqProofs only [wL, wM, wN, wX, seval, Option.some.injEq] <;> exact wt_) | rfl | exact ⟨_, rfl⟩) ?_
 intro p s hnx ⟨g0, g1, g2, g6, k1_0, k1_1, k1_2⟩
 obtain ⟨n, b⟩ := p
 dsimp only at *
 have om : s.H m = some (.own 7 [cntC g w ni nn] false) := by rw [k1_1 m lm e3]; exact hm
 have hle := rnds_le (nn := nn) (l := g.prods) (w := w) (i := i) (j := j) hT n
 have hpr := rnds_pre (nn := nn) (l := g.prods) (w := w) (i := i) (j := j) hpre n
 have hrn : rnds nn g.prods w i j T (n + 1) = roundN (rnds nn g.prods w i j T n) nn g.prods w i j := rfl
 generalize hTn : rnds nn g.prods w i j T n = Tn at *
 cases b with
 | false =>
   have hk := k1_2 rfl
   repeat' with_reducible first
    | refine s_ ?_
    | simp -implicitDefEqProofs only [wZZ, seval, g0, g1, g2, g6]
   refine heap0 rfl (Or.inl rfl) ?_
   exact ⟨by simp only [wN] <;> omega, ⟨n, by simp only [wM]; rw [hTn]; exact k1_0, by rw [hTn]; exact hk⟩, fun id h1 h2 => by simp only [wM]; exact k1_1 id h1 h2⟩
 | true =>
   show ewp _ (.seq e29n3 (.block 1 (.seq (.reg e29r4) (.seq (.reg e29r5) e29n39)))) _ _
   have tail := @spanR
   generalize e29n39 = F at tail
   have hz0 := sumC_0 nn
   have hnl := hg.nl
   have hnb := hg.nb
   repeat' with_reducible first
    | refine s_ ?_
    | simp -implicitDefEqProofs only [wZZ, seval, g0, g1, g2, g6, om, hnl, hz0]
    | (apply ldQ_cell; (exact wu_))
    | (apply mkQ_T; (exact wf_); (exact wf_); (focus (unfold maxLen; first | omega | (simp only [wZ] <;> omega))))
   refine tail (g := g) (w := w) (nn := nn) (i := i) (j := j) (m := m) (ni := ni) (is := s.next + 1 + 1 + 6) (T := Tn) hg (by simp -implicitDefEqProofs only [wL, seval, g0, g1, g2]) (by simp -implicitDefEqProofs only [wL, seval, g0, g1, g2]) (by simp -implicitDefEqProofs only [wL, seval, g0, g1, g2]) (by simp -implicitDefEqProofs only [wL, seval, g0, g1, g2]) (by simp -implicitDefEqProofs only [wL, seval, g0, g1, g2]) (by (simp only [wM]; (repeat first | rw [if_pos trivial] | rw [if_pos rfl] | rw [if_neg (by omega)])); exact om) (by (simp only [wM]; (repeat first | rw [if_pos trivial] | rw [if_pos rfl] | rw [if_neg (by omega)])); exact k1_0) wc_ wh_ wh_ wh_ (by omega) (by omega) e3 hij hj hjw hw hle fun s2 k1 k2 k3 k4 k5 => ?_
   simp only [wM, wN] at k2 k5
   refine xb_n (xt_n ⟨by omega, (n + 1, chg (sumP Tn g.prods w i j) Tn i j nn), ?_, ?_, ?_, ?_, k4, ?_, ?_, ?_⟩)
   · dsimp only
     rw [hrn]
     cases hc : chg (sumP Tn g.prods w i j) Tn i j nn with
     | true => have := room_lt hle hpr (chg_t hc); simp only [if_true]; omega
     | false => rw [round_still (chg_f hc)]; simp
   · rw [k3 0 (by omega)]; simp -implicitDefEqProofs only [wL, seval, g0, g1, g2]
   · rw [k3 1 (by omega)]; simp -implicitDefEqProofs only [wL, seval, g0, g1, g2]
   · rw [k3 2 (by omega)]; simp -implicitDefEqProofs only [wL, seval, g0, g1, g2]
   · rw [hrn]; exact k1
   · intro id h1 h2
     rw [k2 id (by omega) (by omega) h2, if_neg (by omega)]
     exact k1_1 id h1 h2
   · intro hc
     rw [hrn, round_still (chg_f hc)]
     exact chg_f hc
end Go.Proofs
