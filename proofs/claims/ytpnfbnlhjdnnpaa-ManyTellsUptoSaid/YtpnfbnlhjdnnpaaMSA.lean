/- Part of a proof that a law of the given program answers true. -/
import Derived.Test.YtpnfbnlhjdnnpaaMKA
import Derived.Test.YtpnfbnlhjdnnpaaMJB
import Derived.Test.YtpnfbnlhjdnnpaaMHC
set_option linter.unusedSimpArgs false
set_option linter.unusedVariables false
set_option maxHeartbeats 4000000
namespace Go.Proofs
open Go.E
def toksN (g : Grammar) (l : List Int) (n : Nat) : List Int := (l.take n).map fun x => x % ((g.toks.length + 1 : Nat) : Int)
theorem yuccalaw14_toks {g : Grammar} {l : List Int} {n : Nat} (hb : g.toks.length ≤ 1000000) (hn : n ≤ 100) (hl : l.length ≤ 1099511627776) : Pure Try.prog 11 [g.V, .sl 1 false (l.map (V.int .i64)), vi n] (.sl 1 false ((toksN g l n).map (V.int .i64))) := by
 refine pure_intro Try.func11 e11_nm e11_ok (by show 3 ≤ 33; decide) ?_
 show ewp _ e11n18 _ _
 repeat' with_reducible first
  | refine s_ ?_
  | simp -implicitDefEqProofs only [wZZ, seval]
  | (apply boxQ_i; (exact wu_); (exact wu_))
 refine ewp_loopN ?nx1 (fun (i : Nat) s => s.f 1 = ?v1_1 ∧ s.f 2 = ?v1_2 ∧ s.f 3 = ?v1_3 ∧ s.H 0 = some (.own 5 [g.V] false) ∧ (∃ v, s.f 7 = v ∧ Gr s.H s.next 1 ((toksN g l i).map (V.int .i64)) v) ∧ s.f 8 = vi i ∧ (i ≤ l.length) ∧ (i ≤ n)) (fun i => l.length - i) (0) wj_ (by refine ⟨?_, ?_, ?_, ?_, ?_, ?_, (by first | omega | (simp; done) | assumption), (by first | omega | (simp; done) | assumption)⟩ <;> first | (simp -implicitDefEqProofs only [wL, wM, wN, wX, seval, Option.some.injEq] <;> exact wt_) | rfl | exact ⟨_, rfl⟩) ?_
 intro i s hnx ⟨g1, g2, g3, o0, ⟨v7, g7, G7⟩, g8, k1_0, k1_1⟩
 have hlt : (toksN g l i).length = i := by unfold toksN; rw [List.length_map, List.length_take]; omega
 have hz : IntKind.i64.wrap ((i + 1 : Nat) : Int) = ((i + 1 : Nat) : Int) := wrap64 (by omega) (by omega)
 have hz2 : IntKind.i64.wrap ((g.toks.length + 1 : Nat) : Int) = ((g.toks.length + 1 : Nat) : Int) := wrap64 (by omega) (by omega)
 by_cases hi : i < l.length
 · by_cases hin : i < n
   · have hst : toksN g l (i + 1) = toksN g l i ++ [l[i] % ((g.toks.length + 1 : Nat) : Int)] := by unfold toksN; rw [List.take_add_one, List.getElem?_eq_getElem hi, List.map_append]; rfl
     repeat' with_reducible first
      | refine s_ ?_
      | simp -implicitDefEqProofs only [wZZ, seval, g1, g2, g3, g7, g8, o0, Gr.dropO G7 o0, hz, hz2, hlt, G7.len]
      | (refine condQ_j (fun h h_ => ?_) (fun h h_ => ?_) <;> (try simp only [wD, reduceCtorEq] at h_) <;> (try exact wb_) <;> (try simp only [h]))
      | ((first | refine gdQ_iT (fun h => ?_) (fun h => ?_) | refine gdQ_iF (fun h => ?_) (fun h => ?_)) <;> have h_ := h <;> (try simp only [wD, reduceCtorEq] at h_) <;> (try exact wb_) <;> (try simp only [h]))
      | (apply ia_slQ; (focus omega); (exact wd_))
      | (apply appQ_G (hg := G7); (focus (first | rfl | (simp -implicitDefEqProofs only [wM]; done))); (focus (first | exact SrcN.sl | exact SrcN.asl | exact SrcN.gr G7 | exact SrcN.str)); (exact wf_); (focus (unfold maxLen; first | omega | (simp only [wZ] <;> omega))))
      | (apply ldQ_cell; (exact wu_))
      | (apply callQ2 (hp := yuccaref0_Within ?_ ?_); (focus (first | exact er_intsL | exact er_cl | exact er_sl | exact er_asl | exact G7.er rfl)); (focus (first | exact er_intsL | exact er_cl | exact er_sl | exact er_asl | exact G7.er rfl)); rotate_left; (exact wf_); (exact wf_))
     refine ⟨wk_, i + 1, (by omega), ?_⟩
     refine ⟨?_, ?_, ?_, ?_, ?_, ?_, ?_, ?_⟩
     iterate 6 (focus (first | (simp -implicitDefEqProofs only [wL, wM, wN, wX, seval, Option.some.injEq, g1, g2, g3, g7, g8, o0, Gr.dropO G7 o0, hst] <;> first | rfl | exact ⟨_, rfl⟩ | exact ⟨_, rfl, by first | assumption | exact Gr.nil | exact Gr.tok rfl (by omega) | exact Gr.tok (by simp -implicitDefEqProofs only [wM, seval] <;> rfl) (by omega) | exact Gr.clip | exact G7.to (by first | rfl | (simp [*]; done)) (by omega) rfl⟩) | rfl | exact ⟨_, rfl⟩))
     all_goals try omega
   · have e : i = n := by omega
     subst e
     repeat' with_reducible first
      | refine s_ ?_
      | simp -implicitDefEqProofs only [wZZ, seval, g1, g2, g3, g7, g8, o0, Gr.dropO G7 o0, G7.len]
      | ((first | refine gdQ_iT (fun h => ?_) (fun h => ?_) | refine gdQ_iF (fun h => ?_) (fun h => ?_)) <;> have h_ := h <;> (try simp only [wD, reduceCtorEq] at h_) <;> (try exact wb_) <;> (try simp only [h]))
     all_goals refine post1 rfl (Or.inr rfl) ?_
     all_goals (try simp -implicitDefEqProofs only [wL, seval, g1, g2, g3, g7, g8])
     all_goals (first | refine er_bool ?_ | refine er_int ?_ | refine er_str ?_ | refine er_sl_eq ?_ | refine er_asl_eq ?_ | refine G7.er ?_)
     all_goals (try (with_reducible rfl))
 · have e : toksN g l i = toksN g l n := by unfold toksN; rw [List.take_of_length_le (by omega), List.take_of_length_le (by omega)]
   rw [e] at G7
   repeat' with_reducible first
    | refine s_ ?_
    | simp -implicitDefEqProofs only [wZZ, seval, g1, g2, g3, g7, g8, o0, Gr.dropO G7 o0, G7.len]
    | ((first | refine gdQ_iT (fun h => ?_) (fun h => ?_) | refine gdQ_iF (fun h => ?_) (fun h => ?_)) <;> have h_ := h <;> (try simp only [wD, reduceCtorEq] at h_) <;> (try exact wb_) <;> (try simp only [h]))
   all_goals refine post1 rfl (Or.inr rfl) ?_
   all_goals (try simp -implicitDefEqProofs only [wL, seval, g1, g2, g3, g7, g8])
   all_goals (first | refine er_bool ?_ | refine er_int ?_ | refine er_str ?_ | refine er_sl_eq ?_ | refine er_asl_eq ?_ | refine G7.er ?_)
   all_goals (try (with_reducible rfl))

theorem eq_of_get {α : Type} {a b : List α} {k : Nat} (hk : ∀ i, i < k → a[i]? = b[i]?) (h1 : a.length ≤ k) (h2 : b.length ≤ k) : a = b := by
 refine List.ext_getElem? fun i => ?_
 by_cases hi : i < k
 · exact hk i hi
 · rw [List.getElem?_eq_none (by omega), List.getElem?_eq_none (by omega)]
theorem get_ext {α : Type} {a b : List α} {k : Nat} (hk : ∀ i, i < k → a[i]? = b[i]?) (h1 : k < a.length) (h2 : k < b.length) (e : a[k] = b[k]) : ∀ i, i < k + 1 → a[i]? = b[i]? := by
 intro i hi
 by_cases he : i = k
 · subst he; rw [List.getElem?_eq_getElem h1, List.getElem?_eq_getElem h2, e]
 · exact hk i (by omega)
theorem yuccaref0_EqInts {a b : List Int} (ha : a.length ≤ 4611686018427387903) (hb : b.length ≤ 4611686018427387903) : Pure Try.prog 20 [.sl 1 false (a.map (V.int .i64)), .sl 1 false (b.map (V.int .i64))] (.bool (decide (a = b))) := by
 refine pure_intro Try.func20 e20_nm e20_ok (by show 2 ≤ 26; decide) ?_
 show ewp _ e20n26 _ _
 repeat' with_reducible first
  | refine s_ ?_
  | simp -implicitDefEqProofs only [wZZ, seval]
  | (refine condQ_j (fun h h_ => ?_) (fun h h_ => ?_) <;> (try simp only [wD, reduceCtorEq] at h_) <;> (try exact wb_) <;> (try simp only [h]))
 · refine post1 rfl (Or.inr rfl) ?_
   simp -implicitDefEqProofs only [wL, seval]
   first | refine er_bool ?_ | refine er_int ?_ | refine er_str ?_ | refine er_sl_eq ?_ | refine er_asl_eq ?_
   try (with_reducible rfl)
   rw [eq_comm, decide_eq_false_iff_not]
   intro e; subst e; exact h_ rfl
 refine ewp_loopN ?nx1 (fun (k : Nat) s => s.f 0 = ?v1_0 ∧ s.f 1 = ?v1_1 ∧ s.f 5 = vi k ∧ (k ≤ a.length) ∧ (∀ i, i < k → a[i]? = b[i]?)) (fun k => a.length - k) (0) wj_ (by refine ⟨?_, ?_, ?_, (by first | omega | (simp; done) | assumption), (by first | omega | (simp; done) | assumption)⟩ <;> first | (simp -implicitDefEqProofs only [wL, wM, wN, wX, seval, Option.some.injEq] <;> exact wt_) | rfl | exact ⟨_, rfl⟩) ?_
 intro k s hnx ⟨g0, g1, g5, k1_0, k1_1⟩
 repeat' with_reducible first
  | refine s_ ?_
  | simp -implicitDefEqProofs only [wZZ, seval, g0, g1, g5]
  | (refine condQ_j (fun h h_ => ?_) (fun h h_ => ?_) <;> (try simp only [wD, reduceCtorEq] at h_) <;> (try exact wb_) <;> (try simp only [h]))
  | (apply ia_slQ; (focus omega); (exact wd_))
  | simp -implicitDefEqProofs (disch := omega) only [w64, if_neg]
 · refine post1 rfl (Or.inr rfl) ?_
   simp -implicitDefEqProofs only [wL, seval, g0, g1, g5]
   first | refine er_bool ?_ | refine er_int ?_ | refine er_str ?_ | refine er_sl_eq ?_ | refine er_asl_eq ?_
   try (with_reducible rfl)
   rw [eq_comm, decide_eq_false_iff_not]
   intro e; subst e; exact h_ rfl
 · refine ⟨wk_, k + 1, (by omega), ?_⟩
   refine ⟨?_, ?_, ?_, ?_, ?_⟩
   iterate 3 (focus (first | (simp -implicitDefEqProofs only [wL, wM, wN, wX, seval, Option.some.injEq, g0, g1, g5] <;> exact wt_) | rfl | exact ⟨_, rfl⟩))
   all_goals try omega
   exact get_ext k1_1 (by omega) (by omega) (by simpa using h_)
 · refine post1 rfl (Or.inr rfl) ?_
   simp -implicitDefEqProofs only [wL, seval, g0, g1, g5]
   first | refine er_bool ?_ | refine er_int ?_ | refine er_str ?_ | refine er_sl_eq ?_ | refine er_asl_eq ?_
   try (with_reducible rfl)
   rw [eq_comm, decide_eq_true_eq]
   exact eq_of_get k1_1 (by omega) (by omega)
def symOkB (nt nn : Nat) (x : Int) : Bool := decide (0 ≤ x ∧ x < nt) || decide (1000 ≤ x ∧ x < 1000 + (nn : Int))
theorem yuccaref9_Symbol {g : Grammar} {x : Int} (hnl : g.nons.length ≤ 1000000) (htl : g.toks.length ≤ 1000000) : Pure Try.prog 30 [g.V, vi x] (.bool (symOkB g.toks.length g.nons.length x)) := by
 refine pure_intro Try.func30 e30_nm e30_ok (by show 2 ≤ 26; decide) ?_
 show ewp _ e30n3 _ _
 have hz : IntKind.i64.wrap (1000 + (g.nons.length : Int)) = 1000 + (g.nons.length : Int) := wrap64 (by omega) (by omega)
 by_cases h0 : 0 ≤ x
 · by_cases h1 : x < g.toks.length
   · have e : symOkB g.toks.length g.nons.length x = true := by unfold symOkB; simp; omega
     rw [e]
     repeat' with_reducible first
      | refine s_ ?_
      | simp -implicitDefEqProofs only [wZZ, seval, hz]
      | ((first | refine gdQ_iT (fun h => ?_) (fun h => ?_) | refine gdQ_iF (fun h => ?_) (fun h => ?_)) <;> have h_ := h <;> (try simp only [wD, reduceCtorEq] at h_) <;> (try exact wb_) <;> (try simp only [h]))
      | (apply ldQ_cell; (exact wu_))
      | (apply boxQ_i; (exact wu_); (exact wu_))
     all_goals refine post1 rfl (Or.inr rfl) ?_
     all_goals (try simp -implicitDefEqProofs only [wL, seval])
     all_goals (first | refine er_bool ?_ | refine er_int ?_ | refine er_str ?_ | refine er_sl_eq ?_ | refine er_asl_eq ?_)
     all_goals (try (with_reducible rfl))
   · by_cases h2 : 1000 ≤ x
     · by_cases h3 : x < 1000 + (g.nons.length : Int)
       · have e : symOkB g.toks.length g.nons.length x = true := by unfold symOkB; simp; omega
         rw [e]
         repeat' with_reducible first
          | refine s_ ?_
          | simp -implicitDefEqProofs only [wZZ, seval, hz]
          | ((first | refine gdQ_iT (fun h => ?_) (fun h => ?_) | refine gdQ_iF (fun h => ?_) (fun h => ?_)) <;> have h_ := h <;> (try simp only [wD, reduceCtorEq] at h_) <;> (try exact wb_) <;> (try simp only [h]))
          | (apply ldQ_cell; (exact wu_))
          | (apply boxQ_i; (exact wu_); (exact wu_))
         all_goals refine post1 rfl (Or.inr rfl) ?_
         all_goals (try simp -implicitDefEqProofs only [wL, seval])
         all_goals (first | refine er_bool ?_ | refine er_int ?_ | refine er_str ?_ | refine er_sl_eq ?_ | refine er_asl_eq ?_)
         all_goals (try (with_reducible rfl))
         exact decide_eq_true h3
       · have e : symOkB g.toks.length g.nons.length x = false := by unfold symOkB; simp; omega
         rw [e]
         repeat' with_reducible first
          | refine s_ ?_
          | simp -implicitDefEqProofs only [wZZ, seval, hz]
          | ((first | refine gdQ_iT (fun h => ?_) (fun h => ?_) | refine gdQ_iF (fun h => ?_) (fun h => ?_)) <;> have h_ := h <;> (try simp only [wD, reduceCtorEq] at h_) <;> (try exact wb_) <;> (try simp only [h]))
          | (apply ldQ_cell; (exact wu_))
          | (apply boxQ_i; (exact wu_); (exact wu_))
         all_goals refine post1 rfl (Or.inr rfl) ?_
         all_goals (try simp -implicitDefEqProofs only [wL, seval])
         all_goals (first | refine er_bool ?_ | refine er_int ?_ | refine er_str ?_ | refine er_sl_eq ?_ | refine er_asl_eq ?_)
         all_goals (try (with_reducible rfl))
         exact decide_eq_false h3
     · have e : symOkB g.toks.length g.nons.length x = false := by unfold symOkB; simp; omega
       rw [e]
       repeat' with_reducible first
        | refine s_ ?_
        | simp -implicitDefEqProofs only [wZZ, seval, hz]
        | ((first | refine gdQ_iT (fun h => ?_) (fun h => ?_) | refine gdQ_iF (fun h => ?_) (fun h => ?_)) <;> have h_ := h <;> (try simp only [wD, reduceCtorEq] at h_) <;> (try exact wb_) <;> (try simp only [h]))
        | (apply ldQ_cell; (exact wu_))
        | (apply boxQ_i; (exact wu_); (exact wu_))
       all_goals refine post1 rfl (Or.inr rfl) ?_
       all_goals (try simp -implicitDefEqProofs only [wL, seval])
       all_goals (first | refine er_bool ?_ | refine er_int ?_ | refine er_str ?_ | refine er_sl_eq ?_ | refine er_asl_eq ?_)
       all_goals (try (with_reducible rfl))
 · have e : symOkB g.toks.length g.nons.length x = false := by unfold symOkB; simp; omega
   rw [e]
   repeat' with_reducible first
    | refine s_ ?_
    | simp -implicitDefEqProofs only [wZZ, seval, hz]
    | ((first | refine gdQ_iT (fun h => ?_) (fun h => ?_) | refine gdQ_iF (fun h => ?_) (fun h => ?_)) <;> have h_ := h <;> (try simp only [wD, reduceCtorEq] at h_) <;> (try exact wb_) <;> (try simp only [h]))
    | (apply boxQ_i; (exact wu_); (exact wu_))
   all_goals refine post1 rfl (Or.inr rfl) ?_
   all_goals (try simp -implicitDefEqProofs only [wL, seval])
   all_goals (first | refine er_bool ?_ | refine er_int ?_ | refine er_str ?_ | refine er_sl_eq ?_ | refine er_asl_eq ?_)
   all_goals (try (with_reducible rfl))
def intsN (l : List Int) (n : Nat) : List Int := if n < l.length then l.take n else l
theorem yuccalaw0_Ints {l : List Int} {n : Nat} (hl : l.length ≤ 1099511627776) (hn : n ≤ 1000000) : Pure Try.prog 12 [.sl 1 false (l.map (V.int .i64)), vi n] (.sl 1 false ((intsN l n).map (V.int .i64))) := by
 refine pure_intro Try.func12 e12_nm e12_ok (by show 2 ≤ 13; decide) ?_
 show ewp _ e12n9 _ _
 by_cases h : n < l.length
 · have e : intsN l n = l.take n := by unfold intsN; rw [if_pos h]
   rw [e]
   repeat' with_reducible first
    | refine s_ ?_
    | simp -implicitDefEqProofs only [wZZ, seval]
    | (refine condQ_j (fun h h_ => ?_) (fun h h_ => ?_) <;> (try simp only [wD, reduceCtorEq] at h_) <;> (try exact wb_) <;> (try simp only [h]))
    | (apply slm_hiQ; (focus omega); (exact wf_))
   all_goals refine post1 rfl (Or.inr rfl) ?_
   all_goals (try simp -implicitDefEqProofs only [wL, seval])
   all_goals (first | refine er_bool ?_ | refine er_int ?_ | refine er_str ?_ | refine er_sl_eq ?_ | refine er_asl_eq ?_)
   all_goals (try (with_reducible rfl))
 · have e : intsN l n = l := by unfold intsN; rw [if_neg h]
   rw [e]
   repeat' with_reducible first
    | refine s_ ?_
    | simp -implicitDefEqProofs only [wZZ, seval]
    | (refine condQ_j (fun h h_ => ?_) (fun h h_ => ?_) <;> (try simp only [wD, reduceCtorEq] at h_) <;> (try exact wb_) <;> (try simp only [h]))
   all_goals refine post1 rfl (Or.inr rfl) ?_
   all_goals (try simp -implicitDefEqProofs only [wL, seval])
   all_goals (first | refine er_bool ?_ | refine er_int ?_ | refine er_str ?_ | refine er_sl_eq ?_ | refine er_asl_eq ?_)
   all_goals (try (with_reducible rfl))

def vecN (n : Nat) (a : Nat → Nat) : List V := (List.range n).map fun b => vi (a b)
theorem vecN_len (n : Nat) (a : Nat → Nat) : (vecN n a).length = n := by simp [vecN]
theorem vecN_get {n : Nat} {a : Nat → Nat} {b : Nat} (h : b < n) : (vecN n a)[b]? = some (vi (a b)) := by simp [vecN, h]
theorem vecN_ext {n : Nat} {a b : Nat → Nat} (h : ∀ i, i < n → a i = b i) : vecN n a = vecN n b := by
 unfold vecN
 refine List.map_congr_left fun i hi => ?_
 rw [h i (List.mem_range.1 hi)]
theorem vecN_set {n : Nat} (a : Nat → Nat) (b x : Nat) : (vecN n a).set b (vi x) = vecN n (upd a b x) := by
 refine List.ext_getElem? fun i => ?_
 rw [List.getElem?_set]
 by_cases hi : i < n
 · rw [vecN_get hi, vecN_len, vecN_get hi]
   by_cases e : b = i
   · subst e; simp [hi, upd]
   · simp [e, upd, Ne.symm e]
 · rw [List.getElem?_eq_none (by rw [vecN_len]; omega), List.getElem?_eq_none (by rw [vecN_len]; omega)]
   rw [vecN_len]; simp; omega
theorem vecN_0 (n : Nat) : List.replicate n (V.int .i64 0) = vecN n (fun _ => 0) := by
 refine List.ext_getElem? fun i => ?_
 by_cases h : i < n
 · rw [vecN_get h]; simp [h]
 · rw [List.getElem?_eq_none (by simp; omega), List.getElem?_eq_none (by rw [vecN_len]; omega)]
theorem ldV {K : V → Prop} {n b : Nat} {a : Nat → Nat} {ro : Bool} (h : b < n) (hk : K (vi (a b))) : onS (ldQ (some (.own 1 (vecN n a) ro)) false 1 b 0) K := by
 have e : ldQ (some (.own 1 (vecN n a) ro)) false 1 b 0 = some (vi (a b)) := by simp [ldQ, vecN_get h, partE, V.isAgg]
 rw [e]; exact hk
theorem stV {K : St → Prop} {s : St} {n b id x : Nat} {a : Nat → Nat} (h : b < n) (hk : K (s.setO id (some (.own 1 (vecN n (upd a b x)) false)))) : onS (stQ s (some (.own 1 (vecN n a) false)) 1 id b 0 (vi x)) K := by
 have e : stQ s (some (.own 1 (vecN n a) false)) 1 id b 0 (vi x) = some (s.setO id (some (.own 1 (vecN n (upd a b x)) false))) := by
  rw [← vecN_set]
  simp [stQ, vecN_get h, V.cells, V.okCell, storeE, V.isAgg]
 rw [e]; exact hk
theorem stV1 {K : St → Prop} {s : St} {n b id : Nat} {a : Nat → Nat} (h : b < n) (hk : K (s.setO id (some (.own 1 (vecN n (upd a b 1)) false)))) : onS (stQ s (some (.own 1 (vecN n a) false)) 1 id b 0 (.int .i64 1)) K := stV h hk
def tabM (n : Nat) (t : Nat → Nat → Nat) : Nat → Nat := fun q => t (q / n) (q % n)
theorem tabM_at {n : Nat} {t : Nat → Nat → Nat} {a b : Nat} (hb : b < n) : tabM n t (a * n + b) = t a b := by
 unfold tabM
 have e1 : (a * n + b) / n = a := by rw [Nat.mul_comm, Nat.mul_add_div (by omega), Nat.div_eq_of_lt hb]; omega
 have e2 : (a * n + b) % n = b := by rw [Nat.mul_comm, Nat.mul_add_mod, Nat.mod_eq_of_lt hb]
 rw [e1, e2]
theorem tab_lt {n a b : Nat} (ha : a < n) (hb : b < n) : a * n + b < n * n := by
 have := Nat.mul_le_mul_right n (show a + 1 ≤ n from ha)
 rw [Nat.add_mul] at this; omega
def rowsC (nn z : Nat) (ids : Nat → Nat) : List V := (List.range nn).map fun k => .msl (ids k) 1 0 z
theorem rowsC_get {nn z k : Nat} {ids : Nat → Nat} (h : k < nn) : (rowsC nn z ids)[k]? = some (.msl (ids k) 1 0 z) := by simp [rowsC, h]
theorem ldR {K : V → Prop} {nn z k : Nat} {ids : Nat → Nat} {ro : Bool} (h : k < nn) (hk : K (.msl (ids k) 1 0 z)) : onS (ldQ (some (.own 1 (rowsC nn z ids) ro)) false 1 k 0) K := by
 have e : ldQ (some (.own 1 (rowsC nn z ids) ro)) false 1 k 0 = some (.msl (ids k) 1 0 z) := by simp [ldQ, rowsC_get h, partE, V.isAgg]
 rw [e]; exact hk
theorem rowB {s0 : St} {right : List Int} {n nn k a r ia ib hi : Nat} {ids : Nat → Nat} {T : Tbl} {A B : Nat → Nat} {sy : Int} {Q : Exit → St → Prop} (f0 : s0.f 0 = .msl hi 1 0 nn) (f2 : s0.f 2 = vi n) (f3 : s0.f 3 = .sl 1 false (right.map (V.int .i64))) (f11 : s0.f 11 = .msl ia 1 0 n) (f12 : s0.f 12 = vi r) (f13 : s0.f 13 = .msl ib 1 0 n) (f14 : s0.f 14 = vi a)
 (hia : s0.H ia = some (.own 1 (vecN n A) false)) (hib : s0.H ib = some (.own 1 (vecN n B) false)) (hh : s0.H hi = some (.own 1 (rowsC nn (n * n) ids) false)) (hk0 : s0.H (ids k) = some (.own 1 (vecN (n * n) (tabM n (T k))) false)) (n1 : ia ≠ ib) (n2 : hi ≠ ib) (n3 : ids k ≠ ib)
 (han : a < n) (hn : n ≤ 25) (hr : right[r]? = some sy) (hsy : sy = 1000 + (k : Int)) (hk : k < nn) (hnn : nn ≤ 1000000) (hA : ∀ b, A b ≤ 2) (hB : ∀ b, B b ≤ 2) (hT : ∀ k a b, T k a b ≤ 2)
 (hQ : ∀ s', s'.H ib = some (.own 1 (vecN n (addN T k A B a n)) false) → (∀ id, id ≠ ib → s'.H id = s0.H id) → (∀ t, t < 75 → t ≠ 15 → s'.f t = s0.f t) → s0.next ≤ s'.next → Q .normal s') : ewp Try.prog e31n34 Q s0 := by
 repeat' with_reducible first
  | refine s_ ?_
  | simp -implicitDefEqProofs only [wZZ, seval, f0, f2, f3, f11, f12, f13, f14]
 refine ewp_loopN ?nx3 (fun (b : Nat) s => s.f 0 = ?v3_0 ∧ s.f 1 = ?v3_1 ∧ s.f 2 = ?v3_2 ∧ s.f 3 = ?v3_3 ∧ s.f 4 = ?v3_4 ∧ s.f 11 = ?v3_11 ∧ s.f 12 = ?v3_12 ∧ s.f 13 = ?v3_13 ∧ s.f 14 = ?v3_14 ∧ s.f 15 = vi b ∧ (a ≤ b) ∧ (b ≤ n) ∧ ((s.H ib = some (MObj.own 1 (vecN n (addN T k A B a b)) false))) ∧ ((∀ id, id ≠ ib → s.H id = s0.H id)) ∧ ((∀ t, t < 75 → t ≠ 15 → s.f t = s0.f t))) (fun b => n - b) (a) wj_ (by refine ⟨?_, ?_, ?_, ?_, ?_, ?_, ?_, ?_, ?_, ?_, (by first | omega | (simp; done) | assumption), (by first | omega | (simp; done) | assumption), (by rw [addN_0]; simp only [wM]; exact hib), (by intro id hid; simp only [wM]), (by intro t h1 h2; ((try simp only [wL]); (repeat first | rw [if_pos trivial] | rw [if_pos rfl] | rw [if_neg (by omega)])))⟩ <;> first | (simp -implicitDefEqProofs only [wL, wM, wN, wX, seval, Option.some.injEq] <;> exact wt_) | rfl | exact ⟨_, rfl⟩) ?_
 intro b s hnx ⟨g0, g1, g2, g3, g4, g11, g12, g13, g14, g15, k3_0, k3_1, k3_2, k3_3, k3_4⟩
 have ob := k3_2
 have oa : s.H ia = some (.own 1 (vecN n A) false) := (k3_3 ia n1).trans hia
 have oh : s.H hi = some (.own 1 (rowsC nn (n * n) ids) false) := (k3_3 hi n2).trans hh
 have ok : s.H (ids k) = some (.own 1 (vecN (n * n) (tabM n (T k))) false) := (k3_3 _ n3).trans hk0
 by_cases hb : b < n
 · have hAn : addN T k A B a b b = B b := by unfold addN; rw [if_neg (by omega)]
   have hsb : IntKind.i64.wrap (sy - 1000) = (k : Int) := by rw [hsy, wrap64 (by omega) (by omega)]; omega
   have hAa := hA a; have hBb := hB b; have hTk := hT k a b
   have hmul : (A a : Int) * (T k a b : Int) = ((A a * T k a b : Nat) : Int) := by simp
   have hml : A a * T k a b ≤ 4 := Nat.le_trans (Nat.mul_le_mul hAa hTk) (by decide)
   have hz1 : IntKind.i64.wrap ((A a * T k a b : Nat) : Int) = ((A a * T k a b : Nat) : Int) := wrap64 (by omega) (by omega)
   have hz2 : IntKind.i64.wrap ((B b : Int) + ((A a * T k a b : Nat) : Int)) = ((B b + A a * T k a b : Nat) : Int) := by rw [wrap64 (by omega) (by omega)]; omega
   have hzb : IntKind.i64.wrap ((b + 1 : Nat) : Int) = ((b + 1 : Nat) : Int) := wrap64 (by omega) (by omega)
   have hq := tab_lt han hb
   have hqq : n * n ≤ 625 := Nat.le_trans (Nat.mul_le_mul hn hn) (by decide)
   have hm2 : (a : Int) * (n : Int) = ((a * n : Nat) : Int) := by simp
   have hz3 : IntKind.i64.wrap ((a * n : Nat) : Int) = ((a * n : Nat) : Int) := wrap64 (by omega) (by omega)
   have hz4 : IntKind.i64.wrap (((a * n : Nat) : Int) + (b : Int)) = ((a * n + b : Nat) : Int) := by rw [wrap64 (by omega) (by omega)]; omega
   have htm := tabM_at (t := T k) (a := a) hb
   have hmn := min2_nat (B b + A a * T k a b)
   generalize a * n + b = q at *
   repeat' with_reducible first
    | refine s_ ?_
    | simp -implicitDefEqProofs only [wZZ, seval, g0, g1, g2, g3, g4, g11, g12, g13, g14, g15, f0, f2, f3, f11, f12, f13, f14, ob, oa, oh, ok, hsb, hzb, hAn, hm2, hz3, hz4, htm, hmul, hz1, hz2, st_min2, min2_ii, hmn]
    | (refine condQ_j (fun h h_ => ?_) (fun h h_ => ?_) <;> (try simp only [wD, reduceCtorEq] at h_) <;> (try exact wb_) <;> (try simp only [h]))
    | (apply ia_slQ; (focus omega); (focus with_unfolding_all exact hr))
    | (apply ia_mslQ; (focus omega); (focus omega))
    | (refine ldV (by omega) ?_)
    | (refine ldR hk ?_)
    | (refine stV (by omega) ?_)
   refine ⟨by ((try simp only [wN]) <;> omega), b + 1, by omega, trivial, trivial, trivial, trivial, trivial, trivial, trivial, trivial, trivial, rfl, by omega, by omega, ?_, fun id hid => ?_, fun t h1 h2 => ?_⟩
   · rw [addN_succ _ _ _ _ _ _ (by omega)]
   · ((try simp only [wM]); (repeat first | rw [if_pos trivial] | rw [if_pos rfl] | rw [if_neg (by omega)])); exact k3_3 id hid
   · ((try simp only [wL]); (repeat first | rw [if_pos trivial] | rw [if_pos rfl] | rw [if_neg (by omega)])); exact k3_4 t h1 h2
 · have e : b = n := by omega
   subst e
   repeat' with_reducible first
    | refine s_ ?_
    | simp -implicitDefEqProofs only [wZZ, seval, g0, g1, g2, g3, g4, g11, g12, g13, g14, g15, f0, f2, f3, f11, f12, f13, f14]
   refine hQ _ (by ((try simp only [wM]); (repeat first | rw [if_pos trivial] | rw [if_pos rfl] | rw [if_neg (by omega)])); exact ob) (fun id hid => by ((try simp only [wM]); (repeat first | rw [if_pos trivial] | rw [if_pos rfl] | rw [if_neg (by omega)])); exact k3_3 id hid) (fun t h1 h2 => ?_) (by ((try simp only [wN]) <;> omega))
   ((try simp only [wL]); (repeat first | rw [if_pos trivial] | rw [if_pos rfl] | rw [if_neg (by omega)])); exact k3_4 t h1 h2
end Go.Proofs
