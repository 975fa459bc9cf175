/- Part of a proof that a law of the given program answers true. -/
import Derived.Test.YtpnfbnlhjdnnpaaDoorTLA
import Derived.Test.YtpnfbnlhjdnnpaaDoorTPA
set_option linter.unusedSimpArgs false
set_option linter.unusedVariables false
set_option maxHeartbeats 4000000
namespace Go.Proofs
open Go.E
def setsC (n : Nat) (S : Nat → Nat → Bool) : List V := (List.range n).map fun k => setC (S k)
theorem setsC_len (n : Nat) (S : Nat → Nat → Bool) : (setsC n S).length = n := by simp [setsC]
theorem setsC_get {n k : Nat} {S : Nat → Nat → Bool} (h : k < n) : (setsC n S)[k]? = some (setC (S k)) := by simp [setsC, h]
theorem setsC_set {n k : Nat} {S : Nat → Nat → Bool} {v : Nat → Bool} (h : k < n) : (setsC n S).set k (setC v) = setsC n (updN S k v) := by
 refine List.ext_getElem? fun i => ?_
 rw [List.getElem?_set]
 by_cases hi : i < n
 · rw [setsC_get hi, setsC_len, setsC_get hi]
   by_cases e : k = i
   · subst e; simp [hi, updN]
   · simp [e, updN, Ne.symm e]
 · rw [List.getElem?_eq_none (by rw [setsC_len]; omega), List.getElem?_eq_none (by rw [setsC_len]; omega)]
   rw [setsC_len]; simp; omega
def orS (a b : Nat → Bool) : Nat → Bool := fun y => a y || b y
def lstA (S : Nat → Nat → Bool) (E : Nat → Bool) : List Int → (Nat → Bool) → (Nat → Bool) × Bool
 | [], a => (a, true)
 | x :: r, a => if x < 1000 then (orS a (memS [x]), false) else if E (x - 1000).toNat = true then lstA S E r (orS a (S (x - 1000).toNat)) else (orS a (S (x - 1000).toNat), false)
abbrev lstF (S : Nat → Nat → Bool) (E : Nat → Bool) (l : List Int) : (Nat → Bool) × Bool := lstA S E l (fun _ => false)
@[reducible] def tabF (g : Grammar) (E : Nat → Bool) (S : Nat → Nat → Bool) (n : Nat) : V := .agg [.sl 6 false (g.toks.map Tok.V), .sl 2 false (g.nons.map Non.V), .sl 6 false (g.prods.map GPr.V), .str g.pro, .str g.tail, .sl 1 false (bolC n E), .sl 16 false (setsC n S)]
theorem setC0 : V.agg [.int .u64 0, .int .u64 0, .int .u64 0, .int .u64 0, .int .u64 0, .int .u64 0, .int .u64 0, .int .u64 0, .int .u64 0, .int .u64 0, .int .u64 0, .int .u64 0, .int .u64 0, .int .u64 0, .int .u64 0, .int .u64 0] = setC (fun _ => false) := by
 have e : ∀ i, word (fun _ => false) i = 0 := fun i => by
  have := word_lt (fun _ => false) i
  refine Nat.eq_of_testBit_eq fun b => ?_
  by_cases hb : b < 64
  · rw [word_bit _ _ _ hb]; simp
  · rw [Nat.testBit_lt_two_pow (Nat.lt_of_lt_of_le this (by
     have : (2 : Nat) ^ 64 ≤ 2 ^ b := Nat.pow_le_pow_right (by omega) (by omega)
     omega))]; simp
 unfold setC cellsW
 simp only [e]
 rfl
theorem post2N {ef : EF} {t a id n : Nat} {ro : Bool} {v res : V} {e : Exit} {s : St} (he : ef.res = [.inr (t, true, n), .inl a]) (hx : e = .normal ∨ e = .ret) (hp : s.f t = .ptr id 0 0) (hH : s.H id = some (.own n [v] ro)) (ha : v.isAgg = true)
 (h : Er true s.H (.tup [v, s.f a]) res) : PurePost ef res e s := by
 have hv : loadV s true n (s.f t) = some v := by rw [hp]; simp only [loadV, hH, List.getElem?_cons_zero, partE, ha, and_self, if_true]
 exact ⟨hx, _, by rw [he]; simp [resV, resL, hv, one], h⟩
theorem first_Table_List {g : Grammar} {E : Nat → Bool} {S : Nat → Nat → Bool} {n : Nat} {l : List Int} (hn : n ≤ 1000000) (hl : l.length ≤ 1000000) (hs : ∀ s ∈ l, s < 1000 ∨ ∃ k : Nat, s = 1000 + (k : Int) ∧ k < n) : Pure Tryd.prog 37 [.iptr 7 (tabF g E S n) 0, .sl 1 false (l.map (V.int .i64))] (.tup [setC (lstF S E l).1, .bool (lstF S E l).2]) := by
 refine pure_intro Tryd.func37 e37_nm e37_ok (by show 2 ≤ 44; decide) ?_
 show ewp _ e37n32 _ _
 repeat' with_reducible first
  | refine s_ ?_
  | simp -implicitDefEqProofs only [wZZ, seval]
 rw [setC0]
 refine ewp_loopN ?nx1 (fun (q : Nat × (Nat → Bool)) s => s.f 0 = ?v1_0 ∧ s.f 4 = ?v1_4 ∧ s.f 6 = ?v1_6 ∧ s.f 9 = ?v1_9 ∧ s.f 10 = ?v1_10 ∧ s.H 0 = some (MObj.own 16 [setC (fun _ => false)] false) ∧ s.f 11 = vi q.1 ∧ (q.1 ≤ l.length) ∧ ((s.H 2 = some (MObj.own 16 [setC q.2] false))) ∧ (lstA S E (l.drop q.1) q.2 = lstF S E l)) (fun q => l.length - q.1) ((0, fun _ => false)) wj_ (by refine ⟨?_, ?_, ?_, ?_, ?_, ?_, ?_, (by first | omega | (simp; done) | assumption), wc_, (by rfl)⟩ <;> first | (simp -implicitDefEqProofs only [wL, wM, wN, wX, seval, Option.some.injEq] <;> exact wt_) | rfl | exact ⟨_, rfl⟩) ?_
 intro q s hnx ⟨g0, g4, g6, g9, g10, o0, g11, k1_0, k1_1, k1_2⟩
 obtain ⟨i, a⟩ := q
 dsimp only at *
 have hz : IntKind.i64.wrap ((i + 1 : Nat) : Int) = ((i + 1 : Nat) : Int) := wrap64 (by omega) (by omega)
 have cl := cellsW_len
 by_cases hi : i < l.length
 · have hx := hs _ (List.getElem_mem hi)
   have hg : l[i]? = some l[i] := List.getElem?_eq_getElem hi
   rw [List.drop_eq_getElem_cons hi] at k1_2
   generalize l[i] = x at *
   rcases hx with hx | ⟨k, rfl, hk⟩
   · rw [lstA, if_pos hx] at k1_2
     have hor := bits_Or (a := a) (b := memS [x])
     have hof := bits_Of (l := [x]) (by simp)
     rw [← k1_2]
     repeat' with_reducible first
      | refine s_ ?_
      | simp -implicitDefEqProofs only [wZZ, seval, g0, g4, g6, g9, g10, g11, o0, k1_1, hz]
      | (refine condQ_j (fun h h_ => ?_) (fun h h_ => ?_) <;> (try simp only [wD, reduceCtorEq] at h_) <;> (try exact wb_) <;> (try simp only [h]))
      | (apply ia_slQ; (focus omega); (focus with_unfolding_all exact hg))
      | (apply ldQ_whole)
      | (apply callQ2 (hp := hor); (focus exact er_cl); (focus exact er_cl))
      | (apply stQ_whole; (exact wu_); (focus exact cl _))
      | (apply callQ1 (hp := bits_Of ?_); (exact we_); rotate_left; (exact wf_))
     refine post2N (id := 0) (v := setC _) (ro := false) rfl (Or.inr rfl) (by (simp -implicitDefEqProofs only [wL, seval, g4])) wc_ rfl ?_
     (simp -implicitDefEqProofs only [wL, seval])
     exact er_cl
   · have hz2 : IntKind.i64.wrap (1000 + (k : Int) - 1000) = (k : Int) := by rw [wrap64 (by omega) (by omega)]; omega
     rw [lstA, if_neg (by omega), show ((1000 + (k : Int)) - 1000).toNat = k by omega] at k1_2
     have hor := bits_Or (a := a) (b := S k)
     have hbg := bolC_get (h := E) hk
     have hsg := setsC_get (S := S) hk
     cases hE : E k with
     | true =>
       rw [if_pos hE] at k1_2
       repeat' with_reducible first
        | refine s_ ?_
        | simp -implicitDefEqProofs only [wZZ, seval, g0, g4, g6, g9, g10, g11, o0, k1_1, hz, hz2, hE]
        | (refine condQ_j (fun h h_ => ?_) (fun h h_ => ?_) <;> (try simp only [wD, reduceCtorEq] at h_) <;> (try exact wb_) <;> (try simp only [h]))
        | (apply ia_slQ; (focus omega); (focus with_unfolding_all exact hg))
        | (apply onS_i (ia_slv (by omega) (by with_unfolding_all exact hbg)))
        | (apply onS_i (ia_slv (by omega) (by with_unfolding_all exact hsg)))
        | (apply ldQ_whole)
        | (apply callQ2 (hp := hor); (focus exact er_cl); (focus exact er_cl))
        | (apply stQ_whole; (exact wu_); (focus exact cl _))
        | (apply ld_ipQ; (exact wu_))
       exact ⟨by ((try simp only [wN]) <;> omega), (i + 1, orS a (S k)), by dsimp only; omega, trivial, trivial, trivial, trivial, trivial, trivial, rfl, by dsimp only; omega, rfl, k1_2⟩
     | false =>
       rw [if_neg (by rw [hE]; exact Bool.false_ne_true)] at k1_2
       rw [← k1_2]
       repeat' with_reducible first
        | refine s_ ?_
        | simp -implicitDefEqProofs only [wZZ, seval, g0, g4, g6, g9, g10, g11, o0, k1_1, hz, hz2, hE]
        | (refine condQ_j (fun h h_ => ?_) (fun h h_ => ?_) <;> (try simp only [wD, reduceCtorEq] at h_) <;> (try exact wb_) <;> (try simp only [h]))
        | (apply ia_slQ; (focus omega); (focus with_unfolding_all exact hg))
        | (apply onS_i (ia_slv (by omega) (by with_unfolding_all exact hbg)))
        | (apply onS_i (ia_slv (by omega) (by with_unfolding_all exact hsg)))
        | (apply ldQ_whole)
        | (apply callQ2 (hp := hor); (focus exact er_cl); (focus exact er_cl))
        | (apply stQ_whole; (exact wu_); (focus exact cl _))
        | (apply ld_ipQ; (exact wu_))
       refine post2N (id := 0) (v := setC _) (ro := false) rfl (Or.inr rfl) (by (simp -implicitDefEqProofs only [wL, seval, g4])) wc_ rfl ?_
       (simp -implicitDefEqProofs only [wL, seval])
       exact er_cl
 · rw [List.drop_eq_nil_of_le (by omega)] at k1_2
   rw [← k1_2]
   repeat' with_reducible first
    | refine s_ ?_
    | simp -implicitDefEqProofs only [wZZ, seval, g0, g4, g6, g9, g10, g11, o0, k1_1]
    | (refine condQ_j (fun h h_ => ?_) (fun h h_ => ?_) <;> (try simp only [wD, reduceCtorEq] at h_) <;> (try exact wb_) <;> (try simp only [h]))
    | (apply ldQ_whole)
    | (apply stQ_whole; (exact wu_); (focus exact cl _))
   refine post2N (id := 0) (v := setC _) (ro := false) rfl (Or.inr rfl) (by (simp -implicitDefEqProofs only [wL, seval, g4])) wc_ rfl ?_
   (simp -implicitDefEqProofs only [wL, seval])
   exact er_cl

def ClosedF (g : Grammar) (E : Nat → Bool) (S : Nat → Nat → Bool) : Prop := ∀ p ∈ g.prods, ∀ y, (lstF S E p.right).1 y = true → S p.left.toNat y = true
structure IsFirst (g : Grammar) (E : Nat → Bool) (S : Nat → Nat → Bool) : Prop where
 closed : ClosedF g E S
 least : ∀ F, ClosedF g E F → ∀ k y, S k y = true → F k y = true
 small : ∀ k y, S k y = true → y < 1024
theorem lstA_mono {S F : Nat → Nat → Bool} {E : Nat → Bool} (h : ∀ k y, S k y = true → F k y = true) : ∀ (l : List Int) (a b : Nat → Bool), (∀ y, a y = true → b y = true) → ∀ y, (lstA S E l a).1 y = true → (lstA F E l b).1 y = true
 | [], a, b, hab, y, hy => hab y hy
 | x :: r, a, b, hab, y, hy => by
   rw [lstA] at hy ⊢
   by_cases hx : x < 1000
   · rw [if_pos hx] at hy ⊢
     unfold orS at *
     rw [Bool.or_eq_true] at *
     exact hy.imp (hab y) id
   · rw [if_neg hx] at hy ⊢
     have ho : ∀ y, orS a (S (x - 1000).toNat) y = true → orS b (F (x - 1000).toNat) y = true := fun y hy => by
      unfold orS at *
      rw [Bool.or_eq_true] at *
      exact hy.imp (hab y) (h _ y)
     by_cases hE : E (x - 1000).toNat = true
     · rw [if_pos hE] at hy ⊢
       exact lstA_mono h r _ _ ho y hy
     · rw [if_neg hE] at hy ⊢
       exact ho y hy
theorem lstA_small {S : Nat → Nat → Bool} {E : Nat → Bool} (h : ∀ k y, S k y = true → y < 1024) : ∀ (l : List Int) (a : Nat → Bool), (∀ y, a y = true → y < 1024) → ∀ y, (lstA S E l a).1 y = true → y < 1024
 | [], a, ha, y, hy => ha y hy
 | x :: r, a, ha, y, hy => by
   rw [lstA] at hy
   have ho : ∀ b : Nat → Bool, (∀ y, b y = true → y < 1024) → ∀ y, orS a b y = true → y < 1024 := fun b hb y hy => by
    unfold orS at hy
    rw [Bool.or_eq_true] at hy
    exact hy.elim (ha y) (hb y)
   by_cases hx : x < 1000
   · rw [if_pos hx] at hy
     exact ho _ (fun y hy => by unfold memS at hy; rw [Bool.and_eq_true, decide_eq_true_eq] at hy; exact hy.1) y hy
   · rw [if_neg hx] at hy
     split at hy
     · exact lstA_small h r _ (ho _ (h _)) y hy
     · exact ho _ (h _) y hy
theorem cf_le {h h' : Nat → Bool} (hh : ∀ y, h y = true → h' y = true) (n : Nat) : cf h' n ≤ cf h n := by
 induction n with
 | zero => exact Nat.le_refl _
 | succ n ih =>
   unfold cf
   by_cases e : h n = true
   · rw [if_pos e, if_pos (hh n e)]; omega
   · rw [if_neg e]; split <;> omega
theorem cf_lt {h h' : Nat → Bool} (hh : ∀ y, h y = true → h' y = true) {y : Nat} (h1 : h y = false) (h2 : h' y = true) : ∀ {n : Nat}, y < n → cf h' n < cf h n
 | n + 1, hy => by
   unfold cf
   by_cases e : y = n
   · subst e
     have := cf_le hh y
     rw [if_pos h2, if_neg (by rw [h1]; exact Bool.false_ne_true)]; omega
   · have := cf_lt hh h1 h2 (n := n) (by omega)
     by_cases e : h n = true
     · rw [if_pos e, if_pos (hh n e)]; omega
     · rw [if_neg e]; split <;> omega
def cfS (S : Nat → Nat → Bool) : Nat → Nat
 | 0 => 0
 | n + 1 => cfS S n + cf (S n) 1024
theorem cfS_upd {S : Nat → Nat → Bool} {k : Nat} {v : Nat → Bool} (hv : cf v 1024 < cf (S k) 1024) : ∀ n, (n ≤ k → cfS (updN S k v) n = cfS S n) ∧ (k < n → cfS (updN S k v) n < cfS S n)
 | 0 => ⟨fun _ => rfl, fun h => by omega⟩
 | n + 1 => by
   obtain ⟨h1, h2⟩ := cfS_upd hv n
   unfold cfS
   by_cases e : n = k
   · subst e
     have e2 : updN S n v n = v := by unfold updN; rw [if_pos rfl]
     rw [e2, h1 (Nat.le_refl _)]
     exact ⟨fun h => by omega, fun _ => by omega⟩
   · have e2 : updN S k v n = S n := by unfold updN; rw [if_neg e]
     rw [e2]
     exact ⟨fun h => by rw [h1 (by omega)], fun h => by have := h2 (by omega); omega⟩
@[reducible] def tabO (g : Grammar) (E : Nat → Bool) (si n : Nat) : V := .agg [.sl 6 false (g.toks.map Tok.V), .sl 2 false (g.nons.map Non.V), .sl 6 false (g.prods.map GPr.V), .str g.pro, .str g.tail, .sl 1 false (bolC n E), .msl si 16 0 n]
theorem Cl_sets (n : Nat) (S : Nat → Nat → Bool) : Cls' (setsC n S) := by
 have : ∀ k : Nat, Cl (setC (S k)) := fun k => ⟨fun b H => er_cl⟩
 exact inferInstanceAs (Cls' (List.map _ _))
theorem tab_er {H : Nat → Option MObj} {m si n : Nat} {g : Grammar} {E : Nat → Bool} {S : Nat → Nat → Bool} (hm : H m = some (.own 7 [tabO g E si n] false)) (hs : H si = some (.own 16 (setsC n S) false)) : Er true H (.ptr m 0 0) (.iptr 7 (tabF g E S n) 0) := by
 have h1 := Cl_bol n E
 have h2 := Cl_sets n S
 refine er_ptr1 (ro := false) hm (ErL.agg (.cons er_cl (.cons er_cl (.cons er_cl (.cons (.str _) (.cons (.str _) (.cons er_cl (.cons ?_ .nil))))))))
 exact er_msl_eq hs (by rw [setsC_len]; omega) (by rw [List.drop_zero]; exact List.take_of_length_le (by rw [setsC_len]; omega))

theorem vain_Empties {g : Grammar} {E : Nat → Bool} (hp : Pure Tryd.prog 44 [g.V, .bool false] (.sl 1 false (bolC g.nons.length E))) : Pure Tryd.prog 55 [g.V] (.sl 1 false (bolC g.nons.length E)) := by
 refine pure_intro Tryd.func55 e55_nm e55_ok (by show 1 ≤ 5; decide) ?_
 show ewp _ e55n3 _ _
 have h1 := Cl_bol g.nons.length E
 repeat' with_reducible first
  | refine s_ ?_
  | simp -implicitDefEqProofs only [wZZ, seval]
  | (apply callQ2 (hp := hp); (focus exact er_cl); (focus exact er_cl))
  | (apply ldQ_whole)
  | (apply boxQ_i; (exact wu_); (exact wu_))
 refine post1 rfl (Or.inr rfl) ?_
 (simp -implicitDefEqProofs only [wL, seval])
 exact er_cl
theorem sets0 (n : Nat) : List.replicate n (V.agg [.int .u64 0, .int .u64 0, .int .u64 0, .int .u64 0, .int .u64 0, .int .u64 0, .int .u64 0, .int .u64 0, .int .u64 0, .int .u64 0, .int .u64 0, .int .u64 0, .int .u64 0, .int .u64 0, .int .u64 0, .int .u64 0]) = setsC n (fun _ _ => false) := by
 rw [setC0]
 refine List.ext_getElem? fun i => ?_
 by_cases h : i < n
 · rw [setsC_get h]; simp [h]
 · rw [List.getElem?_eq_none (by simp; omega), List.getElem?_eq_none (by rw [setsC_len]; omega)]
theorem ldS {K : V → Prop} {nn k : Nat} {S : Nat → Nat → Bool} {ro : Bool} (h : k < nn) (hk : K (setC (S k))) : onS (ldQ (some (.own 16 (setsC nn S) ro)) true 16 k 0) K := by
 have e : ldQ (some (.own 16 (setsC nn S) ro)) true 16 k 0 = some (setC (S k)) := by simp [ldQ, setsC_get h, partE, V.isAgg]
 rw [e]; exact hk
theorem stS {K : St → Prop} {s : St} {nn k id : Nat} {x : Nat → Bool} {S : Nat → Nat → Bool} (h : k < nn) (hk : K (s.setO id (some (.own 16 (setsC nn (updN S k x)) false)))) : onS (stQ s (some (.own 16 (setsC nn S) false)) 16 id k 0 (.agg (cellsW x))) K := by
 have e : stQ s (some (.own 16 (setsC nn S) false)) 16 id k 0 (.agg (cellsW x)) = some (s.setO id (some (.own 16 (setsC nn (updN S k x)) false))) := by
  rw [← setsC_set h]
  simp [stQ, setsC_get h, V.cells, V.okCell, storeE, V.isAgg, cellsW_len]
 rw [e]; exact hk
theorem Flat_set (m : Nat → Bool) (b : Bool) : Flat (.tup [setC m, .bool b]) := .tup _ fun c hc => by
 rcases List.mem_cons.1 hc with rfl | hc
 · exact .agg _ fun c hc => by obtain ⟨q, _, rfl⟩ := List.mem_map.1 hc; exact .int _ _
 · rw [List.mem_singleton] at hc; subst hc; exact .bool _
theorem newE {H : Nat → Option MObj} {next : Nat} {g : Grammar} {E : Nat → Bool} (hg : GOk g) (hp : Pure Tryd.prog 44 [g.V, .bool false] (.sl 1 false (bolC g.nons.length E))) : ECalls Tryd.prog 36 [g.V] H next (fun v H' next' => next ≤ next' ∧ (∃ m si S, v = .ptr m 0 0 ∧ H' m = some (.own 7 [tabO g E si g.nons.length] false) ∧ H' si = some (.own 16 (setsC g.nons.length S) false) ∧ IsFirst g E S ∧ next ≤ m ∧ m < next' ∧ next ≤ si ∧ si < next' ∧ m ≠ si) ∧ ∀ j, j < next → H' j = H j) := by
 refine ecalls_intro Tryd.func36 e36_nm e36_ok (by show 1 ≤ 64; decide) ?_
 show ewp _ e36n38 _ _
 have hem := vain_Empties hp
 have hnl := hg.nn2; have hpl := hg.pl2
 have hs0 := sets0 g.nons.length
 repeat' with_reducible first
  | refine s_ ?_
  | simp -implicitDefEqProofs only [wZZ, seval]
  | (apply callQ1 (hp := hem); (focus exact er_cl))
  | (apply bld_nil)
  | (apply bld_part; (exact wu_); (exact wu_); (exact wu_); (focus ((try simp -implicitDefEqProofs only [wE, Nat.reduceAdd]); rfl)))
  | (apply ldQ_whole)
  | (apply ldQ_cell; (exact wu_))
  | (apply boxQ_i; (exact wu_); (exact wu_))
  | (apply mkQ_T; (exact wf_); (exact wf_); (focus (unfold maxLen; first | omega | (simp only [wZ] <;> omega))))
 rw [hs0]
 refine ewp_loopN ?nx1 (fun (q : (Nat → Nat → Bool) × Bool) s => s.f 1 = ?v1_1 ∧ s.f 3 = ?v1_3 ∧ s.f 4 = .bool q.2 ∧ ((s.H (next + 2 + 6) = some (MObj.own 16 (setsC g.nons.length q.1) false))) ∧ ((∀ F, ClosedF g E F → ∀ k y, q.1 k y = true → F k y = true)) ∧ ((∀ k y, q.1 k y = true → y < 1024)) ∧ ((q.2 = false → ClosedF g E q.1)) ∧ ((∀ j, j < next → s.H j = H j)) ∧ (s.H next = some (MObj.own 5 [g.V] false) ) ∧ (s.H (next + 2 + 8) = some (MObj.own 7 [tabO g E (next + 2 + 6) g.nons.length] false) )) (fun q => 2 * cfS q.1 g.nons.length + (if q.2 = true then 1 else 0)) ((fun _ _ => false, true)) wj_ (by refine ⟨?_, ?_, ?_, wc_, (by intro F _ k y h; cases h), (by intro k y h; cases h), (by intro h; cases h), (by intro j hj; (simp only [wM]; (repeat first | rw [if_pos trivial] | rw [if_pos rfl] | rw [if_neg (by omega)]))), (by (try simp -implicitDefEqProofs only [wL, wM, wN, seval]); first | done | (repeat first | rw [if_pos trivial] | rw [if_pos rfl] | rw [if_neg (by omega)])), (by (try simp -implicitDefEqProofs only [wL, wM, wN, seval]); first | done | (repeat first | rw [if_pos trivial] | rw [if_pos rfl] | rw [if_neg (by omega)]))⟩ <;> first | (simp -implicitDefEqProofs only [wL, wM, wN, wX, seval, Option.some.injEq] <;> exact wt_) | rfl | exact ⟨_, rfl⟩) ?_
 intro q s hnx ⟨g1, g3, g4, k1_0, k1_1, k1_2, k1_3, k1_4, o100, o101⟩
 obtain ⟨S, b⟩ := q
 dsimp only at *
 cases b with
 | false =>
   have hcl := k1_3 rfl
   repeat' with_reducible first
    | refine s_ ?_
    | simp -implicitDefEqProofs only [wZZ, seval, g1, g3, g4, o100, o101, k1_0]
   refine heap1 rfl (Or.inr rfl) ?_
   refine ⟨by ((try simp only [wN]) <;> omega), ⟨next + 2 + 8, next + 2 + 6, S, by (simp -implicitDefEqProofs only [wL, seval, g3]), by (simp only [wM]; (repeat first | rw [if_pos trivial] | rw [if_pos rfl] | rw [if_neg (by omega)])); exact o101, by (simp only [wM]; (repeat first | rw [if_pos trivial] | rw [if_pos rfl] | rw [if_neg (by omega)])); exact k1_0, ⟨hcl, k1_1, k1_2⟩, by omega, by ((try simp only [wN]) <;> omega), by omega, by ((try simp only [wN]) <;> omega), by omega⟩, fun j hj => by (simp only [wM]; (repeat first | rw [if_pos trivial] | rw [if_pos rfl] | rw [if_neg (by omega)])); exact k1_4 j hj⟩
 | true =>
   repeat' with_reducible first
    | refine s_ ?_
    | simp -implicitDefEqProofs only [wZZ, seval, g1, g3, g4, o100, o101, k1_0]
    | (apply ldQ_cell; (exact wu_))
   refine ewp_loopN ?nx2 (fun (r : Nat × (Nat → Nat → Bool) × Bool) s => s.f 1 = ?v2_1 ∧ s.f 3 = ?v2_3 ∧ s.f 20 = ?v2_20 ∧ s.f 21 = ?v2_21 ∧ s.H next = some (MObj.own 5 [g.V] false) ∧ s.H (next + 2 + 8) = some (MObj.own 7 [tabO g E (next + 2 + 6) g.nons.length] false) ∧ s.f 4 = .bool r.2.2 ∧ s.f 22 = vi r.1 ∧ (r.1 ≤ g.prods.length) ∧ ((s.H (next + 2 + 6) = some (MObj.own 16 (setsC g.nons.length r.2.1) false))) ∧ ((∀ F, ClosedF g E F → ∀ k y, r.2.1 k y = true → F k y = true)) ∧ ((∀ k y, r.2.1 k y = true → y < 1024)) ∧ ((r.2.2 = false → r.2.1 = S ∧ ∀ p ∈ g.prods.take r.1, ∀ y, (lstF S E p.right).1 y = true → S p.left.toNat y = true)) ∧ ((r.2.2 = true → cfS r.2.1 g.nons.length < cfS S g.nons.length)) ∧ ((∀ j, j < next → s.H j = H j))) (fun r => g.prods.length - r.1) ((0, S, false)) wj_ (by refine ⟨?_, ?_, ?_, ?_, ?_, ?_, ?_, ?_, (by first | omega | (simp; done) | assumption), (by (simp only [wM]; (repeat first | rw [if_pos trivial] | rw [if_pos rfl] | rw [if_neg (by omega)])); exact k1_0), (by exact k1_1), (by exact k1_2), (by exact fun _ => ⟨rfl, fun p hp => by simp at hp⟩), (by (intro h; cases h)), (by intro j hj; (simp only [wM]; (repeat first | rw [if_pos trivial] | rw [if_pos rfl] | rw [if_neg (by omega)])); exact k1_4 j hj)⟩ <;> first | (simp -implicitDefEqProofs only [wL, wM, wN, wX, seval, Option.some.injEq, g1, g3, g4, o100, o101] <;> exact wt_) | rfl | exact ⟨_, rfl⟩) ?_
   intro r s hnx ⟨g1, g3, g20, g21, o0, o1, g4, g22, k2_0, k2_1, k2_2, k2_3, k2_4, k2_5, k2_6⟩
   obtain ⟨i, S', b'⟩ := r
   dsimp only at *
   have hz : IntKind.i64.wrap ((i + 1 : Nat) : Int) = ((i + 1 : Nat) : Int) := wrap64 (by omega) (by omega)
   have cl := cellsW_len
   by_cases hi : i < g.prods.length
   · have hmem := List.getElem_mem hi
     obtain ⟨lf, hl1, hl2⟩ := hg.left _ hmem
     have hrt := hg.rt hmem
     have hrl := hg.rlen _ hmem
     have htk : g.prods.take (i + 1) = g.prods.take i ++ [g.prods[i]] := by rw [List.take_add_one, List.getElem?_eq_getElem hi]; rfl
     have hgp : g.prods[i]? = some g.prods[i] := List.getElem?_eq_getElem hi
     generalize hp : g.prods[i] = p at *
     have hpm : p ∈ g.prods := hp ▸ List.getElem_mem hi
     clear hp
     obtain ⟨pl, pr, pc, pco, pa, pat⟩ := p
     dsimp only at hl1 hrt hrl
     subst hl1
     have hlist := first_Table_List (g := g) (E := E) (S := S') (n := g.nons.length) (l := pr) (by omega) (by omega) hrt
     have hsm := lstA_small (E := E) k2_3 pr (fun _ => false) (fun y h => by cases h)
     have hmon : ∀ F, ClosedF g E F → ∀ y, (lstF S' E pr).1 y = true → F lf y = true := fun F hF y hy => hF _ hpm y (lstA_mono (k2_2 F hF) pr _ _ (fun y h => h) y hy)
     have hdef : (lstF S' E pr).1 = (lstF S' E pr).1 := rfl
     generalize hA : (lstF S' E pr).1 = A at *
     generalize hB : (lstF S' E pr).2 = B at *
     have hor := bits_Or (a := A) (b := S' lf)
     have heq := bits_Eq (a := fun y => A y || S' lf y) (b := S' lf)
     have hnew : (b' = false → S' = S ∧ ∀ p ∈ g.prods.take i, ∀ y, (lstF S E p.right).1 y = true → S p.left.toNat y = true) → (∀ y, A y = true → S' lf y = true) → (b' = false → S' = S ∧ ∀ p ∈ g.prods.take (i + 1), ∀ y, (lstF S E p.right).1 y = true → S p.left.toNat y = true) := fun q1 q2 hb => by
      obtain ⟨e1, e2⟩ := q1 hb
      refine ⟨e1, fun p hp => ?_⟩
      rw [htk] at hp
      rcases List.mem_append.1 hp with hp | hp
      · exact e2 p hp
      · rw [List.mem_singleton] at hp; subst hp
        subst e1
        intro y hy
        exact q2 y (by rw [← hA]; exact hy)
     repeat' with_reducible first
      | refine s_ ?_
      | simp -implicitDefEqProofs only [wZZ, seval, g1, g3, g20, g21, g4, g22, o0, o1, k2_1, hz]
      | (refine condQ_j (fun h h_ => ?_) (fun h h_ => ?_) <;> (try simp only [wD, reduceCtorEq] at h_) <;> (try exact wb_) <;> (try simp only [h]))
      | (apply ia_slQ; (focus omega); (focus with_unfolding_all exact hgp))
      | (apply ldQ_cell; (exact wu_))
      | (apply stQ_whole; (exact wu_); (exact wu_))
     refine callQB2 (x' := .iptr 7 (tabF g E S' g.nons.length) 0) (y' := .sl 1 false (pr.map (V.int .i64))) (tab_er (si := next + 2 + 6) (by (simp only [wM]; (repeat first | rw [if_pos trivial] | rw [if_pos rfl] | rw [if_neg (by omega)])); exact o1) (by (simp only [wM]; (repeat first | rw [if_pos trivial] | rw [if_pos rfl] | rw [if_neg (by omega)])); exact k2_1)) er_cl hlist rfl (Flat_set _ _) ?_
     cases heS : eqS (fun y => A y || S' lf y) (S' lf) with
     | true =>
       rw [heS] at heq
       rw [eqS_iff] at heS
       repeat' with_reducible first
        | refine s_ ?_
        | simp -implicitDefEqProofs only [wZZ, seval, g1, g3, g20, g21, g4, g22, o0, o1, k2_1, hz]
        | (apply ldQ_whole)
        | (refine ldS hl2 ?_)
        | (apply callQ2 (hp := hor); (focus exact er_cl); (focus exact er_cl))
        | (apply callQ2 (hp := heq); (focus exact er_cl); (focus exact er_cl))
        | (apply stQ_whole; (exact wu_); (focus exact cl _))
        | (apply ia_mslQ; (focus omega); (exact wf_))
        | (apply ldQ_cell; (exact wu_))
        | simp -implicitDefEqProofs (disch := omega) only [w64, if_neg]
       all_goals
        refine ⟨by ((try simp only [wN]) <;> omega), (i + 1, S', b'), by dsimp only; omega, trivial, trivial, trivial, trivial, trivial, trivial, rfl, rfl, by dsimp only; omega, rfl, k2_2, k2_3, hnew k2_4 (fun y hy => ?_), k2_5, fun j hj => by (try simp only [wM]); (repeat first | rw [if_pos trivial] | rw [if_pos rfl] | rw [if_neg (by omega)]); exact k2_6 j hj⟩
        have := heS y (hsm y hy)
        rw [hy, Bool.true_or] at this
        exact this.symm
     | false =>
       rw [heS] at heq
       repeat' with_reducible first
        | refine s_ ?_
        | simp -implicitDefEqProofs only [wZZ, seval, g1, g3, g20, g21, g4, g22, o0, o1, k2_1, hz]
        | (apply ldQ_whole)
        | (refine ldS hl2 ?_)
        | (apply callQ2 (hp := hor); (focus exact er_cl); (focus exact er_cl))
        | (apply callQ2 (hp := heq); (focus exact er_cl); (focus exact er_cl))
        | (apply stQ_whole; (exact wu_); (focus exact cl _))
        | (refine stS hl2 ?_)
        | (apply ia_mslQ; (focus omega); (exact wf_))
        | (apply ldQ_cell; (exact wu_))
        | simp -implicitDefEqProofs (disch := omega) only [w64, if_neg]
       all_goals
        refine ⟨by ((try simp only [wN]) <;> omega), (i + 1, updN S' lf (fun y => A y || S' lf y), true), by dsimp only; omega, trivial, trivial, trivial, trivial, trivial, trivial, rfl, rfl, by dsimp only; omega, rfl, fun F hF k y hk => ?_, fun k y hk => ?_, fun e => (by cases e), fun _ => ?_, fun j hj => by (try simp only [wM]); (repeat first | rw [if_pos trivial] | rw [if_pos rfl] | rw [if_neg (by omega)]); exact k2_6 j hj⟩
        · dsimp only at hk
          unfold updN at hk
          split at hk
          · rename_i e; subst e
            rw [Bool.or_eq_true] at hk
            exact hk.elim (hmon F hF y) (k2_2 F hF _ y)
          · exact k2_2 F hF k y hk
        · dsimp only at hk
          unfold updN at hk
          split at hk
          · rw [Bool.or_eq_true] at hk
            exact hk.elim (hsm y) (k2_3 _ y)
          · exact k2_3 k y hk
        · have hex : ∃ y, y < 1024 ∧ S' lf y = false ∧ A y = true := by
           refine Classical.byContradiction fun hn => ?_
           have : eqS (fun y => A y || S' lf y) (S' lf) = true := (eqS_iff _ _).2 fun y hy => by
            cases hy1 : S' lf y with
            | true => simp
            | false =>
              cases hy2 : A y with
              | false => rfl
              | true => exact absurd ⟨y, hy, hy1, hy2⟩ hn
           rw [heS] at this; cases this
          obtain ⟨y, hy, h1, h2⟩ := hex
          have := (cfS_upd (S := S') (k := lf) (v := fun y => A y || S' lf y) (cf_lt (fun y hy => by simp [hy]) h1 (by simp [h2]) hy) g.nons.length).2 hl2
          show cfS (updN S' lf (fun y => A y || S' lf y)) g.nons.length < _
          cases b' with
          | false => have e := (k2_4 rfl).1; subst e; omega
          | true => have := k2_5 rfl; omega
   · have e : i = g.prods.length := by omega
     subst e
     rw [List.take_length] at k2_4
     repeat' with_reducible first
      | refine s_ ?_
      | simp -implicitDefEqProofs only [wZZ, seval, g1, g3, g20, g21, g4, g22, o0, o1, k2_1]
     refine ⟨by ((try simp only [wN]) <;> omega), (S', b'), ?_, trivial, trivial, rfl, rfl, k2_2, k2_3, fun hb => ?_, k2_6, by first | trivial | exact o0, by first | trivial | exact o1⟩
     · dsimp only
       cases b' with
       | false => have e := (k2_4 rfl).1; subst e; simp
       | true => have := k2_5 rfl; simp; omega
     · obtain ⟨e1, e2⟩ := k2_4 hb
       dsimp only
       rw [e1]; exact e2

abbrev Rise (l : List Int) : Prop := l.Pairwise (· < ·)
theorem rise_ext : ∀ {a b : List Int}, Rise a → Rise b → (∀ x, x ∈ a ↔ x ∈ b) → a = b
 | [], [], _, _, _ => rfl
 | [], y :: b, _, _, h => absurd ((h y).2 (List.mem_cons_self ..)) (by simp)
 | x :: a, [], _, _, h => absurd ((h x).1 (List.mem_cons_self ..)) (by simp)
 | x :: a, y :: b, ha, hb, h => by
   have ha' := List.pairwise_cons.1 ha
   have hb' := List.pairwise_cons.1 hb
   have hxy : x = y := by
    have h1 := (h x).1 (List.mem_cons_self ..)
    have h2 := (h y).2 (List.mem_cons_self ..)
    rcases List.mem_cons.1 h1 with e | e
    · exact e
    · rcases List.mem_cons.1 h2 with e2 | e2
      · exact e2.symm
      · have := hb'.1 x e; have := ha'.1 y e2; omega
   subst hxy
   congr 1
   refine rise_ext ha'.2 hb'.2 fun z => ?_
   have hz := h z
   simp only [List.mem_cons] at hz
   constructor
   · intro hm
     rcases hz.1 (Or.inr hm) with e | e
     · subst e; have := ha'.1 z hm; omega
     · exact e
   · intro hm
     rcases hz.2 (Or.inr hm) with e | e
     · subst e; have := hb'.1 z hm; omega
     · exact e
theorem cutP_hi (l : List Int) (x : Int) (n : Nat) : ∀ i, cutP l x n ≤ i → i < n → x < l.getD i 0 := by
 induction n with
 | zero => intro i _ h; omega
 | succ n ih =>
   intro i h1 h2
   rw [cutP_succ] at h1
   split at h1
   · rename_i hlt
     by_cases hi : i = n
     · subst hi; exact hlt
     · exact ih i h1 (by omega)
   · omega
theorem cutP_lo (l : List Int) (x : Int) (n : Nat) : 0 < cutP l x n → l.getD (cutP l x n - 1) 0 ≤ x := by
 induction n with
 | zero => intro h; simp [cutP] at h
 | succ n ih =>
   rw [cutP_succ]
   split
   · exact ih
   · rename_i h; intro _; simpa using h
theorem putL_mem {l : List Int} {x y : Int} : y ∈ putL l x ↔ y ∈ l ∨ y = x := by
 have hk := cutP_le l x l.length
 unfold putL
 split
 · rename_i h
   constructor
   · exact Or.inl
   · rintro (h1 | h1)
     · exact h1
     · subst h1
       rw [← h.2, getD_eq (by omega)]
       exact List.getElem_mem _
 · have e : ∀ y, y ∈ l ↔ y ∈ l.take (cutP l x l.length) ∨ y ∈ l.drop (cutP l x l.length) := by
    intro y
    conv => lhs; rw [← List.take_append_drop (cutP l x l.length) l]
    rw [List.mem_append]
   simp only [List.mem_append, List.mem_singleton, e y]
   constructor
   · rintro ((h | h) | h)
     · exact Or.inl (Or.inl h)
     · exact Or.inr h
     · exact Or.inl (Or.inr h)
   · rintro ((h | h) | h)
     · exact Or.inl (Or.inl h)
     · exact Or.inr h
     · exact Or.inl (Or.inr h)
theorem rise_get {l : List Int} (h : Rise l) {i j : Nat} (hij : i < j) (hj : j < l.length) : l.getD i 0 < l.getD j 0 := by
 rw [getD_eq (by omega), getD_eq hj]
 exact (List.pairwise_iff_getElem.1 h) i j (by omega) hj hij
theorem putL_rise {l : List Int} {x : Int} (h : Rise l) : Rise (putL l x) := by
 have hk := cutP_le l x l.length
 have hhi := cutP_hi l x l.length
 have hlo := cutP_lo l x l.length
 unfold putL
 split
 · exact h
 · rename_i hn
   generalize cutP l x l.length = k at *
   have h1 : ∀ y ∈ l.take k, y < x := by
    intro y hy
    obtain ⟨i, hi, rfl⟩ := List.getElem_of_mem hy
    simp only [List.length_take] at hi
    rw [List.getElem_take, ← getD_eq (by omega)]
    have h0 := hlo (by omega)
    have hne : l.getD (k - 1) 0 ≠ x := fun e => hn ⟨by omega, e⟩
    by_cases hik : i = k - 1
    · subst hik; omega
    · have := rise_get h (show i < k - 1 by omega) (by omega); omega
   have h2 : ∀ y ∈ l.drop k, x < y := by
    intro y hy
    obtain ⟨i, hi, rfl⟩ := List.getElem_of_mem hy
    simp only [List.length_drop] at hi
    rw [List.getElem_drop, ← getD_eq (by omega)]
    exact hhi (k + i) (by omega) (by omega)
   rw [Rise, List.append_assoc, List.pairwise_append]
   refine ⟨h.sublist (List.take_sublist _ _), ?_, ?_⟩
   · rw [List.singleton_append, List.pairwise_cons]
     exact ⟨h2, h.sublist (List.drop_sublist _ _)⟩
   · intro a ha b hb
     have h3 := h1 a ha
     rw [List.singleton_append] at hb
     rcases List.mem_cons.1 hb with e | e
     · subst e; exact h3
     · have := h2 b e; omega
theorem lst_rise (m : Nat → Bool) (n : Nat) : Rise (lst m n) := by
 unfold lst Rise
 rw [List.pairwise_map]
 refine List.Pairwise.imp (fun h => ?_) ((List.pairwise_lt_range (n := n)).filter _)
 exact Int.ofNat_lt.2 h

theorem IsFirst.uniq {g : Grammar} {E : Nat → Bool} {S F : Nat → Nat → Bool} (h : IsFirst g E S) (k : IsFirst g E F) : S = F := by
 funext n y
 rw [Bool.eq_iff_iff]
 exact ⟨h.least F k.closed n y, k.least S h.closed n y⟩
theorem first_ex {g : Grammar} {E : Nat → Bool} (hg : GOk g) (hp : Pure Tryd.prog 44 [g.V, .bool false] (.sl 1 false (bolC g.nons.length E))) : ∃ S, IsFirst g E S := by
 obtain ⟨v, H', n', ⟨_, ⟨m, si, S, _, _, _, h, _⟩, _⟩, _⟩ := newE (H := fun _ => none) (next := 0) hg hp
 exact ⟨S, h⟩
def symOkB (nt nn : Nat) (x : Int) : Bool := decide (0 ≤ x ∧ x < nt) || decide (1000 ≤ x ∧ x < 1000 + (nn : Int))
theorem symOkB_iff {nt nn : Nat} {x : Int} : symOkB nt nn x = true ↔ SymIn nt nn x := by
 unfold symOkB SymIn
 simp only [Bool.or_eq_true, decide_eq_true_eq]
 constructor
 · rintro (h | h)
   · exact Or.inl ⟨x.toNat, by omega, by omega⟩
   · exact Or.inr ⟨(x - 1000).toNat, by omega, by omega⟩
 · rintro (⟨t, h1, h2⟩ | ⟨k, h1, h2⟩)
   · exact Or.inl (by omega)
   · exact Or.inr (by omega)
def firstL (nt nn : Nat) (S : Nat → Nat → Bool) (E : Nat → Bool) (l : List Int) : List Int × Bool :=
 if l.all (symOkB nt nn) = true then (lst (lstF S E l).1 1024, (lstF S E l).2) else ([], false)
theorem first_List {g : Grammar} {E : Nat → Bool} {S : Nat → Nat → Bool} {l : List Int} (hg : GOk g) (hp : Pure Tryd.prog 44 [g.V, .bool false] (.sl 1 false (bolC g.nons.length E))) (hS : IsFirst g E S) (hl : l.length ≤ 1000000) : Pure Tryd.prog 13 [g.V, .sl 1 false (l.map (V.int .i64))] (.tup [.sl 1 false ((firstL g.toks.length g.nons.length S E l).1.map (V.int .i64)), .bool (firstL g.toks.length g.nons.length S E l).2]) := by
 refine pure_intro Tryd.func13 e13_nm e13_ok (by show 2 ≤ 48; decide) ?_
 show ewp _ e13n24 _ _
 have hnl := hg.nn2; have htl := hg.tk2
 have hz3 : IntKind.i64.wrap (1000 + (g.nons.length : Int)) = 1000 + (g.nons.length : Int) := wrap64 (by omega) (by omega)
 repeat' with_reducible first
  | refine s_ ?_
  | simp -implicitDefEqProofs only [wZZ, seval]
  | (apply boxQ_i; (exact wu_); (exact wu_))
 refine ewp_loopN ?nx1 (fun (i : Nat) s => s.f 1 = ?v1_1 ∧ s.f 2 = ?v1_2 ∧ s.f 10 = ?v1_10 ∧ s.f 11 = ?v1_11 ∧ s.H 0 = some (MObj.own 5 [g.V] false) ∧ s.f 12 = vi i ∧ (i ≤ l.length) ∧ (∀ x ∈ l.take i, symOkB g.toks.length g.nons.length x = true)) (fun i => l.length - i) (0) wj_ (by refine ⟨?_, ?_, ?_, ?_, ?_, ?_, (by first | omega | (simp; done) | assumption), (by first | omega | (simp; done) | assumption)⟩ <;> first | (simp -implicitDefEqProofs only [wL, wM, wN, wX, seval, Option.some.injEq] <;> exact wt_) | rfl | exact ⟨_, rfl⟩) ?_
 intro i s hnx ⟨g1, g2, g10, g11, o0, g12, k1_0, k1_1⟩
 have hz : IntKind.i64.wrap ((i + 1 : Nat) : Int) = ((i + 1 : Nat) : Int) := wrap64 (by omega) (by omega)
 by_cases hi : i < l.length
 · have hbad : symOkB g.toks.length g.nons.length l[i] = false → firstL g.toks.length g.nons.length S E l = ([], false) := fun h => by
    unfold firstL; rw [if_neg]; intro e; rw [List.all_eq_true] at e; have := e _ (List.getElem_mem hi); rw [h] at this; cases this
   have hgood : symOkB g.toks.length g.nons.length l[i] = true → ∀ x ∈ l.take (i + 1), symOkB g.toks.length g.nons.length x = true := fun h x hx => by
    rw [List.take_add_one, List.getElem?_eq_getElem hi] at hx
    rcases List.mem_append.1 hx with hx | hx
    · exact k1_1 x hx
    · simp at hx; subst hx; exact h
   have hgi : l[i]? = some l[i] := List.getElem?_eq_getElem hi
   generalize l[i] = x at *
   repeat' with_reducible first
    | refine s_ ?_
    | simp -implicitDefEqProofs only [wZZ, seval, g1, g2, g10, g11, g12, o0, hz, hz3]
    | (refine condQ_j (fun h h_ => ?_) (fun h h_ => ?_) <;> (try simp only [wD, reduceCtorEq] at h_) <;> (try exact wb_) <;> (try simp only [h]))
    | ((first | refine gdQ_iT (fun h => ?_) (fun h => ?_) | refine gdQ_iF (fun h => ?_) (fun h => ?_)) <;> have h_ := h <;> (try simp only [wD, reduceCtorEq] at h_) <;> (try exact wb_) <;> (try simp only [h]))
    | (apply ia_slQ; (focus omega); (focus with_unfolding_all exact hgi))
    | (apply ldQ_cell; (exact wu_))
   all_goals first
    | (rw [hbad (by unfold symOkB; simp; omega)]
       refine post2 rfl (Or.inr rfl) ?_
       (simp -implicitDefEqProofs only [wL, seval])
       exact ErL.tup (.cons er_sl (.cons (.bool _) .nil)))
    | (refine ⟨by ((try simp only [wN]) <;> omega), i + 1, by omega, trivial, trivial, trivial, trivial, trivial, rfl, by omega, hgood (by unfold symOkB; simp; omega)⟩)
 · rw [List.take_of_length_le (by omega)] at k1_1
   have e : firstL g.toks.length g.nons.length S E l = (lst (lstF S E l).1 1024, (lstF S E l).2) := by unfold firstL; rw [if_pos (List.all_eq_true.2 k1_1)]
   rw [e]
   repeat' with_reducible first
    | refine s_ ?_
    | simp -implicitDefEqProofs only [wZZ, seval, g1, g2, g10, g11, g12, o0]
    | (refine condQ_j (fun h h_ => ?_) (fun h h_ => ?_) <;> (try simp only [wD, reduceCtorEq] at h_) <;> (try exact wb_) <;> (try simp only [h]))
    | (apply ldQ_whole)
   have hsy : ∀ s ∈ l, s < 1000 ∨ ∃ k : Nat, s = 1000 + (k : Int) ∧ k < g.nons.length := fun s hs => by
    rcases symOkB_iff.1 (k1_1 s hs) with ⟨t, e, h⟩ | h
    · exact Or.inl (by omega)
    · exact Or.inr h
   refine callQWc rfl rfl rfl ((newE hg hp).mono ?_)
   rintro v1 H1 n1 ⟨q1, ⟨m, si, S1, rfl, hm, hs, hF, b1, b2, b3, b4, b5⟩, q4⟩
   have eS := hF.uniq hS
   subst eS
   have hlist := first_Table_List (g := g) (E := E) (S := S1) (n := g.nons.length) (l := l) (by omega) hl hsy
   have hsl := bits_Set_List (m := (lstF S1 E l).1)
   repeat' with_reducible first
    | simp -implicitDefEqProofs only [wZZ, seval, g1, g2, g10, g11, g12, o0]
   refine callQB2 (x' := .iptr 7 (tabF g E S1 g.nons.length) 0) (y' := .sl 1 false (l.map (V.int .i64))) (tab_er hm hs) er_cl hlist rfl (Flat_set _ _) ?_
   have cl := cellsW_len
   repeat' with_reducible first
    | refine s_ ?_
    | simp -implicitDefEqProofs only [wZZ, seval, g1, g2, g10, g11, g12, o0]
    | (apply ldQ_whole)
    | (apply stQ_whole; (exact wu_); (focus exact cl _))
    | (apply callQ1 (hp := hsl); (focus exact er_cl))
   refine post2 rfl (Or.inr rfl) ?_
   (simp -implicitDefEqProofs only [wL, seval])
   exact ErL.tup (.cons er_cl (.cons (.bool _) .nil))
end Go.Proofs
