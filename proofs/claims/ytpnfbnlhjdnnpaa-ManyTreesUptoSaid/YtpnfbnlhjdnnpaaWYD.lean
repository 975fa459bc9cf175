/- Part of a proof that a law of the given program answers true. -/
import Derived.Test.YtpnfbnlhjdnnpaaWYC
set_option linter.unusedSimpArgs false
set_option linter.unusedVariables false
set_option maxHeartbeats 4000000
namespace Go.Proofs
open Go.E
def intC (n : Nat) (l : Nat → Int) : List V := (List.range n).map fun k => vi (l k)
theorem intC_len (n : Nat) (l : Nat → Int) : (intC n l).length = n := by simp [intC]
theorem intC_get {n k : Nat} {l : Nat → Int} (hk : k < n) : (intC n l)[k]? = some (vi (l k)) := by simp [intC, hk]
theorem intC_ext {n : Nat} {a b : Nat → Int} (h : ∀ i, i < n → a i = b i) : intC n a = intC n b := by
 unfold intC
 refine List.map_congr_left fun i hi => ?_
 rw [h i (List.mem_range.1 hi)]
def updI (l : Nat → Int) (k : Nat) (x : Int) : Nat → Int := fun i => if i = k then x else l i
theorem intC_set {n k : Nat} {l : Nat → Int} {x : Int} : (intC n l).set k (vi x) = intC n (updI l k x) := by
 refine List.ext_getElem? fun i => ?_
 rw [List.getElem?_set]
 by_cases hi : i < n
 · rw [intC_get hi, intC_len, intC_get hi]
   by_cases e : k = i
   · subst e; simp [hi, updI]
   · simp [e, updI, Ne.symm e]
 · rw [List.getElem?_eq_none (by rw [intC_len]; omega), List.getElem?_eq_none (by rw [intC_len]; omega)]
   rw [intC_len]; simp; omega
theorem intC_0 (n : Nat) : List.replicate n (V.int .i64 0) = intC n (fun _ => 0) := by
 refine List.ext_getElem? fun i => ?_
 by_cases h : i < n
 · rw [intC_get h]; simp [h]
 · rw [List.getElem?_eq_none (by simp; omega), List.getElem?_eq_none (by rw [intC_len]; omega)]
theorem ldI {K : V → Prop} {n k : Nat} {l : Nat → Int} {ro : Bool} (h : k < n) (hk : K (vi (l k))) : onS (ldQ (some (.own 1 (intC n l) ro)) false 1 k 0) K := by
 have e : ldQ (some (.own 1 (intC n l) ro)) false 1 k 0 = some (vi (l k)) := by simp [ldQ, intC_get h, partE, V.isAgg]
 rw [e]; exact hk
theorem stI {K : St → Prop} {s : St} {n k id : Nat} {l : Nat → Int} {x : Int} (h : k < n) (hk : K (s.setO id (some (.own 1 (intC n (updI l k x)) false)))) : onS (stQ s (some (.own 1 (intC n l) false)) 1 id k 0 (.int .i64 x)) K := by
 have e : stQ s (some (.own 1 (intC n l) false)) 1 id k 0 (.int .i64 x) = some (s.setO id (some (.own 1 (intC n (updI l k x)) false))) := by
  rw [← intC_set]
  simp [stQ, intC_get h, V.cells, V.okCell, storeE, V.isAgg]
 rw [e]; exact hk
theorem intC_cls (n : Nat) (l : Nat → Int) : Cls' (intC n l) := inferInstanceAs (Cls' (List.map _ _))
theorem er_intM {H : Nat → Option MObj} {id n : Nat} {ro : Bool} {l : Nat → Int} (hH : H id = some (.own 1 (intC n l) ro)) : Er true H (.msl id 1 0 n) (.sl 1 false (intC n l)) := by
 have := intC_cls n l
 exact er_msl_eq hH (by rw [intC_len]; omega) (by rw [List.drop_zero]; exact List.take_of_length_le (by rw [intC_len]; omega))
def posB (l : Nat → Int) : Nat → Bool := fun k => decide (0 ≤ l k)
theorem posB_t {l : Nat → Int} {k : Nat} : posB l k = true ↔ 0 ≤ l k := by unfold posB; rw [decide_eq_true_eq]
structure LowR (g : Grammar) (r : Nat) (l : Nat → Int) : Prop where
 ok : ∀ k, k < g.nons.length → 0 ≤ l k → ∃ (m : Nat) (p : GPr), l k = (m : Int) ∧ g.prods[m]? = some p ∧ p.left = (k : Int) ∧ fitsB true (posB l) p.right = true
 sound : ∀ F, ClosedG g true F → ∀ k, k < g.nons.length → 0 ≤ l k → F k = true
 far : ClosedG g true (posB l) ∨ cf (posB l) g.nons.length + r ≤ g.nons.length
structure LowN (g : Grammar) (l l' : Nat → Int) (i : Nat) : Prop where
 keep : ∀ k, k < g.nons.length → 0 ≤ l k → l' k = l k
 new : ∀ k, k < g.nons.length → l k < 0 → l' k = l k ∨ ∃ (m : Nat) (p : GPr), l' k = (m : Int) ∧ g.prods[m]? = some p ∧ p.left = (k : Int) ∧ fitsB true (posB l) p.right = true
 all : ∀ p ∈ g.prods.take i, fitsB true (posB l) p.right = true → l p.left.toNat < 0 → 0 ≤ l' p.left.toNat
theorem LowN.init (g : Grammar) (l : Nat → Int) : LowN g l l 0 := ⟨fun _ _ _ => rfl, fun _ _ _ => Or.inl rfl, fun p hp => by simp at hp⟩
theorem LowN.skip {g : Grammar} {l l' : Nat → Int} {i : Nat} {p : GPr} (h : LowN g l l' i) (hp : g.prods[i]? = some p) (hn : ¬ (l p.left.toNat < 0 ∧ fitsB true (posB l) p.right = true)) : LowN g l l' (i + 1) :=
 ⟨h.keep, h.new, fun q hq h1 h2 => by
  rw [List.take_add_one, hp] at hq
  rcases List.mem_append.1 hq with hq | hq
  · exact h.all q hq h1 h2
  · have e : q = p := by simpa using hq
    subst e; exact absurd ⟨h2, h1⟩ hn⟩
theorem LowN.put {g : Grammar} {l l' : Nat → Int} {i k : Nat} {p : GPr} (h : LowN g l l' i) (hp : g.prods[i]? = some p) (hl : p.left = (k : Int)) (h1 : l k < 0) (h2 : fitsB true (posB l) p.right = true) : LowN g l (updI l' k (i : Int)) (i + 1) := by
 refine ⟨fun q hq h0 => ?_, fun q hq h0 => ?_, fun q hq q1 q2 => ?_⟩
 · unfold updI; split
   · rename_i e; subst e; omega
   · exact h.keep q hq h0
 · unfold updI; split
   · rename_i e; subst e; exact Or.inr ⟨i, p, rfl, hp, hl, h2⟩
   · exact h.new q hq h0
 · unfold updI; split
   · omega
   · rename_i e
     rw [List.take_add_one, hp] at hq
     rcases List.mem_append.1 hq with hq | hq
     · exact h.all q hq q1 q2
     · have e2 : q = p := by simpa using hq
       subst e2; rw [hl] at e; exact absurd rfl e
theorem cf_mono {h h' : Nat → Bool} : ∀ {n : Nat}, (∀ k, k < n → h k = true → h' k = true) → cf h' n ≤ cf h n
 | 0, _ => Nat.le_refl _
 | n + 1, hh => by
   have := cf_mono (n := n) fun k hk => hh k (by omega)
   have := hh n (by omega)
   unfold cf
   cases h1 : h n <;> cases h2 : h' n <;> simp_all <;> omega
theorem cf_lt {h h' : Nat → Bool} : ∀ {n : Nat}, (∀ k, k < n → h k = true → h' k = true) → (∃ k, k < n ∧ h k = false ∧ h' k = true) → cf h' n < cf h n
 | 0, _, ⟨k, hk, _⟩ => by omega
 | n + 1, hh, ⟨k, hk, h1, h2⟩ => by
   have m := cf_mono (n := n) fun k hk => hh k (by omega)
   unfold cf
   by_cases e : k = n
   · subst e; rw [h1, h2]; simp; omega
   · have := cf_lt (n := n) (fun k hk => hh k (by omega)) ⟨k, by omega, h1, h2⟩
     have := hh n (by omega)
     cases h3 : h n <;> cases h4 : h' n <;> simp_all <;> omega
theorem cf_0 {h : Nat → Bool} : ∀ {n : Nat}, cf h n = 0 → ∀ k, k < n → h k = true
 | 0, _, k, hk => by omega
 | n + 1, h0, k, hk => by
   unfold cf at h0
   by_cases e : k = n
   · subst e
     cases h1 : h k
     · rw [h1] at h0; simp at h0
     · rfl
   · exact cf_0 (n := n) (by omega) k (by omega)
theorem cf_le (h : Nat → Bool) : ∀ n : Nat, cf h n ≤ n
 | 0 => Nat.le_refl _
 | n + 1 => by have := cf_le h n; unfold cf; split <;> omega
theorem fitsB_on {n : Nat} {h F : Nat → Bool} {l : List Int} (hr : ∀ s ∈ l, s < 1000 ∨ ∃ k : Nat, s = 1000 + (k : Int) ∧ k < n) (hh : ∀ k, k < n → h k = true → F k = true) (hl : fitsB true h l = true) : fitsB true F l = true := by
 unfold fitsB at *
 rw [List.all_eq_true] at *
 intro s hs
 have := hl s hs
 rcases hr s hs with h1 | ⟨k, rfl, hk⟩
 · rw [if_pos h1]
 · rw [if_neg (by omega)] at this ⊢
   rw [show (1000 + (k : Int) - 1000).toNat = k by omega] at this ⊢
   exact hh k hk this
theorem LowR.next {g : Grammar} {r : Nat} {l l' : Nat → Int} (hg : GOk g) (h : LowR g r l) (hn : LowN g l l' g.prods.length) : LowR g (r + 1) l' := by
 have up : ∀ k, k < g.nons.length → posB l k = true → posB l' k = true := fun k hk h1 => by
  rw [posB_t] at h1 ⊢
  rw [hn.keep k hk h1]; exact h1
 have al := hn.all
 rw [List.take_length] at al
 refine ⟨fun k hk h0 => ?_, fun F hF k hk h0 => ?_, ?_⟩
 · by_cases hl : 0 ≤ l k
   · obtain ⟨m, p, h1, h2, h3, h4⟩ := h.ok k hk hl
     exact ⟨m, p, (hn.keep k hk hl).trans h1, h2, h3, fitsB_on (rt_ok hg (List.mem_of_getElem? h2)) up h4⟩
   · rcases hn.new k hk (by omega) with e | ⟨m, p, h1, h2, h3, h4⟩
     · omega
     · exact ⟨m, p, h1, h2, h3, fitsB_on (rt_ok hg (List.mem_of_getElem? h2)) up h4⟩
 · by_cases hl : 0 ≤ l k
   · exact h.sound F hF k hk hl
   · rcases hn.new k hk (by omega) with e | ⟨m, p, h1, h2, h3, h4⟩
     · omega
     · have := hF p (List.mem_of_getElem? h2) (fitsB_on (rt_ok hg (List.mem_of_getElem? h2)) (fun q hq h5 => h.sound F hF q hq (posB_t.1 h5)) h4)
       rwa [h3, Int.toNat_natCast] at this
 · by_cases hx : ∃ k, k < g.nons.length ∧ posB l k = false ∧ posB l' k = true
   · rcases h.far with hc | hc
     · obtain ⟨k, hk, h1, h2⟩ := hx
       have hl : ¬ 0 ≤ l k := fun e => by rw [posB_t.2 e] at h1; cases h1
       rcases hn.new k hk (by omega) with e | ⟨m, p, _, h3, h4, h5⟩
       · rw [posB_t] at h2; omega
       · have := hc p (List.mem_of_getElem? h3) h5
         rw [h4, Int.toNat_natCast, h1] at this; cases this
     · have := cf_lt up hx
       exact Or.inr (by omega)
   · left
     have dn : ∀ k, k < g.nons.length → posB l' k = true → posB l k = true := fun k hk h1 => by
      cases h2 : posB l k
      · exact absurd ⟨k, hk, h2, h1⟩ hx
      · rfl
     intro p hp hf
     have hf2 := fitsB_on (rt_ok hg hp) dn hf
     obtain ⟨lf, e, hlf⟩ := hg.left p hp
     have a := al p hp hf2
     rw [e, Int.toNat_natCast] at a ⊢
     by_cases h0 : l lf < 0
     · exact posB_t.2 (a h0)
     · exact up lf hlf (posB_t.2 (by omega))
theorem LowR.init (g : Grammar) : LowR g 0 (fun _ => -1) :=
 ⟨fun k _ h => by omega, fun F _ k _ h => by omega, Or.inr (by have := cf_le (posB fun _ => -1) g.nons.length; omega)⟩
structure IsLow (g : Grammar) (l : Nat → Int) : Prop where
 ok : ∀ k, k < g.nons.length → 0 ≤ l k → ∃ (m : Nat) (p : GPr), l k = (m : Int) ∧ g.prods[m]? = some p ∧ p.left = (k : Int) ∧ fitsB true (posB l) p.right = true
 sound : ∀ F, ClosedG g true F → ∀ k, k < g.nons.length → 0 ≤ l k → F k = true
 closed : ClosedG g true (posB l)
theorem LowR.done {g : Grammar} {l : Nat → Int} (hg : GOk g) (h : LowR g g.nons.length l) : IsLow g l := by
 refine ⟨h.ok, h.sound, ?_⟩
 rcases h.far with hc | hc
 · exact hc
 · intro p hp _
   obtain ⟨lf, e, hlf⟩ := hg.left p hp
   rw [e, Int.toNat_natCast]
   exact cf_0 (by omega) lf hlf
theorem IsLow.get {g : Grammar} {l : Nat → Int} {E : Nat → Bool} (hl : IsLow g l) (hE : IsGrow g true E) (hg : GOk g) {k : Nat} (hk : k < g.nons.length) (h : E k = true) : ∃ (m : Nat) (p : GPr), l k = (m : Int) ∧ g.prods[m]? = some p ∧ p.left = (k : Int) ∧ fitsB true E p.right = true := by
 have h1 := hE.least _ hl.closed k h
 obtain ⟨m, p, e1, e2, e3, e4⟩ := hl.ok k hk (posB_t.1 h1)
 exact ⟨m, p, e1, e2, e3, fitsB_on (rt_ok hg (List.mem_of_getElem? e2)) (fun q hq h5 => hl.sound E hE.closed q hq (posB_t.1 h5)) e4⟩

theorem appQ_mslM {cls : Cls} {id : Nat} {s : St} {K : V → St → Prop} {z bytes ti yi n m : Nat} {es ys : List V} {ro : Bool} (hcl : (cls == .t) = false) (hH : s.H ti = some (.own z es false)) (hn : n = es.length) (hY : s.H yi = some (.own z ys ro)) (hm : m = ys.length)
 (hb : (es.length + ys.length) * bytes ≤ 140737488355328) (hl : es.length + ys.length ≤ maxLen)
 (hk : K (.msl id z 0 (es.length + ys.length)) ((s.setO ti none).setO id (some (.own z (es ++ ys) false)))) : appQ cls id s K true z bytes (.msl ti z 0 n) (.msl yi z 0 m) := by
 subst hn hm
 have hs : srcV s z (.msl yi z 0 ys.length) = some ys := by simp [srcV, hY]
 unfold appQ
 rw [hs]
 refine ⟨fun e => (by subst e; cases hcl), ?_⟩
 have e : appendS id s true z (.msl ti z 0 es.length) ys = some (.msl id z 0 (es.length + ys.length), (s.setO ti none).setO id (some (.own z (es ++ ys) false)), es.length + ys.length) := by simp [appendS, hH]
 rw [e]
 exact ⟨hb, hl, hk⟩
theorem ref_lowest {g : Grammar} (hg : GOk g) : ∃ l, IsLow g l ∧ Pure Try.prog 32 [g.V] (.sl 1 false (intC g.nons.length l)) := by
 have hh := pure_ex (G := fun v => ∃ l, v = .sl 1 false (intC g.nons.length l) ∧ IsLow g l) (args := [g.V]) Try.func32 e32_nm e32_ok (by show 1 ≤ 95; decide) ?_
 · obtain ⟨v, ⟨l, rfl, h⟩, h2⟩ := hh
   exact ⟨l, h, h2⟩
 show ewp _ e32n66 _ _
 have hnl := hg.nn2; have hpl := hg.pl2
 have hb0 : List.replicate g.nons.length (V.int .i64 0) = intC g.nons.length (fun k => if k < 0 then -1 else 0) := (intC_0 _).trans (intC_ext fun k _ => by rw [if_neg (by omega)])
 repeat' with_reducible first
  | refine s_ ?_
  | simp -implicitDefEqProofs only [wZZ, seval]
  | (apply ldQ_cell; (exact wu_))
  | (apply boxQ_i; (exact wu_); (exact wu_))
  | (apply mkQ_T; (exact wf_); (exact wf_); (focus (unfold maxLen; first | omega | (simp only [wZ] <;> omega))))
 rw [hb0]
 refine ewp_loopN ?nx1 (fun (i : Nat) s => s.f 1 = ?v1_1 ∧ s.f 3 = ?v1_3 ∧ s.H 0 = some (MObj.own 5 [g.V] false) ∧ s.f 4 = vi i ∧ (i ≤ g.nons.length) ∧ ((s.H 5 = some (MObj.own 1 (intC g.nons.length (fun k => if k < i then -1 else 0)) false)))) (fun i => g.nons.length - i) (0) wj_ (by refine ⟨?_, ?_, ?_, ?_, (by first | omega | (simp; done) | assumption), wc_⟩ <;> first | (simp -implicitDefEqProofs only [wL, wM, wN, wX, seval, Option.some.injEq] <;> exact wt_) | rfl | exact ⟨_, rfl⟩) ?_
 intro i s hnx ⟨g1, g3, o0, g4, k1_0, k1_1⟩
 have hz : IntKind.i64.wrap ((i + 1 : Nat) : Int) = ((i + 1 : Nat) : Int) := wrap64 (by omega) (by omega)
 by_cases hi : i < g.nons.length
 · have hst : intC g.nons.length (updI (fun k => if k < i then -1 else 0) i (-1)) = intC g.nons.length (fun k => if k < i + 1 then -1 else 0) := intC_ext fun k _ => by
    unfold updI
    by_cases e : k = i
    · subst e; rw [if_pos rfl, if_pos (by omega)]
    · rw [if_neg e]
      dsimp only
      by_cases h : k < i
      · rw [if_pos h, if_pos (by omega)]
      · rw [if_neg h, if_neg (by omega)]
   repeat' with_reducible first
    | refine s_ ?_
    | simp -implicitDefEqProofs only [wZZ, seval, g1, g3, g4, o0, k1_1, hz]
    | (refine condQ_j (fun h h_ => ?_) (fun h h_ => ?_) <;> (try simp only [wD, reduceCtorEq] at h_) <;> (try exact wb_) <;> (try simp only [h]))
    | (apply ia_mslQ; (focus omega); (focus omega))
    | (refine stI hi ?_)
   rw [hst]
   refine ⟨wk_, i + 1, (by omega), ?_⟩
   refine ⟨?_, ?_, ?_, ?_, ?_, ?_⟩
   iterate 4 (focus (first | (simp -implicitDefEqProofs only [wL, wM, wN, wX, seval, Option.some.injEq, g1, g3, g4, o0] <;> exact wt_) | rfl | exact ⟨_, rfl⟩))
   all_goals try omega
   all_goals first | trivial | rfl
 · have hmn : intC g.nons.length (fun k => if k < i then (-1 : Int) else 0) = intC g.nons.length (fun _ => -1) := intC_ext fun k hk => by rw [if_pos (by omega)]
   rw [hmn] at k1_1
   repeat' with_reducible first
    | refine s_ ?_
    | simp -implicitDefEqProofs only [wZZ, seval, g1, g3, g4, o0, k1_1]
    | (refine condQ_j (fun h h_ => ?_) (fun h h_ => ?_) <;> (try simp only [wD, reduceCtorEq] at h_) <;> (try exact wb_) <;> (try simp only [h]))
   refine ewp_loopN ?nx2 (fun (q : Nat × Nat × (Nat → Int)) s => s.f 1 = ?v2_1 ∧ s.H 0 = some (MObj.own 5 [g.V] false) ∧ s.f 3 = .msl q.2.1 1 0 g.nons.length ∧ s.f 5 = vi q.1 ∧ (q.1 ≤ g.nons.length) ∧ (LowR g q.1 q.2.2) ∧ ((s.H q.2.1 = some (MObj.own 1 (intC g.nons.length q.2.2) false))) ∧ (1 ≤ q.2.1) ∧ (q.2.1 < s.next)) (fun q => g.nons.length - q.1) ((0, 5, fun _ => -1)) wj_ (by refine ⟨?_, ?_, ?_, ?_, (by first | omega | (simp; done) | assumption), (by exact LowR.init g), (by (simp only [wM]; (repeat first | rw [if_pos trivial] | rw [if_pos rfl] | rw [if_neg (by omega)])); exact k1_1), (by first | omega | (simp; done) | assumption), (by ((try simp only [wN]) <;> omega))⟩ <;> first | (simp -implicitDefEqProofs only [wL, wM, wN, wX, seval, Option.some.injEq, g1, g3, g4, o0] <;> exact wt_) | rfl | exact ⟨_, rfl⟩) ?_
   intro q s hnx ⟨g1, o0, g3, g5, k2_0, k2_1, k2_2, k2_3, k2_4⟩
   obtain ⟨r, li, l⟩ := q
   dsimp only at *
   have hzr : IntKind.i64.wrap ((r + 1 : Nat) : Int) = ((r + 1 : Nat) : Int) := wrap64 (by omega) (by omega)
   by_cases hr : r < g.nons.length
   · have hil : (intC g.nons.length l).length = g.nons.length := intC_len _ _
     repeat' with_reducible first
      | refine s_ ?_
      | simp -implicitDefEqProofs only [wZZ, seval, g1, g3, g5, o0, k2_2]
      | (refine condQ_j (fun h h_ => ?_) (fun h h_ => ?_) <;> (try simp only [wD, reduceCtorEq] at h_) <;> (try exact wb_) <;> (try simp only [h]))
     refine appQ_mslM (es := []) (ys := intC g.nons.length l) (ro := false) rfl (by ((try simp only [wM]); (repeat first | rw [if_pos trivial] | rw [if_pos rfl] | rw [if_neg (by omega)]))) rfl (by ((try simp only [wM]); (repeat first | rw [if_pos trivial] | rw [if_pos rfl] | rw [if_neg (by omega)])); exact k2_2) hil.symm (by rw [hil]; simp; omega) (by rw [hil]; unfold maxLen; simp; omega) ?_
     rw [hil]
     simp only [List.nil_append, List.length_nil, Nat.zero_add]
     obtain ⟨ni, hni⟩ : ∃ ni, ni = s.next + 4 + 2 := ⟨_, rfl⟩
     rw [← hni]
     repeat' with_reducible first
      | refine s_ ?_
      | simp -implicitDefEqProofs only [wZZ, seval, g1, g3, g5, o0]
     refine ewp_loopN ?nx3 (fun (p : Nat × (Nat → Int)) s => s.f 1 = ?v3_1 ∧ s.f 3 = ?v3_3 ∧ s.f 5 = ?v3_5 ∧ s.f 6 = ?v3_6 ∧ s.f 7 = vi p.1 ∧ (p.1 ≤ g.prods.length) ∧ (LowN g l p.2 p.1) ∧ ((s.H ni = some (MObj.own 1 (intC g.nons.length p.2) false))) ∧ ((s.H li = some (MObj.own 1 (intC g.nons.length l) false))) ∧ ((s.H 0 = some (MObj.own 5 [g.V] false)))) (fun p => g.prods.length - p.1) ((0, l)) wj_ (by refine ⟨?_, ?_, ?_, ?_, ?_, (by first | omega | (simp; done) | assumption), (by exact LowN.init g l), wc_, (by (simp only [wM]; (repeat first | rw [if_pos trivial] | rw [if_pos rfl] | rw [if_neg (by omega)])); exact k2_2), (by (simp only [wM]; (repeat first | rw [if_pos trivial] | rw [if_pos rfl] | rw [if_neg (by omega)])); exact o0)⟩ <;> first | (simp -implicitDefEqProofs only [wL, wM, wN, wX, seval, Option.some.injEq, g1, g3, g5, o0] <;> exact wt_) | rfl | exact ⟨_, rfl⟩) ?_
     intro p s hnx ⟨g1, g3, g5, g6, g7, k3_0, k3_1, k3_2, k3_3, k3_4⟩
     obtain ⟨i, l'⟩ := p
     dsimp only at *
     have hz : IntKind.i64.wrap ((i + 1 : Nat) : Int) = ((i + 1 : Nat) : Int) := wrap64 (by omega) (by omega)
     by_cases hi : i < g.prods.length
     · have hmem := List.getElem_mem hi
       obtain ⟨lf, hl1, hl2⟩ := hg.left _ hmem
       have hrt := rt_ok hg hmem
       have hrl := hg.rlen _ hmem
       generalize hp : g.prods[i] = p at *
       have hgp : g.prods[i]? = some p := by rw [List.getElem?_eq_getElem hi, hp]
       clear hp
       obtain ⟨pl, pr, pc, pco, pa, pat⟩ := p
       dsimp only at hl1 hrt hrl
       subst hl1
       repeat' with_reducible first
        | refine s_ ?_
        | simp -implicitDefEqProofs only [wZZ, seval, g1, g3, g5, g6, g7, k3_2, k3_3, k3_4, hz]
        | (refine condQ_j (fun h h_ => ?_) (fun h h_ => ?_) <;> (try simp only [wD, reduceCtorEq] at h_) <;> (try exact wb_) <;> (try simp only [h]))
        | (apply ia_mslQ; (focus omega); (focus omega))
        | (refine ldI hl2 ?_)
        | (apply ia_slQ; (focus omega); (focus with_unfolding_all exact hgp))
        | (apply ldQ_cell; (exact wu_))
        | (apply ld_ipQ; (exact wu_))
       refine ewp_loopN ?nx4 (fun (k : Nat) s => s.f 1 = ?v4_1 ∧ s.f 3 = ?v4_3 ∧ s.f 5 = ?v4_5 ∧ s.f 6 = ?v4_6 ∧ s.f 7 = ?v4_7 ∧ s.f 9 = vi k ∧ (k ≤ pr.length) ∧ ((s.H ni = some (MObj.own 1 (intC g.nons.length l') false))) ∧ ((s.H li = some (MObj.own 1 (intC g.nons.length l) false))) ∧ ((s.H 0 = some (MObj.own 5 [g.V] false))) ∧ (s.f 8 = .bool (decide (l lf < 0) && fitsB true (posB l) (pr.take k)))) (fun k => pr.length - k) (0) wj_ (by refine ⟨?_, ?_, ?_, ?_, ?_, ?_, (by first | omega | (simp; done) | assumption), (by (simp only [wM]; (repeat first | rw [if_pos trivial] | rw [if_pos rfl] | rw [if_neg (by omega)])); exact k3_2), (by (simp only [wM]; (repeat first | rw [if_pos trivial] | rw [if_pos rfl] | rw [if_neg (by omega)])); exact k3_3), (by (simp only [wM]; (repeat first | rw [if_pos trivial] | rw [if_pos rfl] | rw [if_neg (by omega)])); exact k3_4), (by (try simp -implicitDefEqProofs only [wL, wM, wN, seval, g1, g3, g5, g6, g7]); simp [fitsB])⟩ <;> first | (simp -implicitDefEqProofs only [wL, wM, wN, wX, seval, Option.some.injEq, g1, g3, g5, g6, g7] <;> exact wt_) | rfl | exact ⟨_, rfl⟩) ?_
       intro k s hnx ⟨g1, g3, g5, g6, g7, g9, k4_0, k4_1, k4_2, k4_3, g8⟩
       have hzk : IntKind.i64.wrap ((k + 1 : Nat) : Int) = ((k + 1 : Nat) : Int) := wrap64 (by omega) (by omega)
       by_cases hk : k < pr.length
       · have hgk : pr[k]? = some pr[k] := List.getElem?_eq_getElem hk
         have hst := fitsB_snoc true (posB l) (pr.take k) pr[k]
         rw [show pr.take k ++ [pr[k]] = pr.take (k + 1) by rw [List.take_add_one, hgk]; rfl] at hst
         have hst := congrArg (fun b => decide (l lf < 0) && b) hst
         rw [← Bool.and_assoc] at hst
         have hsr := hrt _ (List.getElem_mem hk)
         generalize pr[k] = sy at *
         generalize (decide (l lf < 0) && fitsB true (posB l) (pr.take k)) = q at *
         rcases hsr with hs | ⟨m, rfl, hm⟩
         · rw [if_pos hs, Bool.and_true] at hst
           cases q with
           | false =>
             repeat' with_reducible first
              | refine s_ ?_
              | simp -implicitDefEqProofs only [wZZ, seval, g1, g3, g5, g6, g7, g9, g8, k4_1, k4_2, k4_3, hzk]
              | (refine condQ_j (fun h h_ => ?_) (fun h h_ => ?_) <;> (try simp only [wD, reduceCtorEq] at h_) <;> (try exact wb_) <;> (try simp only [h]))
              | (apply ia_slQ; (focus omega); (focus with_unfolding_all exact hgp))
              | (apply ia_slQ; (focus omega); (focus with_unfolding_all exact hgk))
              | (apply ldQ_cell; (exact wu_))
              | (apply ld_ipQ; (exact wu_))
             refine ⟨wk_, k + 1, (by omega), ?_⟩
             refine ⟨?_, ?_, ?_, ?_, ?_, ?_, ?_, ?_, ?_, ?_, ?_⟩
             iterate 6 (focus (first | (simp -implicitDefEqProofs only [wL, wM, wN, wX, seval, Option.some.injEq, g1, g3, g5, g6, g7, g9, g8, hst, k4_1, k4_2, k4_3] <;> exact wt_) | rfl | exact ⟨_, rfl⟩))
             all_goals try omega
             all_goals try simp -implicitDefEqProofs only [wL, wM, wN, wX, seval, g1, g3, g5, g6, g7, g9, g8, hst, k4_1, k4_2, k4_3]
             all_goals first | trivial | rfl
           | true =>
             repeat' with_reducible first
              | refine s_ ?_
              | simp -implicitDefEqProofs only [wZZ, seval, g1, g3, g5, g6, g7, g9, g8, k4_1, k4_2, k4_3, hzk]
              | (refine condQ_j (fun h h_ => ?_) (fun h h_ => ?_) <;> (try simp only [wD, reduceCtorEq] at h_) <;> (try exact wb_) <;> (try simp only [h]))
              | ((first | refine gdQ_iT (fun h => ?_) (fun h => ?_) | refine gdQ_iF (fun h => ?_) (fun h => ?_)) <;> have h_ := h <;> (try simp only [wD, reduceCtorEq] at h_) <;> (try exact wb_) <;> (try simp only [h]))
              | (apply ia_slQ; (focus omega); (focus with_unfolding_all exact hgp))
              | (apply ia_slQ; (focus omega); (focus with_unfolding_all exact hgk))
              | (apply ldQ_cell; (exact wu_))
              | (apply ld_ipQ; (exact wu_))
             refine ⟨wk_, k + 1, (by omega), ?_⟩
             refine ⟨?_, ?_, ?_, ?_, ?_, ?_, ?_, ?_, ?_, ?_, ?_⟩
             iterate 6 (focus (first | (simp -implicitDefEqProofs only [wL, wM, wN, wX, seval, Option.some.injEq, g1, g3, g5, g6, g7, g9, g8, hst, k4_1, k4_2, k4_3] <;> exact wt_) | rfl | exact ⟨_, rfl⟩))
             all_goals try omega
             all_goals try simp -implicitDefEqProofs only [wL, wM, wN, wX, seval, g1, g3, g5, g6, g7, g9, g8, hst, k4_1, k4_2, k4_3]
             all_goals first | trivial | rfl
         · have hzm : IntKind.i64.wrap (1000 + (m : Int) - 1000) = (m : Int) := by rw [wrap64 (by omega) (by omega)]; omega
           rw [if_neg (by omega), show (1000 + (m : Int) - 1000).toNat = m by omega] at hst
           cases hb : posB l m with
           | false =>
             rw [hb, Bool.and_false] at hst
             have hb2 : decide (0 ≤ l m) = false := hb
             cases q with
             | false =>
               repeat' with_reducible first
                | refine s_ ?_
                | simp -implicitDefEqProofs only [wZZ, seval, g1, g3, g5, g6, g7, g9, g8, k4_1, k4_2, k4_3, hzk, hzm, hb2]
                | (refine condQ_j (fun h h_ => ?_) (fun h h_ => ?_) <;> (try simp only [wD, reduceCtorEq] at h_) <;> (try exact wb_) <;> (try simp only [h]))
                | (apply ia_slQ; (focus omega); (focus with_unfolding_all exact hgp))
                | (apply ia_slQ; (focus omega); (focus with_unfolding_all exact hgk))
                | (apply ldQ_cell; (exact wu_))
                | (apply ld_ipQ; (exact wu_))
               refine ⟨wk_, k + 1, (by omega), ?_⟩
               refine ⟨?_, ?_, ?_, ?_, ?_, ?_, ?_, ?_, ?_, ?_, ?_⟩
               iterate 6 (focus (first | (simp -implicitDefEqProofs only [wL, wM, wN, wX, seval, Option.some.injEq, g1, g3, g5, g6, g7, g9, g8, hst, k4_1, k4_2, k4_3] <;> exact wt_) | rfl | exact ⟨_, rfl⟩))
               all_goals try omega
               all_goals try simp -implicitDefEqProofs only [wL, wM, wN, wX, seval, g1, g3, g5, g6, g7, g9, g8, hst, k4_1, k4_2, k4_3]
               all_goals first | trivial | rfl
             | true =>
               repeat' with_reducible first
                | refine s_ ?_
                | simp -implicitDefEqProofs only [wZZ, seval, g1, g3, g5, g6, g7, g9, g8, k4_1, k4_2, k4_3, hzk, hzm, hb2]
                | (refine condQ_j (fun h h_ => ?_) (fun h h_ => ?_) <;> (try simp only [wD, reduceCtorEq] at h_) <;> (try exact wb_) <;> (try simp only [h]))
                | ((first | refine gdQ_iT (fun h => ?_) (fun h => ?_) | refine gdQ_iF (fun h => ?_) (fun h => ?_)) <;> have h_ := h <;> (try simp only [wD, reduceCtorEq] at h_) <;> (try exact wb_) <;> (try simp only [h]))
                | (apply ia_slQ; (focus omega); (focus with_unfolding_all exact hgp))
                | (apply ia_slQ; (focus omega); (focus with_unfolding_all exact hgk))
                | (apply ia_mslQ; (focus omega); (focus omega))
                | (refine ldI hm ?_)
                | (apply ldQ_cell; (exact wu_))
                | (apply ld_ipQ; (exact wu_))
               refine ⟨wk_, k + 1, (by omega), ?_⟩
               refine ⟨?_, ?_, ?_, ?_, ?_, ?_, ?_, ?_, ?_, ?_, ?_⟩
               iterate 6 (focus (first | (simp -implicitDefEqProofs only [wL, wM, wN, wX, seval, Option.some.injEq, g1, g3, g5, g6, g7, g9, g8, hst, k4_1, k4_2, k4_3] <;> exact wt_) | rfl | exact ⟨_, rfl⟩))
               all_goals try omega
               all_goals try simp -implicitDefEqProofs only [wL, wM, wN, wX, seval, g1, g3, g5, g6, g7, g9, g8, hst, k4_1, k4_2, k4_3]
               all_goals first | trivial | rfl
           | true =>
             rw [hb, Bool.and_true] at hst
             have hb2 : decide (0 ≤ l m) = true := hb
             cases q with
             | false =>
               repeat' with_reducible first
                | refine s_ ?_
                | simp -implicitDefEqProofs only [wZZ, seval, g1, g3, g5, g6, g7, g9, g8, k4_1, k4_2, k4_3, hzk, hzm, hb2]
                | (refine condQ_j (fun h h_ => ?_) (fun h h_ => ?_) <;> (try simp only [wD, reduceCtorEq] at h_) <;> (try exact wb_) <;> (try simp only [h]))
                | (apply ia_slQ; (focus omega); (focus with_unfolding_all exact hgp))
                | (apply ia_slQ; (focus omega); (focus with_unfolding_all exact hgk))
                | (apply ldQ_cell; (exact wu_))
                | (apply ld_ipQ; (exact wu_))
               refine ⟨wk_, k + 1, (by omega), ?_⟩
               refine ⟨?_, ?_, ?_, ?_, ?_, ?_, ?_, ?_, ?_, ?_, ?_⟩
               iterate 6 (focus (first | (simp -implicitDefEqProofs only [wL, wM, wN, wX, seval, Option.some.injEq, g1, g3, g5, g6, g7, g9, g8, hst, k4_1, k4_2, k4_3] <;> exact wt_) | rfl | exact ⟨_, rfl⟩))
               all_goals try omega
               all_goals try simp -implicitDefEqProofs only [wL, wM, wN, wX, seval, g1, g3, g5, g6, g7, g9, g8, hst, k4_1, k4_2, k4_3]
               all_goals first | trivial | rfl
             | true =>
               repeat' with_reducible first
                | refine s_ ?_
                | simp -implicitDefEqProofs only [wZZ, seval, g1, g3, g5, g6, g7, g9, g8, k4_1, k4_2, k4_3, hzk, hzm, hb2]
                | (refine condQ_j (fun h h_ => ?_) (fun h h_ => ?_) <;> (try simp only [wD, reduceCtorEq] at h_) <;> (try exact wb_) <;> (try simp only [h]))
                | ((first | refine gdQ_iT (fun h => ?_) (fun h => ?_) | refine gdQ_iF (fun h => ?_) (fun h => ?_)) <;> have h_ := h <;> (try simp only [wD, reduceCtorEq] at h_) <;> (try exact wb_) <;> (try simp only [h]))
                | (apply ia_slQ; (focus omega); (focus with_unfolding_all exact hgp))
                | (apply ia_slQ; (focus omega); (focus with_unfolding_all exact hgk))
                | (apply ia_mslQ; (focus omega); (focus omega))
                | (refine ldI hm ?_)
                | (apply ldQ_cell; (exact wu_))
                | (apply ld_ipQ; (exact wu_))
               refine ⟨wk_, k + 1, (by omega), ?_⟩
               refine ⟨?_, ?_, ?_, ?_, ?_, ?_, ?_, ?_, ?_, ?_, ?_⟩
               iterate 6 (focus (first | (simp -implicitDefEqProofs only [wL, wM, wN, wX, seval, Option.some.injEq, g1, g3, g5, g6, g7, g9, g8, hst, k4_1, k4_2, k4_3] <;> exact wt_) | rfl | exact ⟨_, rfl⟩))
               all_goals try omega
               all_goals try simp -implicitDefEqProofs only [wL, wM, wN, wX, seval, g1, g3, g5, g6, g7, g9, g8, hst, k4_1, k4_2, k4_3]
               all_goals first | trivial | rfl
       · rw [List.take_of_length_le (by omega)] at g8
         cases hfit : (decide (l lf < 0) && fitsB true (posB l) pr) with
         | false =>
           rw [hfit] at g8
           have hn := k3_1.skip hgp (fun ⟨e1, e2⟩ => by rw [show l (lf : Int).toNat = l lf from rfl] at e1; rw [decide_eq_true e1, e2] at hfit; cases hfit)
           repeat' with_reducible first
            | refine s_ ?_
            | simp -implicitDefEqProofs only [wZZ, seval, g1, g3, g5, g6, g7, g9, g8, k4_1, k4_2, k4_3, hz]
            | (refine condQ_j (fun h h_ => ?_) (fun h h_ => ?_) <;> (try simp only [wD, reduceCtorEq] at h_) <;> (try exact wb_) <;> (try simp only [h]))
            | (apply ia_slQ; (focus omega); (focus with_unfolding_all exact hgp))
            | (apply ldQ_cell; (exact wu_))
            | (apply ld_ipQ; (exact wu_))
           refine ⟨wk_, (i + 1, l'), (by omega), ?_⟩
           refine ⟨?_, ?_, ?_, ?_, ?_, ?_, ?_, ?_, ?_, ?_⟩
           iterate 5 (focus (first | (simp -implicitDefEqProofs only [wL, wM, wN, wX, seval, Option.some.injEq, g1, g3, g5, g6, g7, g9, g8, k4_1, k4_2, k4_3] <;> exact wt_) | rfl | exact ⟨_, rfl⟩))
           all_goals try omega
           all_goals first | trivial | rfl | exact hn | exact k4_1 | exact k4_2 | exact k4_3
         | true =>
           rw [hfit] at g8
           rw [Bool.and_eq_true, decide_eq_true_eq] at hfit
           have hn := k3_1.put hgp rfl hfit.1 hfit.2
           repeat' with_reducible first
            | refine s_ ?_
            | simp -implicitDefEqProofs only [wZZ, seval, g1, g3, g5, g6, g7, g9, g8, k4_1, k4_2, k4_3, hz]
            | (refine condQ_j (fun h h_ => ?_) (fun h h_ => ?_) <;> (try simp only [wD, reduceCtorEq] at h_) <;> (try exact wb_) <;> (try simp only [h]))
            | (apply ia_mslQ; (focus omega); (focus omega))
            | (apply ia_slQ; (focus omega); (focus with_unfolding_all exact hgp))
            | (refine stI hl2 ?_)
            | (apply ldQ_cell; (exact wu_))
            | (apply ld_ipQ; (exact wu_))
            | simp -implicitDefEqProofs (disch := omega) only [w64, if_neg]
           refine ⟨wk_, (i + 1, updI l' lf (i : Int)), (by omega), ?_⟩
           refine ⟨?_, ?_, ?_, ?_, ?_, ?_, ?_, ?_, ?_, ?_⟩
           iterate 5 (focus (first | (simp -implicitDefEqProofs only [wL, wM, wN, wX, seval, Option.some.injEq, g1, g3, g5, g6, g7, g9, g8, k4_1, k4_2, k4_3] <;> exact wt_) | rfl | exact ⟨_, rfl⟩))
           all_goals try omega
           all_goals first | trivial | rfl | exact hn | ((simp only [wM]; (repeat first | rw [if_pos trivial] | rw [if_pos rfl] | rw [if_neg (by omega)])); first | exact k4_1 | exact k4_2 | exact k4_3 | rfl)
     · have e : i = g.prods.length := by omega
       subst e
       have hnx2 := k2_1.next hg k3_1
       skip
       repeat' with_reducible first
        | refine s_ ?_
        | simp -implicitDefEqProofs only [wZZ, seval, g1, g3, g5, g6, g7, k3_2, k3_3, k3_4]
        | (apply ldQ_cell; (exact wu_))
        | simp -implicitDefEqProofs (disch := omega) only [w64, if_neg]
       refine ⟨wk_, (r + 1, ni, l'), (by omega), ?_⟩
       refine ⟨?_, ?_, ?_, ?_, ?_, ?_, ?_, ?_, ?_⟩
       iterate 4 (focus (first | (simp -implicitDefEqProofs only [wL, wM, wN, wX, seval, Option.some.injEq, g1, g3, g5, g6, g7, k3_2, k3_3, k3_4] <;> exact wt_) | rfl | exact ⟨_, rfl⟩))
       all_goals try omega
       all_goals first | trivial | rfl | exact hnx2 | exact k3_2 | exact k3_4 | (((try simp only [wN]) <;> omega)) | ((simp only [wM]; (repeat first | rw [if_pos trivial] | rw [if_pos rfl] | rw [if_neg (by omega)])); first | exact k3_2 | exact k3_4)
   · have e : r = g.nons.length := by omega
     subst e
     skip
     repeat' with_reducible first
      | refine s_ ?_
      | simp -implicitDefEqProofs only [wZZ, seval, g1, g3, g5, o0, k2_2]
     refine ⟨_, ⟨l, rfl, k2_1.done hg⟩, Or.inr rfl, .msl li 1 0 g.nons.length, ?_, er_intM (ro := false) ?_⟩
     · show resV _ [.inl 2] = _
       simp [resV, resL, one, wL, g3]
     · (simp only [wM]; (repeat first | rw [if_pos trivial] | rw [if_pos rfl] | rw [if_neg (by omega)])); exact k2_2
end Go.Proofs
