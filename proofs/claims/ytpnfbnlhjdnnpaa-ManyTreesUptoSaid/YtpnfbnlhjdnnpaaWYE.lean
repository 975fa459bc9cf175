/- Part of a proof that a law of the given program answers true. -/
import Derived.Test.YtpnfbnlhjdnnpaaWYD
import Derived.Test.YtpnfbnlhjdnnpaaWRA
set_option linter.unusedSimpArgs false
set_option linter.unusedVariables false
set_option maxHeartbeats 4000000
namespace Go.Proofs
open Go.E
theorem heapM {ef : EF} {Q : V → (Nat → Option MObj) → Nat → Prop} {t n id : Nat} {ag ro : Bool} {v : V} {e : Exit} {s : St} (he : ef.res = [.inr (t, ag, n)]) (hx : e = .normal ∨ e = .ret) (hp : s.f t = .ptr id 0 0) (hH : s.H id = some (.own n [v] ro)) (ha : v.isAgg = ag)
 (h : Q v s.H s.next) : HeapPost ef Q e s := by
 have hv : loadV s ag n (s.f t) = some v := by
  rw [hp]
  simp only [loadV, hH, List.getElem?_cons_zero, partE, ha, and_self, if_true]
 exact ⟨hx, v, by rw [he]; simp [resV, resL, hv, one], h⟩
abbrev grV (g : Grammar) (l : Nat → Int) (E : Nat → Bool) (P : List Int) (a c : Nat) : V := .agg [.sl 6 false (g.toks.map Tok.V), .sl 2 false (g.nons.map Non.V), .sl 6 false (g.prods.map GPr.V), .str g.pro, .str g.tail, .sl 1 false (intC g.nons.length l), .sl 1 false ((vainL g.nons.length E).map (V.int .i64)), .sl 1 false (P.map (V.int .i64)), vi a, vi c]
def phi (c : Nat) : Nat := c + 8 * (4001 - c)
theorem phi_le {c : Nat} (h : phi c ≤ 32008) : c ≤ 32008 := by unfold phi at h; omega
theorem lab_gr {g : Grammar} {l : Nat → Int} {E : Nat → Bool} {P : List Int} {a c : Nat} {ob : MObj} (h : some ob = some (.own 10 [grV g l E P a c] false)) (hl : lab ob = 8) : False := by
 injection h with h; subst h; cases hl
abbrev NdAt (v : V) (t : Nd) : Prop := ∃ kv, v = .agg [vi t.sym, vi t.prod, vi t.at_, kv] ∧ kv.cells = [kv] ∧ kv.okCell = true ∧ kv.isAgg = false ∧ ErP kv (.sl 4 false (t.kids.map Nd.V))
theorem NdAt_er {v : V} {t : Nd} (h : NdAt v t) {b : Bool} {H : Nat → Option MObj} : Er b H v t.V := by
 obtain ⟨kv, rfl, _, _, _, h⟩ := h
 obtain ⟨y, p, a, ks⟩ := t
 rw [Nd.V_mk]
 exact ErL.agg (.cons (.int _ _) (.cons (.int _ _) (.cons (.int _ _) (.cons (ErP.er h) .nil))))
def NodeS (g : Grammar) (E : Nat → Bool) (s : Int) : Prop := s < 1000 ∨ ∃ k : Nat, s = 1000 + (k : Int) ∧ k < g.nons.length ∧ E k = true
structure NodeIn (g : Grammar) (l : Nat → Int) (E : Nat → Bool) (H : Nat → Option MObj) (next wi : Nat) (P : List Int) (a c : Nat) : Prop where
 hw : H wi = some (.own 10 [grV g l E P a c] false)
 lw : wi < next
 hp : P.length ≤ 1099511627776
 ha : a ≤ c
 hc : phi c ≤ 32008
abbrev NodeQ (g : Grammar) (l : Nat → Int) (E : Nat → Bool) (H : Nat → Option MObj) (next wi : Nat) (P : List Int) (a c : Nat) (s : Int) (v : V) (H' : Nat → Option MObj) (n' : Nat) : Prop :=
 next ≤ n' ∧ (∃ P' a' c', H' wi = some (.own 10 [grV g l E P' a' c'] false) ∧ c < c' ∧ phi c' ≤ phi c + 1 ∧ a' ≤ c' ∧ P'.length ≤ P.length ∧ ∃ t, NdAt v t ∧ (c' ≤ 4000 → t.size ≤ c' - c ∧ ∃ d, TreeD g anyW d s a a' t)) ∧ ∀ j, j < next → j ≠ wi → H' j = H j
theorem Fst.snoc {R : Int → Nat → Nat → Nd → Prop} : ∀ {l : List Int} {i a b : Nat} {ks : List Nd} {s : Int} {k : Nd}, Fst R l i a ks → R s a b k → Fst R (l ++ [s]) i b (ks ++ [k])
 | [], i, a, b, ks, s, k, ⟨e1, e2⟩, h => by subst e1 e2; exact ⟨b, k, [], rfl, h, rfl, rfl⟩
 | x :: l, i, a, b, ks, s, k, ⟨q, k0, r, e, h1, h2⟩, h => by subst e; exact ⟨q, k0, r ++ [k], rfl, h1, Fst.snoc h2 h⟩
theorem Fst.up {g : Grammar} {d d' : Nat} {l : List Int} {i b : Nat} {ks : List Nd} (h : Fst (TreeD g anyW d) l i b ks) (hd : d ≤ d') : Fst (TreeD g anyW d') l i b ks := h.mono fun _ _ _ _ h => h.mono hd
structure KidS (s : St) (g : Grammar) (l : Nat → Int) (E : Nat → Bool) (wi db lo : Nat) (P0 : List Int) (a0 c0 : Nat) (right : List Int) (y : Int) (m i : Nat) (P : List Int) (a c : Nat) (ks : List Nd) (v : V) (es : List V) : Prop where
 hw : s.H wi = some (.own 10 [grV g l E P a c] false)
 fg : Fg s db 4 lo 4 (fun v => .agg [vi y, vi m, vi (-1), v]) v es (ks.map Nd.V)
 hc : c0 ≤ c
 ph : phi c ≤ phi c0 + i
 ha : a ≤ c
 hP : P.length ≤ P0.length
 hl : ks.length = i
 hk : c ≤ 4000 → Nd.sizes ks ≤ c - c0 ∧ ∃ d, Fst (TreeD g anyW d) (right.take i) a0 a ks
theorem ndKids {s0 : St} {g : Grammar} {l : Nat → Int} {E : Nat → Bool} {P : List Int} {a c wi k m r6 : Nat} {deep : Int} {p : GPr} {Q : Exit → St → Prop} (hg : GOk g)
 (IH : ∀ (H : Nat → Option MObj) (next : Nat) (P : List Int) (a c1 : Nat) (s deep : Int), c ≤ c1 → NodeIn g l E H next wi P a c1 → NodeS g E s → -(c1 : Int) - 1 ≤ deep → deep ≤ 1000 → ECalls Try.prog 35 [.ptr wi 0 0, vi s, vi deep] H next (NodeQ g l E H next wi P a c1 s))
 (f0 : s0.f 0 = .ptr wi 0 0) (f1 : s0.f 1 = vi (1000 + (k : Int))) (f2 : s0.f 2 = vi deep) (f6 : s0.f 6 = .ptr r6 0 0) (f7 : s0.f 7 = vi m) (hw : s0.H wi = some (.own 10 [grV g l E P a c] false)) (h6 : ∃ x1 x2 x3 x4, s0.H r6 = some (.own 4 [.agg [x1, x2, x3, x4]] false)) (n1 : wi ≠ r6) (l1 : wi < s0.next) (l6 : r6 < s0.next)
 (hp : g.prods[m]? = some p) (hpl : p.left = (k : Int)) (hfit : fitsB true E p.right = true) (hP : P.length ≤ 1099511627776) (ha : a ≤ c) (hc : c ≤ 4000) (hc1 : 1 ≤ c) (hd : -(c : Int) ≤ deep) (hd2 : deep ≤ 1000)
 (hQ : ∀ s' v P' a' c' t, s'.f 6 = .ptr r6 0 0 → s'.H r6 = some (.own 4 [v] false) → NdAt v t → s'.H wi = some (.own 10 [grV g l E P' a' c'] false) → c ≤ c' → phi c' ≤ phi c + 8 → a' ≤ c' → P'.length ≤ P.length → (c' ≤ 4000 → t.size ≤ c' - c + 1 ∧ ∃ d, TreeD g anyW d (1000 + (k : Int)) a a' t) → (∀ j, j < s0.next → j ≠ wi → j ≠ r6 → s'.H j = s0.H j) → s0.next ≤ s'.next → Q .ret s') : ewp Try.prog e35n70 Q s0 := by
 obtain ⟨x1, x2, x3, x4, h6⟩ := h6
 have hmem := List.mem_of_getElem? hp
 have hrt := rt_ok hg hmem
 have hrl := hg.rlen _ hmem
 obtain ⟨pl, pr, pc, pco, pa, pat⟩ := p
 dsimp only at hrt hrl hpl hfit
 have hphc : phi c = c + 8 * (4001 - c) := rfl
 repeat' with_reducible first
  | refine s_ ?_
  | simp -implicitDefEqProofs only [wZZ, seval, f0, f1, f2, f6, f7]
  | (apply bld_nil)
  | (apply bld_part; (exact wu_); (exact wu_); (exact wu_); (focus ((try simp -implicitDefEqProofs only [wE, Nat.reduceAdd]); rfl)))
  | (apply stQ_whole; (exact wu_); (exact wu_))
 refine ewp_loopN ?nx3 (fun (i : Nat) s => s.f 0 = ?v3_0 ∧ s.f 2 = ?v3_2 ∧ s.f 6 = ?v3_6 ∧ s.f 7 = ?v3_7 ∧ s.f 12 = ?v3_12 ∧ s.f 13 = vi i ∧ (i ≤ pr.length) ∧ ((∃ P' a' c' ks v es, KidS s g l E wi (s0.next + 3) s0.next P a c pr (1000 + (k : Int)) m i P' a' c' ks v es)) ∧ ((∀ j, j < s0.next → j ≠ wi → s.H j = s0.H j))) (fun i => pr.length - i) (0) wj_ (by refine ⟨?_, ?_, ?_, ?_, ?_, ?_, (by first | omega | (simp; done) | assumption), (by exact ⟨P, a, c, [], _, [], ⟨by (simp only [wM]; (repeat first | rw [if_pos trivial] | rw [if_pos rfl] | rw [if_neg (by omega)])); exact hw, ⟨by (simp only [wM]; (repeat first | rw [if_pos trivial] | rw [if_pos rfl] | rw [if_neg (by omega)])), Gr.nil, (fun j h => (by cases h)), .nil⟩, Nat.le_refl _, Nat.le_refl _, ha, Nat.le_refl _, rfl, fun _ => ⟨Nat.zero_le _, 0, rfl, rfl⟩⟩⟩), (by intro j h1 h2; (simp only [wM]; (repeat first | rw [if_pos trivial] | rw [if_pos rfl] | rw [if_neg (by omega)])))⟩ <;> first | (simp -implicitDefEqProofs only [wL, wM, wN, wX, seval, Option.some.injEq] <;> exact wt_) | rfl | exact ⟨_, rfl⟩) ?_
 intro i s hnx ⟨g0, g2, g6, g7, g12, g13, k3_0, k3_1, k3_2⟩
 obtain ⟨P1, a1, c1, ks, v, es, kw, ⟨ko, kG, klo, kE⟩, kc, kph, ka, kP, kl, kk⟩ := k3_1
 have hel : es.length = i := by have := kE.len; rw [List.length_map] at this; omega
 have hz : IntKind.i64.wrap ((i + 1 : Nat) : Int) = ((i + 1 : Nat) : Int) := wrap64 (by omega) (by omega)
 have hzd : IntKind.i64.wrap (deep - 1) = deep - 1 := wrap64 (by omega) (by omega)
 have hdb : gid v ≠ some (s0.next + 3) := fun e => by
  rcases kG with rfl | ⟨id, fin, rfl, h1, _⟩
  · cases e
  · cases e; rw [ko] at h1; cases h1
 have hwi : gid v ≠ some wi := fun e => by have := klo _ e; omega
 by_cases hi : i < pr.length
 · have hgi : pr[i]? = some pr[i] := List.getElem?_eq_getElem hi
   have htk : pr.take (i + 1) = pr.take i ++ [pr[i]] := by rw [List.take_add_one, hgi]; rfl
   have hNS : NodeS g E pr[i] := by
    have h1 := List.all_eq_true.1 hfit _ (List.getElem_mem hi)
    rcases hrt _ (List.getElem_mem hi) with h | ⟨q, e, hq⟩
    · exact Or.inl h
    · rw [e, if_neg (by omega), show (1000 + (q : Int) - 1000).toNat = q by omega] at h1
      exact Or.inr ⟨q, e, hq, h1⟩
   generalize pr[i] = sy at *
   repeat' with_reducible first
    | refine s_ ?_
    | simp -implicitDefEqProofs only [wZZ, seval, g0, g2, g6, g7, g12, g13, f0, f2, f6, f7, ko, kw, hz, hzd, dropG_ne hdb, dropG_ne hwi]
    | (refine condQ_j (fun h h_ => ?_) (fun h h_ => ?_) <;> (try simp only [wD, reduceCtorEq] at h_) <;> (try exact wb_) <;> (try simp only [h]))
    | (refine And.intro ?_ ?_; (focus (first | with_unfolding_all rfl | exact congrArg some (labT (by first | omega | (simp only [List.length_set]; omega))))))
    | (apply ia_slQ; (focus omega); (focus with_unfolding_all exact hp))
    | (apply ia_slQ; (focus omega); (focus with_unfolding_all exact hgi))
    | (refine callQV rfl rfl ((IH _ _ P1 a1 c1 sy (deep - 1) kc ⟨by ((try simp only [wM]); (repeat first | rw [if_pos trivial] | rw [if_pos rfl] | rw [if_neg (by omega)])); exact kw, by ((try simp only [wN]) <;> omega), by omega, ka, by omega⟩ hNS (by omega) (by omega)).mono ?_); rintro v1 H1 n1' ⟨q1, ⟨P2, a2, c2, q2, q3, q4, q5, q6, t, ⟨kv, rfl, k1, k2, k3, k4⟩, q8⟩, q9⟩; (try simp only [wN] at q1); refine ⟨fun id ob hid ho hl => (q9 id hid (fun e => lab_gr (by rw [e] at ho; (try simp only [wM] at ho); exact ho.symm.trans kw) hl)).trans ho, ?_⟩)
    | (apply fil_part; (exact wu_); (exact wu_); (exact wu_); (focus ((try simp -implicitDefEqProofs only [wY]); rfl)))
    | (apply ldQ_cell; (exact wu_))
    | (apply ld_ipQ; (exact wu_))
   have q9' : ∀ j, j < s.next → j ≠ wi → H1 j = s.H j := fun j h1 h2 => (q9 j (by ((try simp only [wN]) <;> omega)) h2).trans (by ((try simp only [wM]); (repeat first | rw [if_pos trivial] | rw [if_pos rfl] | rw [if_neg (by omega)])))
   have kG1 : Gr H1 n1' 4 es v := kG.mono (by omega) (fun j h1 h2 => q9' j h2 (fun e => hwi (by rw [h1, e])))
   have ko1 : H1 (s0.next + 3) = some (.own 4 [.agg [vi (1000 + (k : Int)), vi m, vi (-1), v]] false) := (q9' _ (by omega) (by omega)).trans ko
   repeat' with_reducible first
    | refine s_ ?_
    | simp -implicitDefEqProofs only [wZZ, seval, g0, g2, g6, g7, g12, g13, ko1, hz, dropG_ne hdb, dropG_ne hwi]
    | (apply appQ_G rfl (kG1.mono (Nat.le_refl _) (fun id h1 h2 => by (try simp only [wM]); (repeat rw [if_neg (by omega)]))); (focus (first | exact SrcN.sl | exact SrcN.asl)); (focus (simp only [wZ, hel]; omega)); (focus (unfold maxLen; simp only [wZ, hel]; omega)))
    | (apply stQ_cell; (exact wu_); (exact wu_); (exact wu_); (exact wf_))
    | simp -implicitDefEqProofs (disch := omega) only [w64, if_neg]
   refine ⟨by ((try simp only [wN]) <;> omega), i + 1, by omega, f0, f2, f6, f7, trivial, rfl, by omega, ⟨P2, a2, c2, ks ++ [t], _, es ++ [.agg [vi t.sym, vi t.prod, vi t.at_, kv]], ⟨?_, ⟨?_, Gr.tok (id := s.next + 12 + 19) (fin := es.length + 1) (es := es ++ [.agg [vi t.sym, vi t.prod, vi t.at_, kv]]) ?_ (by ((try simp only [wN]) <;> omega)), (fun j h => (by cases h; omega)), ?_⟩, by omega, by omega, q5, by omega, by simp; omega, fun hc2 => ?_⟩⟩, fun j h1 h2 => ?_⟩
   · ((try simp only [wM]); (repeat first | rw [if_pos trivial] | rw [if_pos rfl] | rw [if_neg (by omega)])); rw [dropG_ne hwi]; exact q2
   · ((try simp only [wM]); (repeat first | rw [if_pos trivial] | rw [if_pos rfl] | rw [if_neg (by omega)]))
   · ((try simp only [wM]); (repeat first | rw [if_pos trivial] | rw [if_pos rfl] | rw [if_neg (by omega)]))
   · rw [List.map_append]; exact kE.snoc (NdAt_er ⟨kv, rfl, k1, k2, k3, k4⟩)
   · obtain ⟨e1, d1, e2⟩ := kk (by omega)
     obtain ⟨e3, d2, e4⟩ := q8 hc2
     rw [Nd.sizes_snoc, htk]
     exact ⟨by omega, d1 + d2, (e2.up (by omega)).snoc (e4.mono (by omega))⟩
   · ((try simp only [wM]); (repeat first | rw [if_pos trivial] | rw [if_pos rfl] | rw [if_neg (by omega)]))
     rw [dropG_ne (fun e => by have := klo _ e; omega), q9' j (by omega) h2]
     exact k3_2 j h1 h2
 · have hr6 : s.H r6 = some (.own 4 [.agg [x1, x2, x3, x4]] false) := (k3_2 r6 l6 (Ne.symm n1)).trans h6
   have et : pr.take i = pr := List.take_of_length_le (by omega)
   rw [et] at kk
   repeat' with_reducible first
    | refine s_ ?_
    | simp -implicitDefEqProofs only [wZZ, seval, g0, g2, g6, g7, g12, g13, f0, f2, f6, f7, ko, kw, hr6]
    | (refine condQ_j (fun h h_ => ?_) (fun h h_ => ?_) <;> (try simp only [wD, reduceCtorEq] at h_) <;> (try exact wb_) <;> (try simp only [h]))
    | (apply ia_slQ; (focus omega); (focus with_unfolding_all exact hp))
    | (apply ldQ_whole)
    | (apply ldQ_cell; (exact wu_))
    | (apply ld_ipQ; (exact wu_))
    | (apply stQ_whole; (exact wu_); (exact wu_))
   refine hQ _ (.agg [vi (1000 + (k : Int)), vi m, vi (-1), v]) P1 a1 c1 (.mk (1000 + (k : Int)) m (-1) ks) (by (simp -implicitDefEqProofs only [wL, seval, g6, f6])) (by ((try simp only [wM]); (repeat first | rw [if_pos trivial] | rw [if_pos rfl] | rw [if_neg (by omega)]))) ⟨v, rfl, (Gr.ok kG).1, (Gr.ok kG).2.1, (Gr.ok kG).2.2, Gr.erL kG kE⟩ (by ((try simp only [wM]); (repeat first | rw [if_pos trivial] | rw [if_pos rfl] | rw [if_neg (by omega)])); exact kw) kc (by omega) ka kP (fun hc2 => ?_) (fun j h1 h2 h3 => by ((try simp only [wM]); (repeat first | rw [if_pos trivial] | rw [if_pos rfl] | rw [if_neg (by omega)])); exact k3_2 j h1 h2) (by ((try simp only [wN]) <;> omega))
   obtain ⟨e1, d1, e2⟩ := kk hc2
   refine ⟨by rw [Nd.size]; omega, d1 + 1, Or.inr ⟨m, _, ks, hp, by dsimp only; rw [hpl], rfl, e2⟩⟩
end Go.Proofs
