/- Part of a proof that a law of the given program answers true. -/
import Derived.Test.YthgkeppkcjcmjaaCZH
set_option linter.unusedSimpArgs false
set_option linter.unusedVariables false
set_option maxHeartbeats 8000000
namespace Go.Proofs
open Go.E
theorem QY {l : List Cel} (hl : l.length ≤ 1000000) (hp : ∀ c ∈ l, c.prods.length ≤ 1000000) : Pure Try.prog 26 [.sl 5 false (l.map Cel.V), .sl 5 false (l.map Cel.V)] (.bool true) := by
 refine pure_intro Try.func26 qpw qEs (by show 2 ≤ 81; decide) ?_
 show ewp _ qgT _ _
 repeat' with_reducible first
  | refine s_ ?_
  | simp only [wZZ, seval]
 refine qc ?nx1 (fun (k : Nat) s => s.f 0 = ?v1_0 ∧ s.f 1 = ?v1_1 ∧ s.f 5 = vi k ∧ (k ≤ l.length)) (fun k => l.length - k) (0) wj_ (by refine ⟨?_, ?_, ?_, wo_⟩ <;> first | (simp only [wL, wM, wN, wX, seval, Option.some.injEq] <;> exact wt_) | rfl | exact ⟨_, rfl⟩) ?_
 intro k s hnx ⟨g0, g1, g5, k1_0⟩
 have hz := w1_ k
 by_cases hk : k < l.length
 · have hga : l[k]? = some l[k] := ge_ hk
   have heq := Jf (a := l[k].prods) (b := l[k].prods) (by have := hp _ (List.getElem_mem hk); omega) (by have := hp _ (List.getElem_mem hk); omega)
   rw [decide_eq_true rfl] at heq
   generalize l[k] = c at *
   obtain ⟨cs, ct, ch, ca, cp⟩ := c
   have e1 : ∀ x : Int, (!decide (x = x)) = false := fun x => by rw [decide_eq_true rfl]; rfl
   have e2 : ((ca == ca) != true) = false := by rw [beq_self_eq_true]; rfl
   dsimp only at heq
   repeat' with_reducible first
    | refine s_ ?_
    | simp only [wZZ, seval, g0, g1, g5, hz, e1, e2]
    | apply qa <;> intro h h_ <;> (try simp only [wD, reduceCtorEq] at h_) <;> (try exact wb_) <;> (try simp only [h])
    | refine t_ ?_
    | refine cq2 heq qd qd ?_
   refine ⟨wk_, k + 1, (by omega), ?_⟩
   refine ⟨?_, ?_, ?_, ?_⟩
   iterate 3 (focus (first | (simp only [wL, wM, wN, wX, seval, Option.some.injEq, g0, g1, g5] <;> exact wt_) | rfl | exact ⟨_, rfl⟩))
   all_goals try omega
 · repeat' with_reducible first
    | refine s_ ?_
    | simp only [wZZ, seval, g0, g1, g5]
    | apply qa <;> intro h h_ <;> (try simp only [wD, reduceCtorEq] at h_) <;> (try exact wb_) <;> (try simp only [h])
   all_goals refine qw rfl (Or.inr rfl) ?_
   all_goals (try simp only [wL, seval, g0, g1, g5])
   all_goals refine er_ ?_
   all_goals (try (with_reducible rfl))
abbrev zcV : V := .agg [.int .i64 0, .int .i64 0, .int .i64 0, .bool false, .sl 1 true []]
abbrev rcV (q : Nat) (sh : Nat → Int) (ac : Nat → Bool) (vP : Nat → V) (k : Nat) : V := .agg [vi q, vi k, vi (sh k), .bool (ac k), vP k]
def qbm (n q : Nat) (sh : Nat → Int) (ac : Nat → Bool) (vP : Nat → V) : List V := (List.range n).map (rcV q sh ac vP)
def qcd (n q : Nat) (sh : Nat → Int) (i : Nat) : List V := (List.range n).map fun k => if k < i then rcV q sh (fun _ => false) (fun _ => .sl 1 true []) k else zcV
theorem kD (n q : Nat) (sh : Nat → Int) (ac : Nat → Bool) (vP : Nat → V) : (qbm n q sh ac vP).length = n := by simp [qbm]
theorem yK {n q k : Nat} {sh : Nat → Int} {ac : Nat → Bool} {vP : Nat → V} (h : k < n) : (qbm n q sh ac vP)[k]? = some (rcV q sh ac vP k) := by simp [qbm, h]
theorem qfU {n q k : Nat} {sh : Nat → Int} {ac : Nat → Bool} {vP : Nat → V} {v : V} (h : k < n) : (qbm n q sh ac vP).set k (.agg [vi q, vi k, vi (sh k), .bool (ac k), v]) = qbm n q sh ac (qC vP k v) := by
 refine List.ext_getElem? fun j => ?_
 rw [List.getElem?_set, kD]
 by_cases hj : j < n
 · rw [yK hj, yK hj]
   by_cases e : k = j
   · subst e; simp [hj, qC]
   · simp [e, qC, Ne.symm e]
 · rw [List.getElem?_eq_none (by rw [kD]; omega), List.getElem?_eq_none (by rw [kD]; omega), if_neg (by omega)]
theorem qfz {n q : Nat} {sh : Nat → Int} {ac : Nat → Bool} {vP : Nat → V} {b : Bool} (h : 0 < n) : (qbm n q sh ac vP).set 0 (.agg [vi q, vi (0 : Nat), vi (sh 0), .bool b, vP 0]) = qbm n q sh (qC ac 0 b) vP := by
 refine List.ext_getElem? fun j => ?_
 rw [List.getElem?_set, kD]
 by_cases hj : j < n
 · rw [yK hj, yK hj]
   by_cases e : 0 = j
   · subst e; simp [hj, qC]
   · simp [e, qC, Ne.symm e]
 · rw [List.getElem?_eq_none (by rw [kD]; omega), List.getElem?_eq_none (by rw [kD]; omega), if_neg (by omega)]
theorem Jt (n q : Nat) (sh : Nat → Int) (i : Nat) : (qcd n q sh i).length = n := by simp [qcd]
theorem qut (n q : Nat) (sh : Nat → Int) : List.replicate n zcV = qcd n q sh 0 := by
 refine List.ext_getElem? fun j => ?_
 by_cases hj : j < n
 · simp [qcd, hj]
 · rw [List.getElem?_eq_none (by simp; omega), List.getElem?_eq_none (by rw [Jt]; omega)]
theorem qpe (n q : Nat) (sh : Nat → Int) : qcd n q sh n = qbm n q sh (fun _ => false) (fun _ => .sl 1 true []) := by
 unfold qcd qbm
 refine List.map_congr_left fun k hk => ?_
 rw [if_pos (List.mem_range.1 hk)]
theorem qfo {n q i : Nat} {sh : Nat → Int} (h : i < n) : (qcd n q sh i)[i]? = some zcV := by simp [qcd, h]
theorem qfR {n q i : Nat} {sh : Nat → Int} (h : i < n) : (qcd n q sh i).set i (rcV q sh (fun _ => false) (fun _ => .sl 1 true []) i) = qcd n q sh (i + 1) := by
 refine List.ext_getElem? fun j => ?_
 rw [List.getElem?_set, Jt]
 by_cases hj : j < n
 · by_cases e : i = j
   · subst e; simp [qcd, hj]
   · have : (j < i) = (j < i + 1) := by simp; omega
     simp [qcd, hj, e, this]
 · rw [List.getElem?_eq_none (by rw [Jt]; omega), List.getElem?_eq_none (by rw [Jt]; omega), if_neg (by omega)]
theorem stW {K : St → Prop} {s : St} {id k z : Nat} {es : List V} {v w : V} {o : Option MObj} (ho : o = some (.own z es false)) (hx : es[k]? = some w) (hw : w.isAgg = v.isAgg) (hv : v.cells.length = z) (hc : v.okCell = true)
 (hk : K (s.setO id (some (.own z (es.set k v) false)))) : onS (stQ s o z id k 0 v) K := by
 subst ho
 have e0 : jg z z w v 0 = some v := by
  unfold jg
  rw [if_pos ⟨rfl, rfl, hw⟩]
 have e : stQ s (some (.own z es false)) z id k 0 v = some (s.setO id (some (.own z (es.set k v) false))) := by
  simp only [stQ, hx, e0, hv, hc, and_self, if_true, Option.map_some]
 rw [e]; exact hk
theorem ldW {K : V → Prop} {k z : Nat} {es : List V} {ro : Bool} {v : V} {o : Option MObj} {ag : Bool} (ho : o = some (.own z es ro)) (hx : es[k]? = some v) (ha : v.isAgg = ag) (hk : K v) : onS (ldQ o ag z k 0) K := by
 subst ho
 have e : ldQ (some (.own z es ro)) ag z k 0 = some v := by simp [ldQ, hx, jO, ha]
 rw [e]; exact hk
structure RowW (H : Nat → Option MObj) (next base rid n q : Nat) (sh : Nat → Int) (ac : Nat → Bool) (vP : Nat → V) (ps : Nat → List Int) : Prop where
 ho : H rid = some (.own 5 (qbm n q sh ac vP) false)
 lr : base ≤ rid ∧ rid < next
 gr : ∀ k, k < n → Gr H next 1 ((ps k).map (V.int .i64)) (vP k)
 sep : ∀ j k, j < n → k < n → j ≠ k → Sep (vP j) (vP k)
 lo : ∀ k, k < n → ∀ j, gid (vP k) = some j → base ≤ j
theorem RowW.mono {H H' : Nat → Option MObj} {next next' base rid n q : Nat} {sh : Nat → Int} {ac : Nat → Bool} {vP : Nat → V} {ps : Nat → List Int} (h : RowW H next base rid n q sh ac vP ps) (hn : next ≤ next') (hr : H' rid = H rid) (hH : ∀ k, k < n → ∀ j, gid (vP k) = some j → j < next → H' j = H j) : RowW H' next' base rid n q sh ac vP ps :=
 ⟨by rw [hr]; exact h.ho, ⟨h.lr.1, by have := h.lr.2; omega⟩, fun k hk => (h.gr k hk).mono hn (hH k hk), h.sep, h.lo⟩
theorem RowW.put {H H' : Nat → Option MObj} {next next' base rid n q k id : Nat} {sh : Nat → Int} {ac : Nat → Bool} {vP : Nat → V} {ps ps' : Nat → List Int} {p : Int} (h : RowW H next base rid n q sh ac vP ps) (hk : k < n)
 (hid : next ≤ id) (hid2 : id < next') (hb : base ≤ next) (e1 : ps' k = ps k ++ [p]) (e2 : ∀ j, j < n → j ≠ k → ps' j = ps j) (hr : H' rid = some (.own 5 (qbm n q sh ac (qC vP k (.asl id ((ps k).length + 1) 1 ((ps k ++ [p]).map (V.int .i64))))) false)) (ht : H' id = some (.tok ((ps k).length + 1)))
 (hH : ∀ r, r < n → r ≠ k → ∀ j, gid (vP r) = some j → j < next → H' j = H j) :
 RowW H' next' base rid n q sh ac (qC vP k (.asl id ((ps k).length + 1) 1 ((ps k ++ [p]).map (V.int .i64)))) ps' := by
 refine ⟨hr, ⟨h.lr.1, by have := h.lr.2; omega⟩, fun r hq => ?_, fun j r hj hq hjr => ?_, fun r hq j hj => ?_⟩
 · unfold qC
   by_cases e : r = k
   · subst e; simp only [if_true]; rw [e1]; exact Gr.tok ht hid2
   · simp only [if_neg e]; rw [e2 r hq e]; exact (h.gr r hq).mono (by omega) (hH r hq e)
 · unfold qC
   by_cases e : j = k
   · subst e; simp only [if_true, if_neg (Ne.symm hjr)]; exact Sep.newL (h.gr r hq) hid
   · by_cases e2 : r = k
     · subst e2; simp only [if_true, if_neg hjr]; exact Sep.newR (h.gr j hj) hid
     · simp only [if_neg e, if_neg e2]; exact h.sep j r hj hq hjr
 · unfold qC at hj
   by_cases e : r = k
   · subst e; simp only [if_true] at hj; cases hj; omega
   · simp only [if_neg e] at hj; exact h.lo r hq j hj
theorem RowW.new {H : Nat → Option MObj} {next base rid n q : Nat} {sh : Nat → Int} {ac : Nat → Bool} (ho : H rid = some (.own 5 (qbm n q sh ac (fun _ => .sl 1 true [])) false)) (lr : base ≤ rid ∧ rid < next) : RowW H next base rid n q sh ac (fun _ => .sl 1 true []) (fun _ => []) :=
 ⟨ho, lr, fun _ _ => Gr.nil, fun _ _ _ _ _ => Sep.slL, fun _ _ j h => by cases h⟩
theorem RowW.congr {H : Nat → Option MObj} {next base rid n q : Nat} {sh : Nat → Int} {ac : Nat → Bool} {vP : Nat → V} {ps ps' : Nat → List Int} (h : RowW H next base rid n q sh ac vP ps) (e : ∀ k, k < n → ps' k = ps k) : RowW H next base rid n q sh ac vP ps' :=
 ⟨h.ho, h.lr, fun k hk => by rw [e k hk]; exact h.gr k hk, h.sep, h.lo⟩
theorem Ko {l : List Lk} {q t i : Nat} {k : Lk} (h : l[i]? = some k) : Vr (l.take (i + 1)) q t = Vr (l.take i) q t ++ (if k.st = (q : Int) ∧ (t : Int) ∈ k.tk then [k.pr] else []) := by
 unfold Vr
 rw [List.take_add_one, h, List.filter_append, List.map_append]
 congr 1
 by_cases h1 : k.st = (q : Int) <;> by_cases h2 : (t : Int) ∈ k.tk <;> simp [h1, h2]
theorem Ve (l : List Lk) (q t : Nat) : (Vr l q t).length ≤ l.length := by
 unfold Vr; rw [List.length_map]; exact List.length_filter_le _ _
def psJ (l : List Lk) (q i : Nat) (k : Lk) (j t : Nat) : List Int := Vr (l.take i) q t ++ (if (t : Int) ∈ k.tk.take j then [k.pr] else [])
theorem qlT (l : List Lk) (q i : Nat) (k : Lk) (j t : Nat) : (psJ l q i k j t).length ≤ l.length + 1 := by
 unfold psJ
 have := Ve (l.take i) q t
 rw [List.length_take] at this
 rw [List.length_append]
 split <;> simp <;> omega
theorem qJr (l : List Lk) (q i : Nat) (k : Lk) (t : Nat) : psJ l q i k 0 t = Vr (l.take i) q t := by unfold psJ; simp
theorem qJC {l : List Lk} {q i : Nat} {k : Lk} (hk : l[i]? = some k) (hs : k.st = (q : Int)) (t : Nat) : psJ l q i k k.tk.length t = Vr (l.take (i + 1)) q t := by
 unfold psJ
 rw [Ko hk, List.take_length]
 by_cases h : (t : Int) ∈ k.tk <;> simp [hs, h]
theorem qBq {l : List Lk} {q i j x : Nat} {k : Lk} (hr : jA k.tk) (hx : k.tk[j]? = some (x : Int)) : psJ l q i k (j + 1) x = psJ l q i k j x ++ [k.pr] := by
 have hlt := (List.getElem?_eq_some_iff.1 hx)
 have hn : (x : Int) ∉ k.tk.take j := fun h => by
  obtain ⟨a, ha, e⟩ := List.getElem_of_mem h
  rw [List.length_take] at ha
  rw [List.getElem_take] at e
  have := (List.pairwise_iff_getElem.1 hr) a j (by omega) hlt.1 (by omega)
  rw [e, hlt.2] at this; omega
 have hy : (x : Int) ∈ k.tk.take (j + 1) := by rw [List.take_add_one, hx]; simp
 unfold psJ
 rw [if_neg hn, if_pos hy, List.append_nil]
theorem qrx {l : List Lk} {q i j x t : Nat} {k : Lk} (hx : k.tk[j]? = some (x : Int)) (h : t ≠ x) : psJ l q i k (j + 1) t = psJ l q i k j t := by
 unfold psJ
 have : (t : Int) ∈ k.tk.take (j + 1) ↔ (t : Int) ∈ k.tk.take j := by
  rw [List.take_add_one, hx, List.mem_append]
  simp
  omega
 simp only [this]

theorem qcw {b : Bool} {H H' : Nat → Option MObj} {next q t : Nat} {h : Int} {a : Bool} {p : List Int} {v : V} (hg : Gr H' next 1 (p.map (V.int .i64)) v) : Er b H (.agg [vi q, vi t, vi h, .bool a, v]) (Cel.V { st := q, tok := t, shift := h, acc := a, prods := p }) :=
 ErL.agg (.cons (.int _ _) (.cons (.int _ _) (.cons (.int _ _) (.cons (.bool _) (.cons (hg.er rfl) .nil)))))
theorem qdb {g : Grammar} {m : List Sta} {l : List Lk} (hM : MOk g m) (hg : GOk g) (hL : LkOk g m l) : Pure Try.prog 27 [g.V, .sl 2 false (m.map Sta.V), .sl 3 false (l.map Lk.V)] (.sl 5 false ((cellsS g.toks.length m l).map Cel.V)) := by
 refine pure_intro Try.func27 qzT qA6 (by show 3 ≤ 100; decide) ?_
 show ewp _ qgz _ _
 have hml := hM.len; have hmv := hM.mvl
 have htk := hg.tk2; have htk3 := hg.tk
 have hll := hL.len
 have hdef : cellsS g.toks.length m l = xZ g.toks.length m l m.length := rfl
 rw [hdef]
 have hstp := fun (q : Nat) (hq : q < m.length) (t : Nat) => qcB (sy := (t : Int)) hq (by omega) (fun q h => by have := hmv q h; omega)
 repeat' with_reducible first
  | refine s_ ?_
  | simp only [wZZ, seval]
  | refine t_ ?_
 refine qc ?nx1 (fun (q : Nat) s => s.f 1 = ?v1_1 ∧ s.f 2 = ?v1_2 ∧ s.f 3 = ?v1_3 ∧ s.f 18 = ?v1_18 ∧ s.f 19 = ?v1_19 ∧ s.H 0 = some (.own 5 [g.V] false) ∧ s.f 20 = vi q ∧ (q ≤ m.length) ∧ ((xZ g.toks.length m l q).length ≤ q * 40) ∧ ((∃ v es, s.f 7 = v ∧ Gr s.H s.next 5 es v ∧ vE es ((xZ g.toks.length m l q).map Cel.V)))) (fun q => m.length - q) (0) wj_ (by refine ⟨?_, ?_, ?_, ?_, ?_, ?_, ?_, wo_, (by exact Nat.zero_le _), (by exact ⟨_, [], (by (simp only [wL, seval]) <;> rfl), Gr.nil, .nil⟩)⟩ <;> first | (simp only [wL, wM, wN, wX, seval, Option.some.injEq] <;> exact wt_) | rfl | exact ⟨_, rfl⟩) ?_
 intro q s hnx ⟨g1, g2, g3, g18, g19, o0, g20, k1_0, k1_1, k1_2⟩
 obtain ⟨v6, es, g7, hG6, hE6⟩ := k1_2
 have hz := w1_ q
 by_cases hq : q < m.length
 · have hgq : m[q]? = some m[q] := ge_ hq
   have hqm := List.getElem_mem hq
   have hkl := hM.kl hg.pl2 _ hqm
   have hst := Qt g.toks.length m l q
   have hkA : qR m q = m[q].ker := by unfold qR; rw [hgq]; rfl
   have hrl := x9 (qb2 m l q) g.toks.length
   have hstq := hstp q hq
   have hcon := zX (l := m[q].ker) (x := 1) (by omega)
   generalize m[q] = x at *
   obtain ⟨xk, xm⟩ := x
   dsimp only at hkl hkA hcon
   generalize xZ g.toks.length m l q = L at *
   obtain ⟨A, hA⟩ : ∃ A, A = s.next + 1 + 3 := ⟨_, rfl⟩
   obtain ⟨D, hD⟩ : ∃ D, D = s.next + 1 + 6 + 3 := ⟨_, rfl⟩
   obtain ⟨B, hB⟩ : ∃ B, B = s.next := ⟨_, rfl⟩
   obtain ⟨sh, hsh⟩ : ∃ sh : Nat → Int, sh = fun (t : Nat) => goS m (q : Int) (t : Int) := ⟨_, rfl⟩
   have hstq2 : ∀ t : Nat, Pure Try.prog 59 [.sl 2 false (m.map Sta.V), vi q, vi t] (vi (sh t)) := fun t => by rw [hsh]; exact hstq t
   repeat' with_reducible first
    | refine s_ ?_
    | simp only [wZZ, seval, g1, g2, g3, g18, g19, g20, o0, hz, g7]
    | apply qa <;> intro h h_ <;> (try simp only [wD, reduceCtorEq] at h_) <;> (try exact wb_) <;> (try simp only [h])
    | refine t_ ?_
    | apply qcG; exact wf_; exact wf_; (focus (unfold maxLen; first | omega | (simp only [wZ] <;> omega)))
   refine qc ?nx2 (fun (t : Nat) s => s.f 1 = ?v2_1 ∧ s.f 2 = ?v2_2 ∧ s.f 3 = ?v2_3 ∧ s.f 8 = ?v2_8 ∧ s.f 18 = ?v2_18 ∧ s.f 19 = ?v2_19 ∧ s.f 20 = ?v2_20 ∧ s.f 30 = ?v2_30 ∧ s.H 0 = some (.own 5 [g.V] false) ∧ s.f 31 = vi t ∧ (t ≤ g.toks.length) ∧ (B ≤ A) ∧ (A < D) ∧ (D < s.next) ∧ (Gr s.H B 5 es v6) ∧ ((s.H A = some (.own 2 [V.agg [.sl 2 false (xk.map itV), .sl 2 false (xm.map prV)]] false))) ∧ ((s.H D = some (.own 5 (qcd g.toks.length q sh t) false))) ∧ (s.f 7 = v6) ∧ (s.f 9 = .ptr A 0 0) ∧ (s.f 10 = .msl D 5 0 g.toks.length) ∧ (s.f 29 = .msl D 5 0 g.toks.length)) (fun t => g.toks.length - t) (0) wj_ (by refine ⟨?_, ?_, ?_, ?_, ?_, ?_, ?_, ?_, ?_, ?_, wo_, wo_, wo_, (by ((try simp only [wN]) <;> omega)), (by (rw [hB]; exact hG6.mono (Nat.le_refl _) (fun j h1 h2 => by ((try simp only [wM]); (repeat first | rw [if_pos trivial] | rw [if_pos rfl] | rw [if_neg (by omega)]))))), (by rw [hA]; (simp only [wM]; (repeat first | rw [if_pos trivial] | rw [if_pos rfl] | rw [if_neg (by omega)])) <;> first | rfl | simp), (by rw [hD, ← qut]; (simp only [wM]; (repeat first | rw [if_pos trivial] | rw [if_pos rfl] | rw [if_neg (by omega)])) <;> first | rfl | simp), (by (try simp only [wL, wM, wN, seval, g1, g2, g3, g18, g19, g20, o0]); first | done | rfl | exact g7), (by (try simp only [wL, wM, wN, seval, g1, g2, g3, g18, g19, g20, o0]); first | done | rw [hA]), (by (try simp only [wL, wM, wN, seval, g1, g2, g3, g18, g19, g20, o0]); first | done | rw [hD]), (by (try simp only [wL, wM, wN, seval, g1, g2, g3, g18, g19, g20, o0]); first | done | rw [hD])⟩ <;> first | (simp only [wL, wM, wN, wX, seval, Option.some.injEq, g1, g2, g3, g18, g19, g20, o0] <;> exact wt_) | rfl | exact ⟨_, rfl⟩) ?_
   intro t s hnx ⟨g1, g2, g3, g8, g18, g19, g20, g30, o0, g31, k2_0, k2_1, k2_2, k2_3, k2_4, k2_5, k2_6, g7, g9, g10, g29⟩
   have hzt := w1_ t
   by_cases ht : t < g.toks.length
   · have oD := k2_6
     have hst2 := hstq2 t
     have hfs := qfR (q := q) (sh := sh) ht
     repeat' with_reducible first
      | refine s_ ?_
      | simp only [wZZ, seval, g1, g2, g3, g8, g18, g19, g20, g30, g31, g7, g9, g10, g29, o0, hzt, oD]
      | apply qa <;> intro h h_ <;> (try simp only [wD, reduceCtorEq] at h_) <;> (try exact wb_) <;> (try simp only [h])
      | refine cq3 hst2 qd qd qd ?_
      | (refine stW rfl (qfo ht) wu_ wu_ wu_ ?_)
      | refine t_ ?_
      | simp (disch := omega) only [w64, if_neg]
     exact ⟨by ((try simp only [wN]) <;> omega), t + 1, by omega, trivial, trivial, trivial, trivial, trivial, trivial, trivial, trivial, trivial, rfl, by omega, k2_1, k2_2, by ((try simp only [wN]) <;> omega), k2_4.mono (Nat.le_refl _) (fun j h1 h2 => by ((try simp only [wM]); (repeat first | rw [if_pos trivial] | rw [if_pos rfl] | rw [if_neg (by omega)]))), k2_5, by rw [← hfs], trivial, trivial, trivial, trivial⟩
   · have e : t = g.toks.length := by omega
     subst e
     rw [qpe] at k2_6
     have oD := k2_6; have oA := k2_5
     have hcon2 : Pure Try.prog 60 [.sl 2 false (xk.map itV), .agg [vi 0, vi 1]] (.bool (decide ((1 : Int) ∈ xk))) := hcon
     have hra := qfz (q := q) (sh := sh) (ac := fun _ => false) (vP := fun _ => .sl 1 true []) (b := decide ((1 : Int) ∈ xk)) (show 0 < g.toks.length by omega)
     have hg0 := yK (q := q) (sh := sh) (ac := fun _ => false) (vP := fun _ => .sl 1 true []) (show 0 < g.toks.length by omega)
     generalize hacb : decide ((1 : Int) ∈ xk) = acb at *
     repeat' with_reducible first
      | refine s_ ?_
      | simp only [wZZ, seval, g1, g2, g3, g8, g18, g19, g20, g30, g31, g7, g9, g10, g29, o0, hzt, oD, oA]
      | refine cq2 hcon2 qd qd ?_
      | (refine Va rfl hg0 wu_ wu_ wu_ (by simp) ?_)
      | refine t_ ?_
     skip
     refine qc ?nx3 (fun (i : Nat) s => s.f 1 = ?v3_1 ∧ s.f 2 = ?v3_2 ∧ s.f 3 = ?v3_3 ∧ s.f 18 = ?v3_18 ∧ s.f 19 = ?v3_19 ∧ s.f 20 = ?v3_20 ∧ s.f 52 = ?v3_52 ∧ s.f 53 = ?v3_53 ∧ s.f 54 = vi i ∧ (i ≤ l.length) ∧ ((s.H 0 = some (.own 5 [g.V] false))) ∧ (D < s.next) ∧ (Gr s.H B 5 es v6) ∧ ((∃ vP, RowW s.H s.next B D g.toks.length q sh (qC (fun _ => false) 0 acb) vP (Vr (l.take i) q))) ∧ (s.f 8 = vi q) ∧ (s.f 7 = v6) ∧ (s.f 10 = .msl D 5 0 g.toks.length)) (fun i => l.length - i) (0) wj_ (by refine ⟨?_, ?_, ?_, ?_, ?_, ?_, ?_, ?_, ?_, wo_, (by ((try simp only [wM]); (repeat first | rw [if_pos trivial] | rw [if_pos rfl] | rw [if_neg (by omega)])); exact o0), (by ((try simp only [wN]) <;> omega)), (by exact k2_4.mono (Nat.le_refl _) (fun j h1 h2 => by ((try simp only [wM]); (repeat first | rw [if_pos trivial] | rw [if_pos rfl] | rw [if_neg (by omega)])))), (by exact ⟨_, RowW.congr (RowW.new (by (simp only [wM]; (repeat first | rw [if_pos trivial] | rw [if_pos rfl] | rw [if_neg (by omega)])); exact congrArg (fun x => some (MObj.own 5 x false)) hra) ⟨by omega, by ((try simp only [wN]) <;> omega)⟩) (fun k hk => rfl)⟩), (by (try simp only [wL, wM, wN, seval, g1, g2, g3, g18, g19, g20, o0]); first | done | rfl | assumption), (by (try simp only [wL, wM, wN, seval, g1, g2, g3, g18, g19, g20, o0]); first | done | rfl | assumption), (by (try simp only [wL, wM, wN, seval, g1, g2, g3, g18, g19, g20, o0]); first | done | rfl | assumption)⟩ <;> first | (simp only [wL, wM, wN, wX, seval, Option.some.injEq, g1, g2, g3, g18, g19, g20, o0] <;> exact wt_) | rfl | exact ⟨_, rfl⟩) ?_
     intro i s hnx ⟨g1, g2, g3, g18, g19, g20, g52, g53, g54, k3_0, k3_1, k3_2, k3_3, k3_4, g8, g7, g10⟩
     obtain ⟨vP, hR⟩ := k3_4
     have hzi := w1_ i
     by_cases hi : i < l.length
     · have hgi : l[i]? = some l[i] := ge_ hi
       have hpt := fun t => Ko (q := q) (t := t) hgi
       have hpn := fun hs => qJC (q := q) hgi hs
       obtain ⟨hkr, hkt⟩ := hL.tk _ (List.getElem_mem hi)
       have htl : l[i].tk.length ≤ 40 := jM (a := 0) hkr fun x hx => by obtain ⟨t, e, h⟩ := hkt x hx; omega
       generalize hk0 : l[i] = k at *
       obtain ⟨ks, kp, kt⟩ := k
       dsimp only at hkr hkt hpt hpn htl
       obtain ⟨F, hF⟩ : ∃ F, F = s.next + 1 + 2 := ⟨_, rfl⟩
       by_cases hc : ks = (q : Int)
       · repeat' with_reducible first
          | refine s_ ?_
          | simp only [wZZ, seval, g1, g2, g3, g18, g19, g20, g52, g53, g54, g8, g7, g10, hzi, k3_1]
          | apply qa <;> intro h h_ <;> (try simp only [wD, reduceCtorEq] at h_) <;> (try exact wb_) <;> (try simp only [h])
          | refine t_ ?_
         refine qc ?nx4 (fun (j : Nat) s => s.f 1 = ?v4_1 ∧ s.f 2 = ?v4_2 ∧ s.f 3 = ?v4_3 ∧ s.f 18 = ?v4_18 ∧ s.f 19 = ?v4_19 ∧ s.f 20 = ?v4_20 ∧ s.f 52 = ?v4_52 ∧ s.f 53 = ?v4_53 ∧ s.f 54 = ?v4_54 ∧ s.f 63 = ?v4_63 ∧ s.f 64 = ?v4_64 ∧ s.f 65 = vi j ∧ (j ≤ kt.length) ∧ ((s.H 0 = some (.own 5 [g.V] false))) ∧ (D < F) ∧ (F < s.next) ∧ (Gr s.H B 5 es v6) ∧ ((s.H F = some (.own 3 [.agg [vi ks, vi kp, .sl 1 false (kt.map (V.int .i64))]] false))) ∧ ((∃ vP, RowW s.H s.next B D g.toks.length q sh (qC (fun _ => false) 0 acb) vP (psJ l q i (⟨ks, kp, kt⟩ : Lk) j))) ∧ (s.f 8 = vi q) ∧ (s.f 7 = v6) ∧ (s.f 10 = .msl D 5 0 g.toks.length) ∧ (s.f 13 = .ptr F 0 0)) (fun j => kt.length - j) (0) wj_ (by refine ⟨?_, ?_, ?_, ?_, ?_, ?_, ?_, ?_, ?_, ?_, ?_, ?_, wo_, (by ((try simp only [wM]); (repeat first | rw [if_pos trivial] | rw [if_pos rfl] | rw [if_neg (by omega)])); exact k3_1), wo_, (by ((try simp only [wN]) <;> omega)), (by exact k3_3.mono (Nat.le_refl _) (fun j h1 h2 => by ((try simp only [wM]); (repeat first | rw [if_pos trivial] | rw [if_pos rfl] | rw [if_neg (by omega)])))), (by rw [hF]; (simp only [wM]; (repeat first | rw [if_pos trivial] | rw [if_pos rfl] | rw [if_neg (by omega)])) <;> first | rfl | simp), (by exact ⟨vP, (hR.mono (by ((try simp only [wN]) <;> omega)) (by ((try simp only [wM]); (repeat first | rw [if_pos trivial] | rw [if_pos rfl] | rw [if_neg (by omega)]))) (fun k hk j h1 h2 => by ((try simp only [wM]); (repeat first | rw [if_pos trivial] | rw [if_pos rfl] | rw [if_neg (by omega)])))).congr (fun k hk => qJr l q i _ k)⟩), (by (try simp only [wL, wM, wN, seval, g1, g2, g3, g18, g19, g20, g52, g53, g54, g8, g7, g10]); first | done | rfl | assumption), (by (try simp only [wL, wM, wN, seval, g1, g2, g3, g18, g19, g20, g52, g53, g54, g8, g7, g10]); first | done | rfl | assumption), (by (try simp only [wL, wM, wN, seval, g1, g2, g3, g18, g19, g20, g52, g53, g54, g8, g7, g10]); first | done | rfl | assumption), (by (try simp only [wL, wM, wN, seval, g1, g2, g3, g18, g19, g20, g52, g53, g54, g8, g7, g10]); first | done | rw [hF])⟩ <;> first | (simp only [wL, wM, wN, wX, seval, Option.some.injEq, g1, g2, g3, g18, g19, g20, g52, g53, g54, g8, g7, g10] <;> exact wt_) | rfl | exact ⟨_, rfl⟩) ?_
         intro j s hnx ⟨g1, g2, g3, g18, g19, g20, g52, g53, g54, g63, g64, g65, k4_0, k4_1, k4_2, k4_3, k4_4, k4_5, k4_6, g8, g7, g10, g13⟩
         obtain ⟨vQ, hR4⟩ := k4_6
         have hzj := w1_ j
         by_cases hj : j < kt.length
         · have hgj : kt[j]? = some kt[j] := ge_ hj
           obtain ⟨t, hte, ht⟩ := hkt _ (List.getElem_mem hj)
           rw [hte] at hgj
           have hG4 := hR4.gr t ht
           have oF := k4_5
           have hpl := qlT l q i (⟨ks, kp, kt⟩ : Lk) j t
           have hga := yK (q := q) (sh := sh) (ac := qC (fun _ => false) 0 acb) (vP := vQ) ht
           have hgo := hG4.dropO hR4.ho
           repeat' with_reducible first
            | refine s_ ?_
            | simp only [wZZ, seval, g1, g2, g3, g18, g19, g20, g52, g53, g54, g63, g64, g65, g8, g7, g10, g13, hzj, k4_1, oF]
            | apply qa <;> intro h h_ <;> (try simp only [wD, reduceCtorEq] at h_) <;> (try exact wb_) <;> (try simp only [h])
            | refine t_ ?_
            | (refine Zk hR4.ho hga wu_ ?_)
            | apply qP rfl (hG4.mono (Nat.le_refl _) (fun id h1 h2 => by (try simp only [wM]); (repeat rw [if_neg (by omega)]))); (focus (first | exact qM.sl | exact qM.asl)); (focus (simp only [wZ] <;> omega)); (focus (unfold maxLen; simp only [wZ] <;> omega))
            | (refine Va hgo hga wu_ wu_ wu_ (by simp) ?_)
            | simp (disch := omega) only [w64, if_neg]
           exact ⟨by ((try simp only [wN]) <;> omega), j + 1, by omega, trivial, trivial, trivial, trivial, trivial, trivial, trivial, trivial, trivial, trivial, trivial, rfl, by omega, hG4.dropO k4_1, k4_2, by ((try simp only [wN]) <;> omega), k4_4.mono (Nat.le_refl _) (fun x h1 h2 => by ((try simp only [wM]); (repeat first | rw [if_pos trivial] | rw [if_pos rfl] | rw [if_neg (by omega)])); exact kI (fun y hy => by have := hR4.lo t ht y hy; omega) rfl), hG4.dropO oF, ⟨_, hR4.put (id := s.next + 1 + 3 + 10) ht (by omega) (by ((try simp only [wN]) <;> omega)) (by omega) (qBq hkr hgj) (fun r hr hne => qrx hgj hne) (by (simp only [wM]; (repeat first | rw [if_pos trivial] | rw [if_pos rfl] | rw [if_neg (by omega)])); exact congrArg (fun x => some (MObj.own 5 x false)) (qfU ht)) wc_ (fun r hr hne y h1 h2 => by have := Gr.ne (hR4.gr r hr) hR4.ho h1; ((try simp only [wM]); (repeat first | rw [if_pos trivial] | rw [if_pos rfl] | rw [if_neg (by omega)])); exact kI (fun z hz e => hR4.sep r t hr ht hne y h1 (e ▸ hz)) rfl)⟩, trivial, trivial, trivial, trivial⟩
         · have e : j = kt.length := by omega
           subst e
           repeat' with_reducible first
            | refine s_ ?_
            | simp only [wZZ, seval, g1, g2, g3, g18, g19, g20, g52, g53, g54, g63, g64, g65, g8, g7, g10, g13, hzi, k4_1]
           exact ⟨by ((try simp only [wN]) <;> omega), i + 1, by omega, trivial, trivial, trivial, trivial, trivial, trivial, trivial, trivial, rfl, by omega, trivial, by ((try simp only [wN]) <;> omega), k4_4.mono (Nat.le_refl _) (fun j h1 h2 => by ((try simp only [wM]); (repeat first | rw [if_pos trivial] | rw [if_pos rfl] | rw [if_neg (by omega)]))), ⟨vQ, (hR4.mono (by ((try simp only [wN]) <;> omega)) (by ((try simp only [wM]); (repeat first | rw [if_pos trivial] | rw [if_pos rfl] | rw [if_neg (by omega)]))) (fun k hk j h1 h2 => by ((try simp only [wM]); (repeat first | rw [if_pos trivial] | rw [if_pos rfl] | rw [if_neg (by omega)])))).congr (fun k hk => (hpn hc k).symm)⟩, trivial, trivial, trivial⟩
       · skip
         repeat' with_reducible first
          | refine s_ ?_
          | simp only [wZZ, seval, g1, g2, g3, g18, g19, g20, g52, g53, g54, g8, g7, g10, hzi, k3_1]
          | apply qa <;> intro h h_ <;> (try simp only [wD, reduceCtorEq] at h_) <;> (try exact wb_) <;> (try simp only [h])
          | refine t_ ?_
         exact ⟨by ((try simp only [wN]) <;> omega), i + 1, by omega, trivial, trivial, trivial, trivial, trivial, trivial, trivial, trivial, rfl, by omega, trivial, by ((try simp only [wN]) <;> omega), k3_3.mono (Nat.le_refl _) (fun j h1 h2 => by ((try simp only [wM]); (repeat first | rw [if_pos trivial] | rw [if_pos rfl] | rw [if_neg (by omega)]))), ⟨vP, (hR.mono (by ((try simp only [wN]) <;> omega)) (by ((try simp only [wM]); (repeat first | rw [if_pos trivial] | rw [if_pos rfl] | rw [if_neg (by omega)]))) (fun k hk j h1 h2 => by ((try simp only [wM]); (repeat first | rw [if_pos trivial] | rw [if_pos rfl] | rw [if_neg (by omega)])))).congr (fun k hk => by rw [hpt, if_neg (fun h => hc h.1), List.append_nil])⟩, trivial, trivial, trivial⟩
     · have e : l.take i = l := List.take_of_length_le (by omega)
       rw [e] at hR
       have oD3 := hR.ho
       have hpe : ∀ k : Nat, cellAt m l q k = { st := q, tok := k, shift := sh k, acc := qC (fun _ => false) 0 acb k, prods := Vr l q k } := fun k => by
        unfold cellAt
        rw [hkA, ← qgN (hL.pr q), hsh, ← hacb]
        have : decide (k = 0 ∧ (1 : Int) ∈ xk) = qC (fun _ => false) 0 (decide ((1 : Int) ∈ xk)) k := by
         unfold qC
         by_cases e : k = 0 <;> simp [e]
        rw [this]
       repeat' with_reducible first
        | refine s_ ?_
        | simp only [wZZ, seval, g1, g2, g3, g18, g19, g20, g52, g53, g54, g8, g7, g10, hzi, k3_1]
        | apply qa <;> intro h h_ <;> (try simp only [wD, reduceCtorEq] at h_) <;> (try exact wb_) <;> (try simp only [h])
       skip
       refine qc ?nx5 (fun (k : Nat) s => s.f 1 = ?v5_1 ∧ s.f 2 = ?v5_2 ∧ s.f 3 = ?v5_3 ∧ s.f 18 = ?v5_18 ∧ s.f 19 = ?v5_19 ∧ s.f 20 = ?v5_20 ∧ s.f 85 = ?v5_85 ∧ s.f 86 = vi k ∧ (k ≤ g.toks.length) ∧ ((s.H 0 = some (.own 5 [g.V] false))) ∧ (D < s.next) ∧ ((s.H D = some (.own 5 (qbm g.toks.length q sh (qC (fun _ => false) 0 acb) vP) false))) ∧ ((∃ v es, s.f 7 = v ∧ Gr s.H s.next 5 es v ∧ vE es ((L ++ (List.range k).filterMap (qb2 m l q)).map Cel.V))) ∧ (s.f 84 = .msl D 5 0 g.toks.length)) (fun k => g.toks.length - k) (0) wj_ (by refine ⟨?_, ?_, ?_, ?_, ?_, ?_, ?_, ?_, wo_, (by ((try simp only [wM]); (repeat first | rw [if_pos trivial] | rw [if_pos rfl] | rw [if_neg (by omega)])); exact k3_1), (by ((try simp only [wN]) <;> omega)), (by ((try simp only [wM]); (repeat first | rw [if_pos trivial] | rw [if_pos rfl] | rw [if_neg (by omega)])); exact oD3), (by exact ⟨v6, es, (by (simp only [wL, seval]); assumption), k3_3.mono (by ((try simp only [wN]) <;> omega)) (fun j h1 h2 => by ((try simp only [wM]); (repeat first | rw [if_pos trivial] | rw [if_pos rfl] | rw [if_neg (by omega)]))), by show vE es ((L ++ []).map Cel.V); rw [List.append_nil]; exact hE6⟩), (by (try simp only [wL, wM, wN, seval, g1, g2, g3, g18, g19, g20, o0]); first | done | rfl | assumption)⟩ <;> first | (simp only [wL, wM, wN, wX, seval, Option.some.injEq, g1, g2, g3, g18, g19, g20, o0] <;> exact wt_) | rfl | exact ⟨_, rfl⟩) ?_
       intro k s hnx ⟨g1, g2, g3, g18, g19, g20, g85, g86, k5_0, k5_1, k5_2, k5_3, k5_4, g84⟩
       obtain ⟨v7, es7, gg, hG7, hE7⟩ := k5_4
       have hzk := w1_ k
       by_cases hk : k < g.toks.length
       · have hgk := yK (q := q) (sh := sh) (ac := qC (fun _ => false) 0 acb) (vP := vP) hk
         have hrs := XH (qb2 m l q) k
         have hrl2 := x9 (qb2 m l q) k
         have hcf : qb2 m l q k = if 0 < qL (cellAt m l q k) then some (cellAt m l q k) else none := rfl
         rw [hpe k] at hcf
         have hGk := hR.gr k hk
         have hth := yJ (c := { st := q, tok := k, shift := sh k, acc := qC (fun _ => false) 0 acb k, prods := Vr l q k }) (by have := Ve l q k; dsimp only; omega)
         have hel7 : es7.length = _ := hE7.len.symm
         rw [List.length_map, List.length_append] at hel7
         have oD4 := k5_3
         by_cases hc : 0 < qL { st := q, tok := k, shift := sh k, acc := qC (fun _ => false) 0 acb k, prods := Vr l q k }
         · rw [if_pos hc] at hcf
           repeat' with_reducible first
            | refine s_ ?_
            | simp only [wZZ, seval, g1, g2, g3, g18, g19, g20, g85, g86, g84, hzk, k5_1, gg]
            | apply qa <;> intro h h_ <;> (try simp only [wD, reduceCtorEq] at h_) <;> (try exact wb_) <;> (try simp only [h])
            | (refine ldW oD4 hgk wu_ ?_)
            | refine cq1 hth (qcw hGk) ?_
            | apply qP rfl (hG7.mono (Nat.le_refl _) (fun id h1 h2 => by (try simp only [wM]); (repeat rw [if_neg (by omega)]))); (focus (first | exact qM.sl | exact qM.asl)); (focus (simp only [wZ, hel7]; omega)); (focus (unfold maxLen; simp only [wZ, hel7]; omega))
            | refine t_ ?_
            | simp (disch := omega) only [w64, if_neg]
           exact ⟨by ((try simp only [wN]) <;> omega), k + 1, by omega, trivial, trivial, trivial, trivial, trivial, trivial, trivial, rfl, by omega, kI (fun x h => Gr.ne hG7 k5_1 h) (by ((try simp only [wM]); (repeat first | rw [if_pos trivial] | rw [if_pos rfl] | rw [if_neg (by omega)])); exact k5_1), by ((try simp only [wN]) <;> omega), by ((try simp only [wM]); (repeat first | rw [if_pos trivial] | rw [if_pos rfl] | rw [if_neg (by omega)])); exact kI (fun x h => Gr.ne hG7 oD4 h) (by ((try simp only [wM]); (repeat first | rw [if_pos trivial] | rw [if_pos rfl] | rw [if_neg (by omega)])); exact oD4), ⟨_, _, rfl, Gr.tok (id := s.next + 1 + 4 + 3 + 3) (fin := es7.length + 1) (by ((try simp only [wM]); (repeat first | rw [if_pos trivial] | rw [if_pos rfl] | rw [if_neg (by omega)]))) (by ((try simp only [wN]) <;> omega)), by rw [hrs, hcf, Option.toList_some, ← List.append_assoc, List.map_append]; exact hE7.snoc (qcw hGk)⟩, trivial⟩
         · rw [if_neg hc] at hcf
           repeat' with_reducible first
            | refine s_ ?_
            | simp only [wZZ, seval, g1, g2, g3, g18, g19, g20, g85, g86, g84, hzk, k5_1, gg]
            | apply qa <;> intro h h_ <;> (try simp only [wD, reduceCtorEq] at h_) <;> (try exact wb_) <;> (try simp only [h])
            | (refine ldW oD4 hgk wu_ ?_)
            | refine cq1 hth (qcw hGk) ?_
            | refine t_ ?_
            | simp (disch := omega) only [w64, if_neg]
           exact ⟨by ((try simp only [wN]) <;> omega), k + 1, by omega, trivial, trivial, trivial, trivial, trivial, trivial, trivial, rfl, by omega, trivial, by ((try simp only [wN]) <;> omega), oD4, ⟨v7, es7, rfl, hG7.mono (by ((try simp only [wN]) <;> omega)) (fun j h1 h2 => by ((try simp only [wM]); (repeat first | rw [if_pos trivial] | rw [if_pos rfl] | rw [if_neg (by omega)]))), by rw [hrs, hcf, Option.toList_none, List.append_nil]; exact hE7⟩, trivial⟩
       · have e : k = g.toks.length := by omega
         subst e
         rw [← hst] at hE7
         repeat' with_reducible first
          | refine s_ ?_
          | simp only [wZZ, seval, g1, g2, g3, g18, g19, g20, g85, g86, g84, hz, k5_1, gg]
         exact ⟨by ((try simp only [wN]) <;> omega), q + 1, by omega, trivial, trivial, trivial, trivial, trivial, trivial, rfl, by omega, by rw [hst, List.length_append]; omega, v7, es7, rfl, hG7.mono (by ((try simp only [wN]) <;> omega)) (fun _ _ _ => rfl), hE7⟩
 · have e : q = m.length := by omega
   subst e
   skip
   repeat' with_reducible first
    | refine s_ ?_
    | simp only [wZZ, seval, g1, g2, g3, g18, g19, g20, o0, g7]
   refine qw rfl (Or.inr rfl) ?_
   (simp only [wL, seval])
   exact hG6.erL hE6.up
end Go.Proofs
