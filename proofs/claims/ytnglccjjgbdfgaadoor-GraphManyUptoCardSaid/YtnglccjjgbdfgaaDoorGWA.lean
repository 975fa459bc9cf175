/- Part of a proof that a law of the given program answers true. -/
import Derived.Test.YtnglccjjgbdfgaaDoorGLA
import Derived.Test.YtnglccjjgbdfgaaDoorGPB
import Derived.Test.YtnglccjjgbdfgaaDoorGCA
set_option linter.unusedSimpArgs false
set_option linter.unusedVariables false
set_option maxHeartbeats 4000000
namespace Go.Proofs
open Go.E
abbrev ivs (l : List Int) : List V := l.map (V.int .i64)
def rowI (n : Nat) (l : Nat → Int) : List Int := (List.range n).map l
theorem rowI_len (n : Nat) (l : Nat → Int) : (rowI n l).length = n := by simp [rowI]
theorem rowI_get {n k : Nat} {l : Nat → Int} (h : k < n) : (rowI n l)[k]? = some (l k) := by simp [rowI, h]
theorem rowI_set {n k : Nat} {l : Nat → Int} {x : Int} : (rowI n l).set k x = rowI n (updT l k x) := by
 refine List.ext_getElem? fun j => ?_
 rw [List.getElem?_set]
 by_cases hj : j < n
 · rw [rowI_get (l := updT l k x) hj, rowI_get (l := l) hj]
   by_cases e : k = j
   · subst e; rw [if_pos rfl, if_pos (by rw [rowI_len]; exact hj), updT_eq]
   · rw [if_neg e, updT_ne (fun h => e h.symm)]
 · have h1 : (rowI n (updT l k x))[j]? = none := List.getElem?_eq_none (by rw [rowI_len]; omega)
   have h2 : (rowI n l)[j]? = none := List.getElem?_eq_none (by rw [rowI_len]; omega)
   rw [h1, h2]
   split
   · rw [if_neg (by rw [rowI_len]; omega)]
   · rfl
theorem rowI_congr {n : Nat} {l m : Nat → Int} (h : ∀ k, k < n → l k = m k) : rowI n l = rowI n m := List.map_congr_left fun k hk => h k (List.mem_range.1 hk)
def natI (l : List Nat) : List Int := l.map fun x : Nat => (x : Int)
theorem natI_len (l : List Nat) : (natI l).length = l.length := by simp [natI]
theorem natI_get {l : List Nat} {k x : Nat} (h : l[k]? = some x) : (natI l)[k]? = some (x : Int) := by simp [natI, h]
theorem markT_snoc (o : Nat → Int) (g : Int) (x : Nat) : ∀ l : List Nat, markT o g (l ++ [x]) = updT (markT o g l) x g
 | [] => by funext i; simp [markT, updT]
 | y :: r => by
   funext i
   rw [List.cons_append, markT, markT_snoc o g x r]
   by_cases h1 : i = y
   · subst h1
     rw [if_pos rfl]
     by_cases h2 : i = x
     · subst h2; rw [updT_eq]
     · rw [updT_ne h2, markT, if_pos rfl]
   · rw [if_neg h1]
     by_cases h2 : i = x
     · subst h2; rw [updT_eq, updT_eq]
     · rw [updT_ne h2, updT_ne h2, markT, if_neg h1]
theorem srt_rise {l : List Int} (h : l.Nodup) : Rise (srtZ l) ∧ ∀ x, x ∈ srtZ l ↔ x ∈ l := by
 have hp : (srtZ l).Perm l := List.mergeSort_perm _ _
 have hs : (srtZ l).Pairwise (fun a b => decide (a ≤ b) = true) := List.pairwise_mergeSort (fun a b c => by simp; omega) (fun a b => by simp; omega) _
 have hn : (srtZ l).Nodup := hp.nodup_iff.2 h
 refine ⟨?_, fun x => hp.mem_iff⟩
 refine (List.Pairwise.and hs hn).imp fun {a b} h => ?_
 have := h.1
 have h2 := h.2
 rw [decide_eq_true_eq] at this
 exact Int.lt_iff_le_and_ne.2 ⟨this, h2⟩
theorem srt_sortN {l : List Nat} (h : l.Nodup) : srtZ (natI l) = natI (sortN l) := by
 have hn : (natI l).Nodup := by
  unfold natI
  exact List.Pairwise.map (S := (· ≠ ·)) _ (fun a b hab => by omega) h
 obtain ⟨a, b⟩ := srt_rise hn
 refine rise_ext a ?_ fun x => ?_
 · unfold natI
   exact List.Pairwise.map (S := (· < ·)) _ (fun a b hab => by omega) (sortN_rise h)
 · rw [b]
   simp [natI, sortN_mem]
theorem callQWc {P : Program} [Glob P] {cls : Cls} {id : Nat} {s : St} {K : V → St → Prop} {f : FuncId} {vs : List V} {H : Nat → Option MObj} {N : Nat} (hc : (cls == .w || cls == .any) = true) (hH : s.H = H) (hN : s.next = N)
 (h : ECalls P f vs H N fun v H' next' => K v { s with H := H', next := next' }) : callQ P cls id s K f vs := by
 subst hN
 subst hH
 have hk : ∀ H' n', keepC cls s.next s.H H' n' := by
  intro H' n'
  cases cls with
  | w => trivial
  | any => trivial
  | v z => exact absurd hc (by simp)
  | _ => cases hc
 have hw : wCls cls = true := by
  cases cls with
  | w => rfl
  | any => rfl
  | v z => exact absurd hc (by simp)
  | _ => cases hc
 refine Or.inr ⟨hw, ?_⟩
 rw [List.append_nil]
 exact h.mono fun _ _ _ h1 => ⟨hk _ _, h1⟩
def mid : V → Option Nat
 | .msl id _ _ _ => some id
 | _ => none
def StkM (H : Nat → Option MObj) (base next : Nat) (st : List Nat) (v : V) : Prop :=
 (st = [] ∧ v = .sl 1 true []) ∨ ∃ (id : Nat) (full : List Int), v = .msl id 1 0 st.length ∧ H id = some (.own 1 (ivs full) false) ∧ full.take st.length = natI st ∧ base ≤ id ∧ id < next
theorem StkM.mono {H H' : Nat → Option MObj} {base next n' : Nat} {st : List Nat} {v : V} (h : StkM H base next st v) (hn : next ≤ n') (hh : ∀ j, mid v = some j → base ≤ j → j < next → H' j = H j) : StkM H' base n' st v := by
 rcases h with h | ⟨id, full, rfl, h2, h3, h4, h5⟩
 · exact Or.inl h
 · exact Or.inr ⟨id, full, rfl, (hh id rfl h4 h5).trans h2, h3, h4, by omega⟩
theorem StkM.mid {H : Nat → Option MObj} {base next : Nat} {st : List Nat} {v : V} (h : StkM H base next st v) : ∀ j, (j < base ∨ next ≤ j) → Go.Proofs.mid v ≠ some j := fun j hj e => by
 rcases h with ⟨_, rfl⟩ | ⟨id, full, rfl, h2, h3, h4, h5⟩
 · cases e
 · cases e; omega
theorem GrM.mono {H H' : Nat → Option MObj} {base next n' z : Nat} {es : List V} {v : V} (h : GrM H base next z es v) (hn : next ≤ n') (hh : ∀ j, Go.Proofs.mid v = some j → base ≤ j → j < next → H' j = H j) : GrM H' base n' z es v := by
 rcases h with h | ⟨id, rfl, h2, h3, h4⟩
 · exact Or.inl h
 · exact Or.inr ⟨id, rfl, (hh id rfl h3 h4).trans h2, h3, by omega⟩
theorem GrM.mid {H : Nat → Option MObj} {base next z : Nat} {es : List V} {v : V} (h : GrM H base next z es v) : ∀ j, (j < base ∨ next ≤ j) → Go.Proofs.mid v ≠ some j := fun j hj e => by
 rcases h with ⟨_, rfl⟩ | ⟨id, rfl, h2, h3, h4⟩
 · cases e
 · cases e; omega
theorem appQ_K {cls : Cls} {id : Nat} {s : St} {K : V → St → Prop} {z bytes : Nat} {vx vy : V} {xs ys : List V} {H : Nat → Option MObj} {base next : Nat} (hcl : cls = .any)
 (hg : GrM H base next z xs vx) (hH : s.H = H) (hs : SrcN s.H z ys vy) (hb : (xs.length + ys.length) * bytes ≤ 140737488355328) (hl : xs.length + ys.length ≤ maxLen)
 (hk : ∀ H', H' id = some (.own z (xs ++ ys) false) → (∀ j, j ≠ id → mid vx ≠ some j → H' j = s.H j) → K (.msl id z 0 (xs ++ ys).length) { s with H := H' }) : appQ cls id s K true z bytes vx vy := by
 unfold appQ
 rw [hs.1 s rfl]
 refine ⟨fun e => (by rw [hcl] at e; cases e), ?_⟩
 rcases hg with ⟨rfl, rfl⟩ | ⟨i, rfl, h1, h2, h3⟩
 · have e : appendS id s true z (.sl z true []) ys = some (.msl id z 0 ys.length, s.setO id (some (.own z ys false)), ys.length) := by simp [appendS]
   rw [e]
   refine ⟨by simpa using hb, by simpa using hl, ?_⟩
   exact hk (fun i => if i = id then some (.own z ys false) else s.H i) (by simp) (fun j hj _ => by simp [hj])
 · rw [← hH] at h1
   have e : appendS id s true z (.msl i z 0 xs.length) ys = some (.msl id z 0 (xs.length + ys.length), (s.setO i none).setO id (some (.own z (xs ++ ys) false)), xs.length + ys.length) := by simp [appendS, h1]
   rw [e]
   refine ⟨hb, hl, ?_⟩
   have := hk (fun j => if j = id then some (.own z (xs ++ ys) false) else if j = i then none else s.H j) (by simp) (fun j hne hj => by simp [hne, show j ≠ i from fun e => hj (by rw [e]; rfl)])
   rw [List.length_append] at this
   exact this
theorem appQ_S {cls : Cls} {id : Nat} {s : St} {K : V → St → Prop} {vx : V} {st : List Nat} {x : Nat} {H : Nat → Option MObj} {base next : Nat} (hcl : cls = .any)
 (hg : StkM H base next st vx) (hH : s.H = H) (hl : st.length ≤ 1000000000)
 (hk : ∀ H', H' id = some (.own 1 (ivs (natI (st ++ [x]))) false) → (∀ j, j ≠ id → mid vx ≠ some j → H' j = s.H j) → K (.msl id 1 0 (st ++ [x]).length) { s with H := H' }) {c : Bool} : appQ cls id s K true 1 8 vx (.sl 1 c [vi (x : Int)]) := by
 unfold appQ
 have e0 : srcV s 1 (.sl 1 c [vi (x : Int)]) = some [vi (x : Int)] := by simp [srcV]
 rw [e0]
 refine ⟨fun e => (by rw [hcl] at e; cases e), ?_⟩
 rcases hg with ⟨rfl, rfl⟩ | ⟨i, full, rfl, h1, h2, h3, h4⟩
 · have e : appendS id s true 1 (.sl 1 true []) [vi (x : Int)] = some (.msl id 1 0 1, s.setO id (some (.own 1 [vi (x : Int)] false)), 1) := by simp [appendS]
   rw [e]
   refine ⟨by decide, by decide, ?_⟩
   exact hk (fun i => if i = id then some (.own 1 [vi (x : Int)] false) else s.H i) (by simp [natI]) (fun j hj _ => by simp [hj])
 · rw [← hH] at h1
   have hfl : st.length ≤ full.length := by
    have := congrArg List.length h2
    rw [List.length_take, natI_len] at this; omega
   have e : appendS id s true 1 (.msl i 1 0 st.length) [vi (x : Int)] = some (.msl id 1 0 (st.length + 1), (s.setO i none).setO id (some (.own 1 (ivs (natI (st ++ [x]))) false)), st.length + 1) := by
    simp only [appendS, h1, if_true]
    rw [if_pos ⟨trivial, by simp; omega⟩]
    have : ((ivs full).drop 0).take st.length ++ [vi (x : Int)] = ivs (natI (st ++ [x])) := by
     rw [List.drop_zero, ← List.map_take, h2]; simp [natI]
    rw [this]; rfl
   rw [e]
   refine ⟨by omega, by unfold maxLen; omega, ?_⟩
   have := hk (fun j => if j = id then some (.own 1 (ivs (natI (st ++ [x]))) false) else if j = i then none else s.H j) (by simp) (fun j hne hj => by simp [hne, show j ≠ i from fun e => hj (by rw [e]; rfl)])
   rw [List.length_append] at this
   exact this
theorem ldI {K : V → Prop} {k : Nat} (k' : Nat) {l : List Int} {x : Int} {ro : Bool} {o : Option MObj} (ho : o = some (.own 1 (ivs l) ro)) (e : k = k') (hx : l[k']? = some x) (hk : K (vi x)) : onS (ldQ o false 1 k 0) K := by
 subst ho e
 exact ldQ_obj hx rfl hk
theorem stI {K : St → Prop} {s : St} {k id n : Nat} (k' : Nat) {l : Nat → Int} {x : Int} {o : Option MObj} (ho : o = some (.own 1 (ivs (rowI n l)) false)) (e : k = k') (h : k' < n) (hk : K (s.setO id (some (.own 1 (ivs (rowI n (updT l k' x))) false)))) : onS (stQ s o 1 id k 0 (vi x)) K := by
 subst ho e
 have hh := stQ_obj (K := K) (s := s) (id := id) (f := V.int .i64) (l := rowI n l) (y := x) (z := 1) (k := k) (by rw [rowI_len]; exact h) rfl rfl (fun _ => rfl)
 rw [rowI_set] at hh
 exact hh hk
theorem sl_Index {l : List Int} {x : Int} {k : Nat} (hl : l.length ≤ 1000000000) (hk : l[k]? = some x) (hn : x ∉ l.take k) : Pure Tryd.prog 46 [ints l, vi x] (vi (k : Int)) := by
 refine pure_intro Tryd.func46 e46_nm e46_ok (by show 2 ≤ 19; decide) ?_
 show ewp _ e46n22 _ _
 have hkl := (List.getElem?_eq_some_iff.1 hk).1
 repeat' with_reducible first
  | refine s_ ?_
  | refine s_ ?_
  | simp -implicitDefEqProofs only [wS, wT, wU, wV, wW, wX, wY, wC, wF, wG, wL, wM, wN, seval, Int.cast_ofNat_Int, Int.reduceLT, Int.reduceLE, Int.reduceEq, Int.reduceToNat, decide_true, decide_false, Bool.false_eq_true]
  | (refine condQ_j (fun h h_ => ?_) (fun h h_ => ?_) <;> (try simp only [wD, reduceCtorEq] at h_) <;> (try (exfalso; first | omega | exact absurd (Eq.trans (Eq.symm h_) (by assumption) : false = true) (by decide) | exact absurd (Eq.trans (Eq.symm h_) (by assumption) : true = false) (by decide) | (refine absurd ?_ h_; focus assumption) | (refine absurd h_ ?_; focus assumption))) <;> (try simp only [h]))
  | (apply ia_slQ; (focus omega); (exact wd_))
  | (apply ia_aslQ; (focus omega); (exact wd_))
  | (apply strAdd; (focus (first | omega | (simp only [wZ] <;> omega))))
  | (apply ldQ_whole)
  | (apply ldQ_sub; (exact wu_); (exact wu_); (focus ((try simp -implicitDefEqProofs only [wE, Nat.reduceAdd]); rfl)))
  | (apply ldQ_obj; (exact wd_); (exact wu_))
  | (apply ldQ_cell; (exact wu_))
  | (apply ldQ_one; (exact wu_))
  | (apply ld_ipQ; (exact wu_))
  | simp -implicitDefEqProofs (disch := omega) only [w64, if_neg]
 refine ewp_loopN ?nx1 (fun (i : Nat) s => s.f 0 = ?v1_0 ∧ s.f 1 = ?v1_1 ∧ s.f 7 = ?v1_7 ∧ s.f 8 = vi i ∧ (i ≤ k)) (fun i => l.length - i) (0) wj_ (by refine ⟨?_, ?_, ?_, ?_, (by first | omega | (simp; done) | assumption)⟩ <;> first | (simp -implicitDefEqProofs only [wL, wM, wN, wX, seval, Option.some.injEq] <;> exact wt_) | rfl | exact ⟨_, rfl⟩) ?_
 intro i s hnx ⟨g0, g1, g7, g8, k1_0⟩
 repeat' with_reducible first
  | refine s_ ?_
  | refine s_ ?_
  | simp -implicitDefEqProofs only [wS, wT, wU, wV, wW, wX, wY, wC, wF, wG, wL, wM, wN, seval, Int.cast_ofNat_Int, Int.reduceLT, Int.reduceLE, Int.reduceEq, Int.reduceToNat, decide_true, decide_false, Bool.false_eq_true, g0, g1, g7, g8]
  | (refine condQ_j (fun h h_ => ?_) (fun h h_ => ?_) <;> (try simp only [wD, reduceCtorEq] at h_) <;> (try (exfalso; first | omega | exact absurd (Eq.trans (Eq.symm h_) (by assumption) : false = true) (by decide) | exact absurd (Eq.trans (Eq.symm h_) (by assumption) : true = false) (by decide) | (refine absurd ?_ h_; focus assumption) | (refine absurd h_ ?_; focus assumption))) <;> (try simp only [h]))
  | (apply ia_slQ; (focus omega); (exact wd_))
  | (apply ia_aslQ; (focus omega); (exact wd_))
  | (apply strAdd; (focus (first | omega | (simp only [wZ] <;> omega))))
  | (apply ldQ_whole)
  | (apply ldQ_sub; (exact wu_); (exact wu_); (focus ((try simp -implicitDefEqProofs only [wE, Nat.reduceAdd]); rfl)))
  | (apply ldQ_obj; (exact wd_); (exact wu_))
  | (apply ldQ_cell; (exact wu_))
  | (apply ldQ_one; (exact wu_))
  | (apply ld_ipQ; (exact wu_))
  | simp -implicitDefEqProofs (disch := omega) only [w64, if_neg]
 · refine post1 rfl (Or.inr rfl) ?_
   simp -implicitDefEqProofs only [wL, seval, g0, g1, g7, g8]
   first | refine er_bool ?_ | refine er_int ?_ | refine er_str ?_ | refine er_sl_eq ?_ | refine er_asl_eq ?_
   try (with_reducible rfl)
   have : ¬ i < k := fun h => hn (by rw [h_]; exact List.mem_take_iff_getElem.2 ⟨i, by omega, rfl⟩)
   have : i = k := by omega
   rw [this]
 · have : i ≠ k := fun e => h_ (by subst e; exact (List.getElem?_eq_some_iff.1 hk).2.symm)
   refine ⟨wk_, i + 1, (by omega), ?_⟩
   refine ⟨?_, ?_, ?_, ?_, ?_⟩
   iterate 4 (focus (first | (simp -implicitDefEqProofs only [wL, wM, wN, wX, seval, Option.some.injEq, g0, g1, g7, g8] <;> exact wt_) | rfl | exact ⟨_, rfl⟩))
   all_goals try omega

theorem slM_loQ {K : V → Prop} {id z off len k : Nat} (k' : Int) (e : k' = (k : Int)) (h : k ≤ len) (hk : K (.msl id z (off + k) (len - k))) : onS (sliceV z (.msl id z off len) (some (.int .i64 k')) none none) K := by
 subst e
 have : sliceV z (.msl id z off len) (some (.int .i64 (k : Int))) none none = some (.msl id z (off + k) (len - k)) := by simp [sliceV, boundsV, idxOf, h]
 rw [this]; exact hk
theorem slM_hiQ {K : V → Prop} {id z off len k : Nat} (k' : Int) (e : k' = (k : Int)) (h : k ≤ len) (hk : K (.msl id z off k)) : onS (sliceV z (.msl id z off len) none (some (.int .i64 k')) none) K := by
 subst e
 have : sliceV z (.msl id z off len) none (some (.int .i64 (k : Int))) none = some (.msl id z off k) := by simp [sliceV, boundsV, idxOf, h]
 rw [this]; exact hk
abbrev wkV (rel : List (List Int)) (ni li oi n : Nat) (sv gv : V) (nx : Nat) : V := .agg [.sl 1 false (rel.map intsV), .msl ni 1 0 n, .msl li 1 0 n, sv, .msl oi 1 0 n, gv, vi (nx : Int)]
structure WD (wi ni li oi lo : Nat) : Prop where
 a : wi ≠ ni ∧ wi ≠ li ∧ wi ≠ oi ∧ ni ≠ li ∧ ni ≠ oi ∧ li ≠ oi
 b : wi < lo ∧ ni < lo ∧ li < lo ∧ oi < lo
structure GrpsAt (H : Nat → Option MObj) (lo next : Nat) (sv gv : V) (gr : List (List Nat)) (gs : List V) : Prop where
 ln : gs.length = gr.length
 pl : ∀ (k : Nat) (l : List Nat), gr[k]? = some l → ∃ id, gs[k]? = some (.msl id 1 0 l.length) ∧ H id = some (.own 1 (ivs (natI l)) false) ∧ lo ≤ id ∧ id < next ∧ mid sv ≠ some id ∧ mid gv ≠ some id
structure WIn (H : Nat → Option MObj) (next wi ni li oi lo n : Nat) (rel : List (List Int)) (s : TS) (sv gv : V) (gs : List V) : Prop where
 w : H wi = some (.own 7 [wkV rel ni li oi n sv gv s.next] false)
 nu : H ni = some (.own 1 (ivs (rowI n s.num)) false)
 lw : H li = some (.own 1 (ivs (rowI n s.low)) false)
 of : H oi = some (.own 1 (ivs (rowI n s.of)) false)
 st : StkM H lo next s.stack sv
 gr : GrM H lo next 1 gs gv
 ga : GrpsAt H lo next sv gv s.groups gs
 sg : ∀ j, mid sv = some j → mid gv ≠ some j
 nx : lo ≤ next
abbrev WAt (H : Nat → Option MObj) (next wi ni li oi lo n : Nat) (rel : List (List Int)) (s : TS) : Prop := ∃ sv gv gs, WIn H next wi ni li oi lo n rel s sv gv gs
abbrev WQ (H : Nat → Option MObj) (next wi ni li oi lo n : Nat) (rel : List (List Int)) (s' : TS) : V → (Nat → Option MObj) → Nat → Prop := fun v H' n' =>
 v = .tup [] ∧ next ≤ n' ∧ WAt H' n' wi ni li oi lo n rel s' ∧ ∀ j, j < lo → j ≠ wi → j ≠ ni → j ≠ li → j ≠ oi → H' j = H j
theorem GrpsAt.mono {H H' : Nat → Option MObj} {lo next n' : Nat} {sv gv sv' gv' : V} {gr : List (List Nat)} {gs : List V} (h : GrpsAt H lo next sv gv gr gs) (hn : next ≤ n')
 (hh : ∀ j, lo ≤ j → j < next → mid sv ≠ some j → mid gv ≠ some j → H' j = H j ∧ mid sv' ≠ some j ∧ mid gv' ≠ some j) : GrpsAt H' lo n' sv' gv' gr gs :=
 ⟨h.ln, fun k l hl => by
  obtain ⟨id, h1, h2, h3, h4, h5, h6⟩ := h.pl k l hl
  obtain ⟨a, b, c⟩ := hh id h3 h4 h5 h6
  exact ⟨id, h1, a.trans h2, h3, by omega, b, c⟩⟩
theorem GrpsAt.snoc {H : Nat → Option MObj} {lo next : Nat} {sv gv : V} {gr : List (List Nat)} {gs : List V} (h : GrpsAt H lo next sv gv gr gs) {l : List Nat} {id : Nat} (h1 : H id = some (.own 1 (ivs (natI l)) false)) (h2 : lo ≤ id) (h3 : id < next) (h4 : mid sv ≠ some id) (h5 : mid gv ≠ some id) :
 GrpsAt H lo next sv gv (gr ++ [l]) (gs ++ [.msl id 1 0 l.length]) := ⟨by simp [h.ln], fun k l' hk => by
 rcases Nat.lt_or_ge k gr.length with e | e
 · rw [List.getElem?_append_left e] at hk
   obtain ⟨i, a, b⟩ := h.pl k l' hk
   exact ⟨i, by rw [List.getElem?_append_left (by rw [h.ln]; exact e)]; exact a, b⟩
 · rw [List.getElem?_append_right e] at hk
   have : k - gr.length = 0 := by have := (List.getElem?_eq_some_iff.1 hk).1; simp at this; omega
   rw [this] at hk
   cases hk
   exact ⟨id, by rw [List.getElem?_append_right (by rw [h.ln]; exact e), h.ln, this]; rfl, h1, h2, h3, h4, h5⟩⟩
theorem srtC {H : Nat → Option MObj} {next id len : Nat} {zs : List Int} (e : zs.length = len) (hH : H id = some (.own 1 (ivs zs) false)) (hn : 0 < len) (hz : len ≤ 1000000000) :
 ECalls Tryd.prog 48 [.msl id 1 0 len] H next fun v H' n' => v = .tup [] ∧ n' = next ∧ H' id = some (.own 1 (ivs (srtZ zs)) false) ∧ ∀ j, j ≠ id → H' j = H j := by
 subst e; exact slices_Sort hH hn (by omega)
theorem cloC {H : Nat → Option MObj} {next id off len : Nat} {zs zs' : List Int} {ro : Bool} (hH : H id = some (.own 1 (ivs zs) ro)) (hn : 0 < len) (hle : off + len ≤ zs.length) (hz : len ≤ 1000000000) (e : (zs.drop off).take len = zs') :
 ECalls Tryd.prog 47 [.msl id 1 off len] H next fun v H' n' => v = .msl next 1 0 len ∧ n' = next + 1 ∧ H' next = some (.own 1 (ivs zs') false) ∧ ∀ j, j ≠ next → H' j = H j := by
 subst e; exact slices_Clone hH hn hle (by omega)
theorem grp {H : Nat → Option MObj} {next wi ni li oi lo n i : Nat} {rel : List (List Int)} {s0 : TS} {pre seg : List Nat} (hD : WD wi ni li oi lo) (hW : WAt H next wi ni li oi lo n rel s0) (hst : s0.stack = pre ++ i :: seg) (hnd : s0.stack.Nodup) (hlt : ∀ x ∈ s0.stack, x < n) (hn : s0.stack.length ≤ 1000000) (hg : s0.groups.length ≤ 1000000) : ECalls Tryd.prog 35 [.ptr wi 0 0, vi (i : Int)] H next (WQ H next wi ni li oi lo n rel (grpT i s0)) := by
 refine ecalls_intro Tryd.func35 e35_nm e35_ok (by show 2 ≤ 60; decide) ?_
 show ewp _ e35n23 _ _
 obtain ⟨sv, gv, gs, hw, hnu, hlw, hof, hS, hG, hA, hsg, hnx⟩ := hW
 obtain ⟨⟨d1, d2, d3, d4, d5, d6⟩, b1, b2, b3, b4⟩ := hD
 rcases hS with ⟨h0, _⟩ | ⟨si, full, rfl, hf, hft, f1, f2⟩
 · rw [h0] at hst; cases pre <;> simp at hst
 have hsl : s0.stack.length = pre.length + (seg.length + 1) := by rw [hst]; simp
 have hfl : s0.stack.length ≤ full.length := by
  have := congrArg List.length hft
  rw [List.length_take, natI_len] at this; omega
 have hip : i ∉ pre := by
  rw [hst] at hnd
  intro h
  exact (List.nodup_append.1 hnd).2.2 i h i (by simp) rfl
 obtain ⟨eT, eD⟩ := split_stack (b := seg) hip
 have hIdx : Pure Tryd.prog 46 [ints (natI s0.stack), vi (i : Int)] (vi (pre.length : Int)) := sl_Index (by rw [natI_len]; omega) (natI_get (by rw [hst]; simp)) (by
  rw [hst]
  simp only [natI, List.map_append, List.map_cons]
  rw [List.take_append_of_le_length (by simp), List.take_of_length_le (by simp)]
  intro h
  obtain ⟨x, hx, e⟩ := List.mem_map.1 h
  have : x = i := by omega
  exact hip (by rw [← this]; exact hx))
 have hEr : Er true H (.msl si 1 0 s0.stack.length) (ints (natI s0.stack)) := er_msl_eq hf (by simp; omega) (by rw [List.drop_zero, ← List.map_take, hft])
 have hse : s0.stack.length - pre.length = seg.length + 1 := by omega
 have hcut : (full.drop pre.length).take (seg.length + 1) = natI (i :: seg) := by
  have e1 : full.take s0.stack.length = natI pre ++ natI (i :: seg) := by rw [hft, hst]; simp [natI]
  have e2 : (full.drop pre.length).take (seg.length + 1) = (full.take s0.stack.length).drop pre.length := by rw [hsl, List.drop_take]; congr 1; omega
  rw [e2, e1, List.drop_append_of_le_length (by rw [natI_len]; omega), List.drop_of_length_le (by rw [natI_len]; omega), List.nil_append]
 repeat' with_reducible first
  | refine s_ ?_
  | refine s_ ?_
  | simp -implicitDefEqProofs only [wS, wT, wU, wV, wW, wX, wY, wC, wF, wG, wL, wM, wN, seval, Int.cast_ofNat_Int, Int.reduceLT, Int.reduceLE, Int.reduceEq, Int.reduceToNat, decide_true, decide_false, Bool.false_eq_true, hw, hse]
  | (refine condQ_j (fun h h_ => ?_) (fun h h_ => ?_) <;> (try simp only [wD, reduceCtorEq] at h_) <;> (try (exfalso; first | omega | exact absurd (Eq.trans (Eq.symm h_) (by assumption) : false = true) (by decide) | exact absurd (Eq.trans (Eq.symm h_) (by assumption) : true = false) (by decide) | (refine absurd ?_ h_; focus assumption) | (refine absurd h_ ?_; focus assumption))) <;> (try simp only [h]))
  | (apply callQB2 (hp := hIdx); (focus (first | exact hEr | (((try simp only [wM]); (repeat first | rw [if_pos trivial] | rw [if_pos rfl] | rw [if_neg (by omega)])); exact hEr))); (focus exact er_cl); (exact wu_); (focus exact Flat.int _ _))
  | (refine slM_loQ (k := pre.length) _ rfl (by omega) ?_)
  | (refine callQWc rfl rfl rfl ((cloC (by first | exact hf | (((try simp only [wM]); (repeat first | rw [if_pos trivial] | rw [if_pos rfl] | rw [if_neg (by omega)])); exact hf)) (by omega) (by omega) (by omega) hcut).mono ?_); rintro v1 H1 n1 ⟨rfl, rfl, q3, q4⟩; (try simp only [wN] at q3); (try simp only [wN] at q4))
  | (apply ia_slQ; (focus omega); (exact wd_))
  | (apply ia_mslQ; (focus omega); (exact wf_))
  | (apply ia_aslQ; (focus omega); (exact wd_))
  | (apply appQ_C; (focus (first | exact SrcN.sl | exact SrcN.asl | exact SrcN.str)); (exact wf_); (focus (unfold maxLen; first | omega | (simp only [wZ] <;> omega))))
  | (refine app_asl ?_; simp -implicitDefEqProofs only [wM, wN, seval, hw, hse]; apply appT_i; (focus (first | exact SrcN.sl | exact SrcN.asl | exact SrcN.str)); (exact wf_); (focus (unfold maxLen; first | omega | (simp only [wZ] <;> omega))))
  | (apply slm_hiQ; (focus omega); (exact wf_))
  | (apply slm_loQ; (focus omega); (exact wf_))
  | (apply slm_lohiQ; (focus omega); (focus omega); (exact wf_))
  | (apply slm_lo_aslQ; (focus omega); (exact wf_))
  | (apply fil_part; (exact wu_); (exact wu_); (exact wu_); (focus ((try simp -implicitDefEqProofs only [wY]); rfl)))
  | (apply strAdd; (focus (first | omega | (simp only [wZ] <;> omega))))
  | (apply ldQ_whole)
  | (apply ldQ_sub; (exact wu_); (exact wu_); (focus ((try simp -implicitDefEqProofs only [wE, Nat.reduceAdd]); rfl)))
  | (apply ldQ_obj; (exact wd_); (exact wu_))
  | (apply ldQ_cell; (exact wu_))
  | (apply ldQ_one; (exact wu_))
  | (apply ld_ipQ; (exact wu_))
  | (apply stQ_whole; (exact wu_); (exact wu_))
  | (apply stQ_obj; (exact wf_); (exact wu_); (exact wu_); (focus (intro _; with_unfolding_all rfl)))
  | (apply stQ_one; (exact wu_); (exact wu_); (exact wu_))
  | (apply stQ_cell; (exact wu_); (exact wu_); (exact wu_); (exact wf_))
  | simp -implicitDefEqProofs (disch := omega) only [w64, if_neg]
 have hw1 : H1 wi = _ := (q4 wi (by omega)).trans (by first | exact hw | (((try simp only [wM]); (repeat first | rw [if_pos trivial] | rw [if_pos rfl] | rw [if_neg (by omega)])); exact hw))
 repeat' with_reducible first
  | refine s_ ?_
  | refine s_ ?_
  | simp -implicitDefEqProofs only [wS, wT, wU, wV, wW, wX, wY, wC, wF, wG, wL, wM, wN, seval, Int.cast_ofNat_Int, Int.reduceLT, Int.reduceLE, Int.reduceEq, Int.reduceToNat, decide_true, decide_false, Bool.false_eq_true, hw1]
  | (refine condQ_j (fun h h_ => ?_) (fun h h_ => ?_) <;> (try simp only [wD, reduceCtorEq] at h_) <;> (try (exfalso; first | omega | exact absurd (Eq.trans (Eq.symm h_) (by assumption) : false = true) (by decide) | exact absurd (Eq.trans (Eq.symm h_) (by assumption) : true = false) (by decide) | (refine absurd ?_ h_; focus assumption) | (refine absurd h_ ?_; focus assumption))) <;> (try simp only [h]))
  | (refine slM_hiQ (k := pre.length) _ rfl (by omega) ?_)
  | (apply ia_slQ; (focus omega); (exact wd_))
  | (apply ia_mslQ; (focus omega); (exact wf_))
  | (apply ia_aslQ; (focus omega); (exact wd_))
  | (apply appQ_C; (focus (first | exact SrcN.sl | exact SrcN.asl | exact SrcN.str)); (exact wf_); (focus (unfold maxLen; first | omega | (simp only [wZ] <;> omega))))
  | (refine app_asl ?_; simp -implicitDefEqProofs only [wM, wN, seval, hw1]; apply appT_i; (focus (first | exact SrcN.sl | exact SrcN.asl | exact SrcN.str)); (exact wf_); (focus (unfold maxLen; first | omega | (simp only [wZ] <;> omega))))
  | (apply slm_hiQ; (focus omega); (exact wf_))
  | (apply slm_loQ; (focus omega); (exact wf_))
  | (apply slm_lohiQ; (focus omega); (focus omega); (exact wf_))
  | (apply slm_lo_aslQ; (focus omega); (exact wf_))
  | (apply fil_part; (exact wu_); (exact wu_); (exact wu_); (focus ((try simp -implicitDefEqProofs only [wY]); rfl)))
  | (apply strAdd; (focus (first | omega | (simp only [wZ] <;> omega))))
  | (apply ldQ_whole)
  | (apply ldQ_sub; (exact wu_); (exact wu_); (focus ((try simp -implicitDefEqProofs only [wE, Nat.reduceAdd]); rfl)))
  | (apply ldQ_obj; (exact wd_); (exact wu_))
  | (apply ldQ_cell; (exact wu_))
  | (apply ldQ_one; (exact wu_))
  | (apply ld_ipQ; (exact wu_))
  | (apply stQ_whole; (exact wu_); (exact wu_))
  | (apply stQ_obj; (exact wf_); (exact wu_); (exact wu_); (focus (intro _; with_unfolding_all rfl)))
  | (apply stQ_one; (exact wu_); (exact wu_); (exact wu_))
  | (apply stQ_cell; (exact wu_); (exact wu_); (exact wu_); (exact wf_))
  | simp -implicitDefEqProofs (disch := omega) only [w64, if_neg]
 have hgm : ∀ j, j < lo → mid gv ≠ some j := fun j h => GrM.mid hG j (Or.inl h)
 have q4' : ∀ j, j < next + 15 → H1 j = H j := fun j h => (q4 j (by omega)).trans (by first | rfl | ((try simp only [wM]); (repeat first | rw [if_pos trivial] | rw [if_pos rfl] | rw [if_neg (by omega)])))
 obtain ⟨sg, hsg'⟩ : ∃ sg, sg = i :: seg := ⟨_, rfl⟩
 have hsgl : sg.length = seg.length + 1 := by rw [hsg']; rfl
 rw [← hsg'] at q3
 refine ewp_loopN ?nx1 (fun (k : Nat) s => s.f 0 = ?v1_0 ∧ s.f 5 = ?v1_5 ∧ s.f 30 = ?v1_30 ∧ s.f 31 = ?v1_31 ∧ s.f 32 = vi k ∧ (k ≤ sg.length) ∧ ((s.H wi = some (.own 7 [wkV rel ni li oi n (.msl si 1 0 pre.length) gv s0.next] false))) ∧ ((s.H oi = some (.own 1 (ivs (rowI n (markT s0.of (s0.groups.length : Int) (sg.take k)))) false))) ∧ ((∀ j, j < next + 16 → j ≠ wi → j ≠ oi → s.H j = H1 j))) (fun k => sg.length - k) (0) wj_ (by refine ⟨?_, ?_, ?_, ?_, ?_, (by first | omega | (simp; done) | assumption), (by ((simp only [wM]; (repeat first | rw [if_pos trivial] | rw [if_pos rfl] | rw [if_neg (by omega)])))), (by ((simp only [wM]; (repeat first | rw [if_pos trivial] | rw [if_pos rfl] | rw [if_neg (by omega)])); exact (q4' oi (by omega)).trans hof)), (by (intro j h1 h2 h3; (simp only [wM]; (repeat first | rw [if_pos trivial] | rw [if_pos rfl] | rw [if_neg (by omega)]))))⟩ <;> first | (simp -implicitDefEqProofs only [wL, wM, wN, wX, seval, Option.some.injEq] <;> exact wt_) | rfl | exact ⟨_, rfl⟩) ?_
 intro k s hnx ⟨g0, g5, g30, g31, g32, k1_0, k1_1, k1_2, k1_3⟩
 have oN : s.H (next + 7 + 8) = some (.own 1 (ivs (natI sg)) false) := (k1_3 _ (by omega) (by omega) (by omega)).trans q3
 by_cases hk : k < sg.length
 · obtain ⟨x, hx⟩ : ∃ x, sg[k]? = some x := ⟨_, List.getElem?_eq_getElem hk⟩
   have hxn : x < n := hlt x (by rw [hst, ← hsg']; exact List.mem_append_right _ (List.mem_of_getElem? hx))
   have htk : sg.take (k + 1) = sg.take k ++ [x] := by rw [List.take_add_one, hx]; rfl
   repeat' with_reducible first
    | refine s_ ?_
    | refine s_ ?_
    | simp -implicitDefEqProofs only [wS, wT, wU, wV, wW, wX, wY, wC, wF, wG, wL, wM, wN, seval, Int.cast_ofNat_Int, Int.reduceLT, Int.reduceLE, Int.reduceEq, Int.reduceToNat, decide_true, decide_false, Bool.false_eq_true, g0, g5, g30, g31, g32, k1_1, hG.len]
    | (refine condQ_j (fun h h_ => ?_) (fun h h_ => ?_) <;> (try simp only [wD, reduceCtorEq] at h_) <;> (try (exfalso; first | omega | exact absurd (Eq.trans (Eq.symm h_) (by assumption) : false = true) (by decide) | exact absurd (Eq.trans (Eq.symm h_) (by assumption) : true = false) (by decide) | (refine absurd ?_ h_; focus assumption) | (refine absurd h_ ?_; focus assumption))) <;> (try simp only [h]))
    | (apply ia_mslQ; (focus omega); (focus omega))
    | (refine ldI k oN (by omega) (natI_get hx) ?_)
    | (refine stI x k1_2 (by omega) hxn ?_)
    | (apply ia_slQ; (focus omega); (exact wd_))
    | (apply ia_mslQ; (focus omega); (exact wf_))
    | (apply ia_aslQ; (focus omega); (exact wd_))
    | (apply appQ_C; (focus (first | exact SrcN.sl | exact SrcN.asl | exact SrcN.str)); (exact wf_); (focus (unfold maxLen; first | omega | (simp only [wZ] <;> omega))))
    | (refine app_asl ?_; simp -implicitDefEqProofs only [wM, wN, seval, g0, g5, g30, g31, g32, k1_1, hG.len]; apply appT_i; (focus (first | exact SrcN.sl | exact SrcN.asl | exact SrcN.str)); (exact wf_); (focus (unfold maxLen; first | omega | (simp only [wZ] <;> omega))))
    | (apply slm_hiQ; (focus omega); (exact wf_))
    | (apply slm_loQ; (focus omega); (exact wf_))
    | (apply slm_lohiQ; (focus omega); (focus omega); (exact wf_))
    | (apply slm_lo_aslQ; (focus omega); (exact wf_))
    | (apply fil_part; (exact wu_); (exact wu_); (exact wu_); (focus ((try simp -implicitDefEqProofs only [wY]); rfl)))
    | (apply strAdd; (focus (first | omega | (simp only [wZ] <;> omega))))
    | (apply ldQ_whole)
    | (apply ldQ_sub; (exact wu_); (exact wu_); (focus ((try simp -implicitDefEqProofs only [wE, Nat.reduceAdd]); rfl)))
    | (apply ldQ_obj; (exact wd_); (exact wu_))
    | (apply ldQ_cell; (exact wu_))
    | (apply ldQ_one; (exact wu_))
    | (apply ld_ipQ; (exact wu_))
    | (apply stQ_whole; (exact wu_); (exact wu_))
    | (apply stQ_obj; (exact wf_); (exact wu_); (exact wu_); (focus (intro _; with_unfolding_all rfl)))
    | (apply stQ_one; (exact wu_); (exact wu_); (exact wu_))
    | (apply stQ_cell; (exact wu_); (exact wu_); (exact wu_); (exact wf_))
    | simp -implicitDefEqProofs (disch := omega) only [w64, if_neg]
   refine ⟨by ((try simp only [wN]) <;> omega), k + 1, by omega, ?_⟩; (repeat refine ⟨True.intro, ?_⟩)
   exact ⟨rfl, by omega, by ((try simp only [wM]); (repeat first | rw [if_pos trivial] | rw [if_pos rfl] | rw [if_neg (by omega)])); (try exact k1_1), by ((try simp only [wM]); (repeat first | rw [if_pos trivial] | rw [if_pos rfl] | rw [if_neg (by omega)])); (try rw [htk, markT_snoc, hA.ln]), fun j h1 h2 h3 => by ((try simp only [wM]); (repeat first | rw [if_pos trivial] | rw [if_pos rfl] | rw [if_neg (by omega)])); (try exact k1_3 j h1 h2 h3)⟩
 · rw [List.take_of_length_le (by omega)] at k1_2
   repeat' with_reducible first
    | refine s_ ?_
    | refine s_ ?_
    | simp -implicitDefEqProofs only [wS, wT, wU, wV, wW, wX, wY, wC, wF, wG, wL, wM, wN, seval, Int.cast_ofNat_Int, Int.reduceLT, Int.reduceLE, Int.reduceEq, Int.reduceToNat, decide_true, decide_false, Bool.false_eq_true, g0, g5, g30, g31, g32, k1_1]
    | (refine condQ_j (fun h h_ => ?_) (fun h h_ => ?_) <;> (try simp only [wD, reduceCtorEq] at h_) <;> (try (exfalso; first | omega | exact absurd (Eq.trans (Eq.symm h_) (by assumption) : false = true) (by decide) | exact absurd (Eq.trans (Eq.symm h_) (by assumption) : true = false) (by decide) | (refine absurd ?_ h_; focus assumption) | (refine absurd h_ ?_; focus assumption))) <;> (try simp only [h]))
    | (refine callQWc rfl rfl rfl ((srtC (zs := natI sg) (by rw [natI_len]; exact hsgl) (by first | exact oN | (((try simp only [wM]); (repeat first | rw [if_pos trivial] | rw [if_pos rfl] | rw [if_neg (by omega)])); exact oN)) (by omega) (by omega)).mono ?_); rintro v2 H2 n2 ⟨rfl, rfl, u1, u2⟩; (try simp only [wN] at u1); (try simp only [wN] at u2))
    | (apply ia_slQ; (focus omega); (exact wd_))
    | (apply ia_mslQ; (focus omega); (exact wf_))
    | (apply ia_aslQ; (focus omega); (exact wd_))
    | (apply appQ_C; (focus (first | exact SrcN.sl | exact SrcN.asl | exact SrcN.str)); (exact wf_); (focus (unfold maxLen; first | omega | (simp only [wZ] <;> omega))))
    | (refine app_asl ?_; simp -implicitDefEqProofs only [wM, wN, seval, g0, g5, g30, g31, g32, k1_1]; apply appT_i; (focus (first | exact SrcN.sl | exact SrcN.asl | exact SrcN.str)); (exact wf_); (focus (unfold maxLen; first | omega | (simp only [wZ] <;> omega))))
    | (apply slm_hiQ; (focus omega); (exact wf_))
    | (apply slm_loQ; (focus omega); (exact wf_))
    | (apply slm_lohiQ; (focus omega); (focus omega); (exact wf_))
    | (apply slm_lo_aslQ; (focus omega); (exact wf_))
    | (apply fil_part; (exact wu_); (exact wu_); (exact wu_); (focus ((try simp -implicitDefEqProofs only [wY]); rfl)))
    | (apply strAdd; (focus (first | omega | (simp only [wZ] <;> omega))))
    | (apply ldQ_whole)
    | (apply ldQ_sub; (exact wu_); (exact wu_); (focus ((try simp -implicitDefEqProofs only [wE, Nat.reduceAdd]); rfl)))
    | (apply ldQ_obj; (exact wd_); (exact wu_))
    | (apply ldQ_cell; (exact wu_))
    | (apply ldQ_one; (exact wu_))
    | (apply ld_ipQ; (exact wu_))
    | (apply stQ_whole; (exact wu_); (exact wu_))
    | (apply stQ_obj; (exact wf_); (exact wu_); (exact wu_); (focus (intro _; with_unfolding_all rfl)))
    | (apply stQ_one; (exact wu_); (exact wu_); (exact wu_))
    | (apply stQ_cell; (exact wu_); (exact wu_); (exact wu_); (exact wf_))
    | simp -implicitDefEqProofs (disch := omega) only [w64, if_neg]
   have hw2 : H2 wi = _ := (u2 wi (by omega)).trans (by first | exact k1_1 | (((try simp only [wM]); (repeat first | rw [if_pos trivial] | rw [if_pos rfl] | rw [if_neg (by omega)])); exact k1_1))
   repeat' with_reducible first
    | refine s_ ?_
    | refine s_ ?_
    | simp -implicitDefEqProofs only [wS, wT, wU, wV, wW, wX, wY, wC, wF, wG, wL, wM, wN, seval, Int.cast_ofNat_Int, Int.reduceLT, Int.reduceLE, Int.reduceEq, Int.reduceToNat, decide_true, decide_false, Bool.false_eq_true, g0, g5, g30, g31, g32, hw2]
    | (refine condQ_j (fun h h_ => ?_) (fun h h_ => ?_) <;> (try simp only [wD, reduceCtorEq] at h_) <;> (try (exfalso; first | omega | exact absurd (Eq.trans (Eq.symm h_) (by assumption) : false = true) (by decide) | exact absurd (Eq.trans (Eq.symm h_) (by assumption) : true = false) (by decide) | (refine absurd ?_ h_; focus assumption) | (refine absurd h_ ?_; focus assumption))) <;> (try simp only [h]))
    | (apply ia_slQ; (focus omega); (exact wd_))
    | (apply ia_mslQ; (focus omega); (exact wf_))
    | (apply ia_aslQ; (focus omega); (exact wd_))
    | (apply appQ_C; (focus (first | exact SrcN.sl | exact SrcN.asl | exact SrcN.str)); (exact wf_); (focus (unfold maxLen; first | omega | (simp only [wZ] <;> omega))))
    | (refine app_asl ?_; simp -implicitDefEqProofs only [wM, wN, seval, g0, g5, g30, g31, g32, hw2]; apply appT_i; (focus (first | exact SrcN.sl | exact SrcN.asl | exact SrcN.str)); (exact wf_); (focus (unfold maxLen; first | omega | (simp only [wZ] <;> omega))))
    | (apply slm_hiQ; (focus omega); (exact wf_))
    | (apply slm_loQ; (focus omega); (exact wf_))
    | (apply slm_lohiQ; (focus omega); (focus omega); (exact wf_))
    | (apply slm_lo_aslQ; (focus omega); (exact wf_))
    | (apply fil_part; (exact wu_); (exact wu_); (exact wu_); (focus ((try simp -implicitDefEqProofs only [wY]); rfl)))
    | (apply strAdd; (focus (first | omega | (simp only [wZ] <;> omega))))
    | (apply ldQ_whole)
    | (apply ldQ_sub; (exact wu_); (exact wu_); (focus ((try simp -implicitDefEqProofs only [wE, Nat.reduceAdd]); rfl)))
    | (apply ldQ_obj; (exact wd_); (exact wu_))
    | (apply ldQ_cell; (exact wu_))
    | (apply ldQ_one; (exact wu_))
    | (apply ld_ipQ; (exact wu_))
    | (apply stQ_whole; (exact wu_); (exact wu_))
    | (apply stQ_obj; (exact wf_); (exact wu_); (exact wu_); (focus (intro _; with_unfolding_all rfl)))
    | (apply stQ_one; (exact wu_); (exact wu_); (exact wu_))
    | (apply stQ_cell; (exact wu_); (exact wu_); (exact wu_); (exact wf_))
    | simp -implicitDefEqProofs (disch := omega) only [w64, if_neg]
   have u2' : ∀ j, j < next + 15 → j ≠ wi → j ≠ oi → H2 j = H j := fun j h1 h2 h3 => (u2 j (by omega)).trans ((by first | rfl | ((try simp only [wM]); (repeat first | rw [if_pos trivial] | rw [if_pos rfl] | rw [if_neg (by omega)])) : _ = s.H j).trans ((k1_3 j (by omega) h2 h3).trans (q4' j h1)))
   have uo : H2 oi = _ := (u2 oi (by omega)).trans ((by first | rfl | ((try simp only [wM]); (repeat first | rw [if_pos trivial] | rw [if_pos rfl] | rw [if_neg (by omega)])) : _ = s.H oi).trans k1_2)
   have hgl := hA.ln
   refine appQ_K rfl (GrM.mono hG (Nat.le_refl _) (fun j _ h1 h2 => u2' j (by omega) (by omega) (by omega))) rfl SrcN.sl (by simp only [List.length_cons, List.length_nil]; omega) (by unfold maxLen; simp only [List.length_cons, List.length_nil]; omega) (fun H3 w1 w2 => ?_)
   have w2' : ∀ j, j < lo → H3 j = H2 j := fun j h => (w2 j (by ((try simp only [wN]) <;> omega)) (hgm j h)).trans (by first | rfl | ((try simp only [wM]); (repeat first | rw [if_pos trivial] | rw [if_pos rfl] | rw [if_neg (by omega)])))
   have hw3 : H3 wi = _ := (w2' wi b1).trans hw2
   repeat' with_reducible first
    | refine s_ ?_
    | refine s_ ?_
    | simp -implicitDefEqProofs only [wS, wT, wU, wV, wW, wX, wY, wC, wF, wG, wL, wM, wN, seval, Int.cast_ofNat_Int, Int.reduceLT, Int.reduceLE, Int.reduceEq, Int.reduceToNat, decide_true, decide_false, Bool.false_eq_true, g0, g5, g30, g31, g32, hw3]
    | (refine condQ_j (fun h h_ => ?_) (fun h h_ => ?_) <;> (try simp only [wD, reduceCtorEq] at h_) <;> (try (exfalso; first | omega | exact absurd (Eq.trans (Eq.symm h_) (by assumption) : false = true) (by decide) | exact absurd (Eq.trans (Eq.symm h_) (by assumption) : true = false) (by decide) | (refine absurd ?_ h_; focus assumption) | (refine absurd h_ ?_; focus assumption))) <;> (try simp only [h]))
    | (apply ia_slQ; (focus omega); (exact wd_))
    | (apply ia_mslQ; (focus omega); (exact wf_))
    | (apply ia_aslQ; (focus omega); (exact wd_))
    | (apply appQ_C; (focus (first | exact SrcN.sl | exact SrcN.asl | exact SrcN.str)); (exact wf_); (focus (unfold maxLen; first | omega | (simp only [wZ] <;> omega))))
    | (refine app_asl ?_; simp -implicitDefEqProofs only [wM, wN, seval, g0, g5, g30, g31, g32, hw3]; apply appT_i; (focus (first | exact SrcN.sl | exact SrcN.asl | exact SrcN.str)); (exact wf_); (focus (unfold maxLen; first | omega | (simp only [wZ] <;> omega))))
    | (apply slm_hiQ; (focus omega); (exact wf_))
    | (apply slm_loQ; (focus omega); (exact wf_))
    | (apply slm_lohiQ; (focus omega); (focus omega); (exact wf_))
    | (apply slm_lo_aslQ; (focus omega); (exact wf_))
    | (apply fil_part; (exact wu_); (exact wu_); (exact wu_); (focus ((try simp -implicitDefEqProofs only [wY]); rfl)))
    | (apply strAdd; (focus (first | omega | (simp only [wZ] <;> omega))))
    | (apply ldQ_whole)
    | (apply ldQ_sub; (exact wu_); (exact wu_); (focus ((try simp -implicitDefEqProofs only [wE, Nat.reduceAdd]); rfl)))
    | (apply ldQ_obj; (exact wd_); (exact wu_))
    | (apply ldQ_cell; (exact wu_))
    | (apply ldQ_one; (exact wu_))
    | (apply ld_ipQ; (exact wu_))
    | (apply stQ_whole; (exact wu_); (exact wu_))
    | (apply stQ_obj; (exact wf_); (exact wu_); (exact wu_); (focus (intro _; with_unfolding_all rfl)))
    | (apply stQ_one; (exact wu_); (exact wu_); (exact wu_))
    | (apply stQ_cell; (exact wu_); (exact wu_); (exact wu_); (exact wf_))
    | simp -implicitDefEqProofs (disch := omega) only [w64, if_neg]
   have w3 : ∀ j, j < next → mid gv ≠ some j → j ≠ wi → j ≠ oi → H3 j = H j := fun j h1 h2 h3 h4 => ((w2 j (by omega) h2).trans (by first | rfl | ((try simp only [wM]); (repeat first | rw [if_pos trivial] | rw [if_pos rfl] | rw [if_neg (by omega)])) : _ = H2 j)).trans (u2' j (by omega) h3 h4)
   have hsn : sg.Nodup := by rw [hst, ← hsg'] at hnd; exact (List.nodup_append.1 hnd).2.1
   rw [srt_sortN hsn] at u1
   have hsl2 : (sortN sg).length = seg.length + 1 := by
    have := congrArg List.length (srt_sortN hsn)
    rw [natI_len, List.length_mergeSort, natI_len] at this; omega
   have hN : H3 (next + 7 + 8) = some (.own 1 (ivs (natI (sortN sg))) false) := (w2 _ (by omega) (GrM.mid hG _ (Or.inr (by omega)))).trans ((by first | rfl | ((try simp only [wM]); (repeat first | rw [if_pos trivial] | rw [if_pos rfl] | rw [if_neg (by omega)])) : _ = H2 _).trans u1)
   have hoi : H3 oi = _ := (w2' oi b4).trans uo
   have est : (grpT i s0).stack = pre := by show s0.stack.takeWhile _ = _; rw [hst, eT]
   have eof : (grpT i s0).of = markT s0.of (s0.groups.length : Int) sg := by show markT s0.of _ (s0.stack.dropWhile _) = _; rw [hst, eD, hsg']
   have egr : (grpT i s0).groups = s0.groups ++ [sortN sg] := by show s0.groups ++ [sortN (s0.stack.dropWhile _)] = _; rw [hst, eD, hsg']
   refine heap0 rfl (Or.inl rfl) ⟨rfl, by ((try simp only [wN]) <;> omega), ⟨.msl si 1 0 pre.length, .msl (s.next + 1 + 2 + 7) 1 0 (gs ++ [V.msl (next + 7 + 8) 1 0 (seg.length + 1)]).length, gs ++ [.msl (next + 7 + 8) 1 0 (seg.length + 1)], ⟨?_, ?_, ?_, ?_, ?_, ?_, ?_, ?_, by ((try simp only [wN]) <;> omega)⟩⟩, ?_⟩
   · ((try simp only [wM]); (repeat first | rw [if_pos trivial] | rw [if_pos rfl] | rw [if_neg (by omega)])); rfl
   · ((try simp only [wM]); (repeat first | rw [if_pos trivial] | rw [if_pos rfl] | rw [if_neg (by omega)])); rw [w3 ni (by omega) (hgm ni b2) (by omega) (by omega)]; exact hnu
   · ((try simp only [wM]); (repeat first | rw [if_pos trivial] | rw [if_pos rfl] | rw [if_neg (by omega)])); rw [w3 li (by omega) (hgm li b3) (by omega) (by omega)]; exact hlw
   · ((try simp only [wM]); (repeat first | rw [if_pos trivial] | rw [if_pos rfl] | rw [if_neg (by omega)])); rw [eof]; exact hoi
   · rw [est]
     refine Or.inr ⟨si, full, rfl, ?_, ?_, f1, by ((try simp only [wN]) <;> omega)⟩
     · ((try simp only [wM]); (repeat first | rw [if_pos trivial] | rw [if_pos rfl] | rw [if_neg (by omega)])); rw [w3 si f2 (hsg si rfl) (by omega) (by omega)]; exact hf
     · have := congrArg (List.take pre.length) hft
       rw [List.take_take, hst] at this
       rw [show pre.length = min pre.length (pre ++ i :: seg).length by rw [List.length_append]; omega, this]
       simp [natI]
   · refine Or.inr ⟨_, rfl, ?_, by omega, by ((try simp only [wN]) <;> omega)⟩
     ((try simp only [wM]); (repeat first | rw [if_pos trivial] | rw [if_pos rfl] | rw [if_neg (by omega)])); exact w1
   · rw [egr, ← hsl2]
     refine GrpsAt.snoc ?_ ?_ ?_ ?_ ?_ ?_
     · refine GrpsAt.mono hA ?_ (fun j h1 h2 h3 h4 => ⟨?_, h3, ?_⟩)
       · ((try simp only [wN]) <;> omega)
       · ((try simp only [wM]); (repeat first | rw [if_pos trivial] | rw [if_pos rfl] | rw [if_neg (by omega)])); exact w3 j h2 h4 (by omega) (by omega)
       · intro e; have e2 := Option.some.inj e; omega
     · ((try simp only [wM]); (repeat first | rw [if_pos trivial] | rw [if_pos rfl] | rw [if_neg (by omega)])); exact hN
     · omega
     · ((try simp only [wN]) <;> omega)
     · intro e; have e2 := Option.some.inj e; omega
     · intro e; have e2 := Option.some.inj e; omega
   · intro j h e; have e1 := Option.some.inj h; have e2 := Option.some.inj e; omega
   · intro j h1 h2 h3 h4 h5
     ((try simp only [wM]); (repeat first | rw [if_pos trivial] | rw [if_pos rfl] | rw [if_neg (by omega)])); exact w3 j (by omega) (hgm j h1) h2 h5
end Go.Proofs
