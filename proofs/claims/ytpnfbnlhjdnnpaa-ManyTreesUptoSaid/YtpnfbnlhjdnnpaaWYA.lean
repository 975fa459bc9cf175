/- Part of a proof that a law of the given program answers true. -/
import Derived.Test.YtpnfbnlhjdnnpaaWMA
import Derived.Test.YtpnfbnlhjdnnpaaWEC
import Derived.Test.YtpnfbnlhjdnnpaaWCA
set_option linter.unusedSimpArgs false
set_option linter.unusedVariables false
set_option maxHeartbeats 4000000
namespace Go.Proofs
open Go.E
inductive Nd where
 | mk (sym prod at_ : Int) (kids : List Nd)
def Fst (R : Int → Nat → Nat → Nd → Prop) : List Int → Nat → Nat → List Nd → Prop
 | [], i, b, ks => b = i ∧ ks = []
 | s :: l, i, b, ks => ∃ a k r, ks = k :: r ∧ R s i a k ∧ Fst R l a b r
def atW (w : List Int) : Nat → Int → Prop := fun i s => w[i]? = some s
def TreeD (g : Grammar) (L : Nat → Int → Prop) : Nat → Int → Nat → Nat → Nd → Prop
 | 0, _, _, _, _ => False
 | d + 1, s, i, j, t => (s < 1000 ∧ j = i + 1 ∧ L i s ∧ t = .mk s (-1) i []) ∨ ∃ (m : Nat) (p : GPr) (ks : List Nd), g.prods[m]? = some p ∧ s = 1000 + p.left ∧ t = .mk s m (-1) ks ∧ Fst (TreeD g L d) p.right i j ks
theorem Fst.mono {R R' : Int → Nat → Nat → Nd → Prop} (h : ∀ s i j t, R s i j t → R' s i j t) : ∀ {l : List Int} {i b : Nat} {ks : List Nd}, Fst R l i b ks → Fst R' l i b ks
 | [], _, _, _, hf => hf
 | _ :: _, _, _, _, ⟨a, k, r, e, h1, h2⟩ => ⟨a, k, r, e, h _ _ _ _ h1, Fst.mono h h2⟩
theorem TreeD.up {g : Grammar} {L : Nat → Int → Prop} : ∀ {d : Nat} {s : Int} {i j : Nat} {t : Nd}, TreeD g L d s i j t → TreeD g L (d + 1) s i j t
 | 0, _, _, _, _, h => h.elim
 | d + 1, s, i, j, t, h => by
   rcases h with h | ⟨m, p, ks, h1, h2, h3, h4⟩
   · exact Or.inl h
   · exact Or.inr ⟨m, p, ks, h1, h2, h3, h4.mono fun _ _ _ _ h => TreeD.up h⟩
theorem TreeD.mono {g : Grammar} {L : Nat → Int → Prop} {d d' : Nat} {s : Int} {i j : Nat} {t : Nd} (h : TreeD g L d s i j t) (hd : d ≤ d') : TreeD g L d' s i j t := by
 induction hd with
 | refl => exact h
 | step _ ih => exact ih.up
def SymOk1 (nn : Nat) (s : Int) : Prop := s < 1000 ∨ ∃ k : Nat, s = 1000 + (k : Int) ∧ k < nn
theorem step_ge {T : Tbl} {w : List Int} {v : Nat → Nat} {s : Int} {i a c nn : Nat} (hs : SymOk1 nn s) (hL : s < 1000 → a = i + 1 ∧ w[i]? = some s) (hN : ∀ k : Nat, s = 1000 + (k : Int) → k < nn → i ≤ a ∧ 1 ≤ T k i a) (hc : c ≤ v i) (h2 : c ≤ 2) : c ≤ stepN T w s v a := by
 unfold stepN
 rcases hs with hs | ⟨k, rfl, hk⟩
 · obtain ⟨rfl, hw⟩ := hL hs
   rw [if_pos hs, if_pos ⟨by omega, by simpa using hw⟩]; simpa using hc
 · obtain ⟨h1, h3⟩ := hN k rfl hk
   rw [if_neg (by omega), show (1000 + (k : Int) - 1000).toNat = k by omega]
   have := sumN_ge (f := fun a' => v a' * T k a' a) (n := a + 1) (a := i) (by omega)
   have h4 : v i * 1 ≤ v i * T k i a := Nat.mul_le_mul_left _ h3
   omega
structure RelOk (R : Int → Nat → Nat → Nd → Prop) (T : Tbl) (w : List Int) (nn : Nat) : Prop where
 leaf : ∀ s i j t, R s i j t → s < 1000 → j = i + 1 ∧ w[i]? = some s ∧ t = .mk s (-1) i []
 rng : ∀ s i j t, R s i j t → i ≤ w.length → i ≤ j ∧ j ≤ w.length
 one : ∀ (k : Nat) i j t, k < nn → R (1000 + (k : Int)) i j t → i ≤ w.length → 1 ≤ T k i j
 two : ∀ (k : Nat) i j t u, k < nn → R (1000 + (k : Int)) i j t → R (1000 + (k : Int)) i j u → i ≤ w.length → t ≠ u → 2 ≤ T k i j
theorem fst_rng {R : Int → Nat → Nat → Nd → Prop} {n : Nat} (h : ∀ s i j t, R s i j t → i ≤ n → i ≤ j ∧ j ≤ n) : ∀ {l : List Int} {i b : Nat} {ks : List Nd}, Fst R l i b ks → i ≤ n → i ≤ b ∧ b ≤ n
 | [], i, b, ks, ⟨e, _⟩, hi => by omega
 | s :: l, i, b, ks, ⟨a, k, r, _, h1, h2⟩, hi => by
   have := h _ _ _ _ h1 hi
   have := fst_rng h h2 this.2
   omega
theorem RelOk.ge {R : Int → Nat → Nat → Nd → Prop} {T : Tbl} {w : List Int} {nn : Nat} (h : RelOk R T w nn) {v : Nat → Nat} {s : Int} {i a c : Nat} {k : Nd} (hs : SymOk1 nn s) (hk : R s i a k) (hi : i ≤ w.length) (hc : c ≤ v i) (h2 : c ≤ 2) : c ≤ stepN T w s v a :=
 step_ge hs (fun e => by have := h.leaf _ _ _ _ hk e; exact ⟨this.1, this.2.1⟩) (fun q e hq => by subst e; exact ⟨(h.rng _ _ _ _ hk hi).1, h.one _ _ _ _ hq hk hi⟩) hc h2
theorem ways_ge {R : Int → Nat → Nat → Nd → Prop} {T : Tbl} {w : List Int} {nn : Nat} (h : RelOk R T w nn) {c : Nat} (h2 : c ≤ 2) : ∀ (l : List Int) (v : Nat → Nat) (i b : Nat) (ks : List Nd), (∀ s ∈ l, SymOk1 nn s) → c ≤ v i → Fst R l i b ks → i ≤ w.length → c ≤ l.foldl (fun v s => stepN T w s v) v b
 | [], v, i, b, ks, _, hc, ⟨e, _⟩, _ => by subst e; exact hc
 | s :: l, v, i, b, ks, hs, hc, ⟨a, k, r, _, hk, hr⟩, hi => by
   rw [List.foldl_cons]
   exact ways_ge h h2 l _ a b r (fun x hx => hs x (List.mem_cons_of_mem _ hx)) (h.ge (hs s (by simp)) hk hi hc h2) hr (h.rng _ _ _ _ hk hi).2
theorem ways_two {R : Int → Nat → Nat → Nd → Prop} {T : Tbl} {w : List Int} {nn : Nat} (h : RelOk R T w nn) : ∀ (l : List Int) (v : Nat → Nat) (i i' b : Nat) (ks ks' : List Nd), (∀ s ∈ l, SymOk1 nn s) → 1 ≤ v i → 1 ≤ v i' → i ≤ w.length → i' ≤ w.length → Fst R l i b ks → Fst R l i' b ks' → ((i ≠ i' ∨ ks ≠ ks') ∨ 2 ≤ v i) → 2 ≤ l.foldl (fun v s => stepN T w s v) v b
 | [], v, i, i', b, ks, ks', _, _, _, _, _, ⟨e, e2⟩, ⟨e', e2'⟩, hd => by
   subst e e2 e' e2'
   rcases hd with (hd | hd) | hd
   · exact absurd rfl hd
   · exact absurd rfl hd
   · exact hd
 | s :: l, v, i, i', b, ks, ks', hs, hv, hv', hi, hi', ⟨a, k, r, e, hk, hr⟩, ⟨a', k', r', e', hk', hr'⟩, hd => by
   subst e e'
   have hss := hs s (by simp)
   rw [List.foldl_cons]
   refine ways_two h l _ a a' b r r' (fun x hx => hs x (List.mem_cons_of_mem _ hx)) (h.ge hss hk hi hv (by omega)) (h.ge hss hk' hi' hv' (by omega)) (h.rng _ _ _ _ hk hi).2 (h.rng _ _ _ _ hk' hi').2 hr hr' ?_
   by_cases hq : a ≠ a' ∨ r ≠ r'
   · exact Or.inl hq
   · have ea : a = a' := Classical.byContradiction fun e => hq (Or.inl e)
     have er : r = r' := Classical.byContradiction fun e => hq (Or.inr e)
     subst ea er
     right
     by_cases h2 : 2 ≤ v i
     · exact h.ge hss hk hi h2 (by omega)
     · have hne : i ≠ i' ∨ k ≠ k' := by
        rcases hd with (hd | hd) | hd
        · exact Or.inl hd
        · exact Or.inr fun e => hd (by rw [e])
        · exact absurd hd h2
       rcases hss with h1 | ⟨q, rfl, hqn⟩
       · obtain ⟨e1, _, e2⟩ := h.leaf _ _ _ _ hk h1
         obtain ⟨e3, _, e4⟩ := h.leaf _ _ _ _ hk' h1
         have e5 : i = i' := by omega
         subst e5
         rcases hne with hne | hne
         · exact absurd rfl hne
         · exact absurd (e2.trans e4.symm) hne
       · unfold stepN
         rw [if_neg (by omega), show (1000 + (q : Int) - 1000).toNat = q by omega]
         have ra := h.rng _ _ _ _ hk hi
         have ra' := h.rng _ _ _ _ hk' hi'
         have o1 := h.one _ _ _ _ hqn hk hi
         have o2 := h.one _ _ _ _ hqn hk' hi'
         by_cases ei : i = i'
         · subst ei
           have hkk : k ≠ k' := by
            rcases hne with hne | hne
            · exact absurd rfl hne
            · exact hne
           have t2 := h.two _ _ _ _ _ hqn hk hk' hi hkk
           have := sumN_ge (f := fun a' => v a' * T q a' a) (n := a + 1) (a := i) (by omega)
           have h4 : 1 * 2 ≤ v i * T q i a := Nat.mul_le_mul hv t2
           omega
         · have h4 : 1 * 1 ≤ v i * T q i a := Nat.mul_le_mul hv o1
           have h5 : 1 * 1 ≤ v i' * T q i' a := Nat.mul_le_mul hv' o2
           rcases Nat.lt_or_gt_of_ne ei with hlt | hlt
           · have := sumN_ge2 (f := fun a' => v a' * T q a' a) (n := a + 1) hlt (by omega)
             omega
           · have := sumN_ge2 (f := fun a' => v a' * T q a' a) (n := a + 1) hlt (by omega)
             omega
theorem fold_ge {T : Tbl} {w : List Int} {i j k c : Nat} (h2 : c ≤ 2) : ∀ (l : List GPr) (S : Nat → Nat), c ≤ S k → c ≤ l.foldl (sumS T w i j) S k
 | [], S, h => h
 | p :: l, S, h => by
   rw [List.foldl_cons]
   refine fold_ge h2 l _ ?_
   unfold sumS upd
   split
   · rename_i e; rw [← e]; omega
   · exact h
theorem fold_add {T : Tbl} {w : List Int} {i j k a b : Nat} (h2 : a + b ≤ 2) : ∀ (l : List GPr) (S : Nat → Nat) (p : GPr), a ≤ S k → p ∈ l → p.left.toNat = k → b ≤ waysN T w p.right i j → a + b ≤ l.foldl (sumS T w i j) S k
 | q :: l, S, p, hS, h, hl, hw => by
   rw [List.foldl_cons]
   rcases List.mem_cons.1 h with rfl | h
   · refine fold_ge h2 l _ ?_
     unfold sumS upd
     rw [if_pos hl.symm, hl]; omega
   · refine fold_add h2 l _ p ?_ h hl hw
     unfold sumS upd
     split
     · rename_i e; rw [← e]; omega
     · exact hS
theorem fold_2 {T : Tbl} {w : List Int} {i j k : Nat} : ∀ (l : List GPr) (S : Nat → Nat) (m m' : Nat) (p p' : GPr), m < m' → l[m]? = some p → l[m']? = some p' → p.left.toNat = k → p'.left.toNat = k → 1 ≤ waysN T w p.right i j → 1 ≤ waysN T w p'.right i j → 2 ≤ l.foldl (sumS T w i j) S k
 | [], _, m, _, _, _, _, h, _, _, _, _, _ => by simp at h
 | q :: l, S, 0, m' + 1, p, p', _, h1, h2, hl, hl', hw, hw' => by
   rw [List.foldl_cons]
   have e : q = p := by simpa using h1
   subst e
   refine fold_add (a := 1) (b := 1) (by omega) l _ p' ?_ (List.mem_of_getElem? (by simpa using h2)) hl' hw'
   unfold sumS upd
   rw [if_pos hl.symm, hl]; omega
 | q :: l, S, m + 1, m' + 1, p, p', hm, h1, h2, hl, hl', hw, hw' => by
   rw [List.foldl_cons]
   exact fold_2 l _ m m' p p' (by omega) (by simpa using h1) (by simpa using h2) hl hl' hw hw'
theorem treeD_ok {g : Grammar} {nn : Nat} {w : List Int} {T : Tbl} (hg : Cnt g nn) (hT : IsCount g nn w T) : ∀ d, RelOk (TreeD g (atW w) d) T w nn
 | 0 => ⟨fun _ _ _ _ h => h.elim, fun _ _ _ _ h => h.elim, fun _ _ _ _ _ h => h.elim, fun _ _ _ _ _ _ h => h.elim⟩
 | d + 1 => by
   have ih := treeD_ok hg hT d
   have rng : ∀ s i j t, TreeD g (atW w) (d + 1) s i j t → i ≤ w.length → i ≤ j ∧ j ≤ w.length := fun s i j t h hi => by
    rcases h with ⟨_, rfl, h, _⟩ | ⟨m, p, ks, _, _, _, h⟩
    · have := (List.getElem?_eq_some_iff.1 h).1; omega
    · exact fst_rng ih.rng h hi
   have lf : ∀ (p : GPr) (m k : Nat), g.prods[m]? = some p → (1000 + (k : Int)) = 1000 + p.left → p.left.toNat = k := fun p m k h e => by
    obtain ⟨l, hl, _⟩ := hg.pl p (List.mem_of_getElem? h)
    omega
   have ws : ∀ (p : GPr) (m i j : Nat) (ks : List Nd), g.prods[m]? = some p → Fst (TreeD g (atW w) d) p.right i j ks → i ≤ w.length → 1 ≤ waysN T w p.right i j := fun p m i j ks h hf hi =>
    ways_ge ih (by omega) p.right _ i j ks (fun s hs => hg.pr p (List.mem_of_getElem? h) s hs) (by rw [if_pos rfl]; exact Nat.le_refl 1) hf hi
   refine ⟨fun s i j t h hs => ?_, rng, fun k i j t hk h hi => ?_, fun k i j t u hk h h' hi hne => ?_⟩
   · rcases h with ⟨_, h1, h2, h3⟩ | ⟨m, p, ks, h1, h2, _, _⟩
     · exact ⟨h1, h2, h3⟩
     · obtain ⟨l, hl, _⟩ := hg.pl p (List.mem_of_getElem? h1)
       omega
   · have hr := rng _ _ _ _ h hi
     rcases h with ⟨h1, _⟩ | ⟨m, p, ks, h1, h2, _, h3⟩
     · omega
     · rw [← hT.fix k i j hk hr.1 hr.2]
       have := fold_add (T := T) (w := w) (i := i) (j := j) (a := 0) (b := 1) (by omega) g.prods (fun _ => 0) p (Nat.zero_le _) (List.mem_of_getElem? h1) (lf p m k h1 h2) (ws p m i j ks h1 h3 hi)
       exact this
   · have hr := rng _ _ _ _ h hi
     rcases h with ⟨h1, _⟩ | ⟨m, p, ks, h1, h2, h3, h4⟩
     · omega
     · rcases h' with ⟨h1', _⟩ | ⟨m', p', ks', h1', h2', h3', h4'⟩
       · omega
       · rw [← hT.fix k i j hk hr.1 hr.2]
         rcases Nat.lt_trichotomy m m' with hm | hm | hm
         · exact fold_2 g.prods _ m m' p p' hm h1 h1' (lf p m k h1 h2) (lf p' m' k h1' h2') (ws p m i j ks h1 h4 hi) (ws p' m' i j ks' h1' h4' hi)
         · subst hm
           have e : p = p' := by rw [h1] at h1'; exact Option.some.inj h1'
           subst e
           have hks : ks ≠ ks' := fun e => hne (by rw [h3, h3', e])
           have w2 : 2 ≤ waysN T w p.right i j := ways_two ih p.right _ i i j ks ks' (fun s hs => hg.pr p (List.mem_of_getElem? h1) s hs) (by rw [if_pos rfl]; exact Nat.le_refl 1) (by rw [if_pos rfl]; exact Nat.le_refl 1) hi hi h4 h4' (Or.inl (Or.inr hks))
           have := fold_add (T := T) (w := w) (i := i) (j := j) (a := 0) (b := 2) (by omega) g.prods (fun _ => 0) p (Nat.zero_le _) (List.mem_of_getElem? h1) (lf p m k h1 h2) w2
           exact this
         · exact fold_2 g.prods _ m' m p' p hm h1' h1 (lf p' m' k h1' h2') (lf p m k h1 h2) (ws p' m' i j ks' h1' h4' hi) (ws p m i j ks h1 h4 hi)

abbrev Nd.sym : Nd → Int | .mk s _ _ _ => s
abbrev Nd.prod : Nd → Int | .mk _ p _ _ => p
abbrev Nd.at_ : Nd → Int | .mk _ _ a _ => a
abbrev Nd.kids : Nd → List Nd | .mk _ _ _ ks => ks
mutual
def Nd.V : Nd → V
 | .mk s p a ks => .agg [vi s, vi p, vi a, .sl 4 false (Nd.Vs ks)]
def Nd.Vs : List Nd → List V
 | [] => []
 | k :: r => k.V :: Nd.Vs r
end
theorem Nd.Vs_map : ∀ l : List Nd, Nd.Vs l = l.map Nd.V
 | [] => rfl
 | k :: r => by rw [Nd.Vs, Nd.Vs_map r]; rfl
theorem Nd.V_mk (s p a : Int) (ks : List Nd) : (Nd.mk s p a ks).V = .agg [vi s, vi p, vi a, .sl 4 false (ks.map Nd.V)] := by rw [Nd.V, Nd.Vs_map]
mutual
def Nd.size : Nd → Nat
 | .mk _ _ _ ks => Nd.sizes ks + 1
def Nd.sizes : List Nd → Nat
 | [] => 0
 | k :: r => k.size + Nd.sizes r
end
theorem Nd.size_pos : ∀ t : Nd, 1 ≤ t.size
 | .mk _ _ _ ks => by rw [Nd.size]; omega
theorem Nd.sizes_get : ∀ {l : List Nd} {i : Nat} {k : Nd}, l[i]? = some k → k.size ≤ Nd.sizes l
 | [], i, k, h => by simp at h
 | a :: r, 0, k, h => by
   have e : a = k := by simpa using h
   subst e; rw [Nd.sizes]; omega
 | a :: r, i + 1, k, h => by
   have := Nd.sizes_get (l := r) (i := i) (k := k) (by simpa using h)
   rw [Nd.sizes]; omega
theorem Nd.sizes_len : ∀ l : List Nd, l.length ≤ Nd.sizes l
 | [] => Nat.zero_le _
 | a :: r => by have := Nd.sizes_len r; have := a.size_pos; rw [Nd.sizes, List.length_cons]; omega
theorem Nd.sizes_snoc : ∀ (l : List Nd) (k : Nd), Nd.sizes (l ++ [k]) = Nd.sizes l + k.size
 | [], k => by simp [Nd.sizes]
 | a :: r, k => by rw [List.cons_append, Nd.sizes, Nd.sizes_snoc r k, Nd.sizes]; omega
mutual
def Nd.sizeR : Nd → Nat
 | .mk _ _ _ ks => Nd.sizeRs 1 ks
def Nd.sizeRs (n : Nat) : List Nd → Nat
 | [] => n
 | k :: r => if n ≤ 3000 then Nd.sizeRs (n + k.sizeR) r else n
end
theorem Nd.sizeRs_app : ∀ (l m : List Nd) (n : Nat), Nd.sizeRs n (l ++ m) = Nd.sizeRs (Nd.sizeRs n l) m
 | [], m, n => by rw [List.nil_append, Nd.sizeRs]
 | k :: r, m, n => by
   rw [List.cons_append, Nd.sizeRs, Nd.sizeRs]
   split
   · exact Nd.sizeRs_app r m _
   · rename_i h
     cases m with
     | nil => rw [Nd.sizeRs]
     | cons a b => rw [Nd.sizeRs, if_neg h]
mutual
theorem Nd.sizeR_le : ∀ t : Nd, t.sizeR ≤ t.size
 | .mk _ _ _ ks => by have := Nd.sizeRs_le ks 1; rw [Nd.sizeR, Nd.size]; omega
theorem Nd.sizeRs_le : ∀ (l : List Nd) (n : Nat), Nd.sizeRs n l ≤ n + Nd.sizes l
 | [], n => by rw [Nd.sizeRs, Nd.sizes]; omega
 | k :: r, n => by
   have := Nd.sizeR_le k
   have := Nd.sizeRs_le r (n + k.sizeR)
   rw [Nd.sizeRs, Nd.sizes]; split <;> omega
end
mutual
theorem Nd.sizeR_eq : ∀ t : Nd, t.sizeR ≤ 3000 → t.sizeR = t.size
 | .mk _ _ _ ks => fun h => by rw [Nd.sizeR] at h; have := Nd.sizeRs_eq ks 1 h; rw [Nd.sizeR, Nd.size]; omega
theorem Nd.sizeRs_eq : ∀ (l : List Nd) (n : Nat), Nd.sizeRs n l ≤ 3000 → Nd.sizeRs n l = n + Nd.sizes l
 | [], n => fun _ => by rw [Nd.sizeRs, Nd.sizes]; rfl
 | k :: r, n => fun h => by
   rw [Nd.sizeRs] at h ⊢
   rw [Nd.sizes]
   by_cases h1 : n ≤ 3000
   · rw [if_pos h1] at h ⊢
     have h2 := Nd.sizeRs_eq r _ h
     have := Nd.sizeR_eq k (by omega)
     omega
   · rw [if_neg h1] at h; omega
end
mutual
def Nd.yld : Nd → List Int
 | .mk s p _ ks => if p = -1 then [s] else Nd.ylds ks
def Nd.ylds : List Nd → List Int
 | [] => []
 | k :: r => k.yld ++ Nd.ylds r
end
mutual
theorem Nd.yld_len : ∀ t : Nd, t.yld.length ≤ t.size
 | .mk s p _ ks => by
   have := Nd.ylds_len ks
   rw [Nd.yld, Nd.size]; split
   · simp
   · omega
theorem Nd.ylds_len : ∀ l : List Nd, (Nd.ylds l).length ≤ Nd.sizes l
 | [] => by rw [Nd.ylds, Nd.sizes]; exact Nat.le_refl _
 | k :: r => by have := Nd.yld_len k; have := Nd.ylds_len r; rw [Nd.ylds, Nd.sizes, List.length_append]; omega
end
def anyW : Nat → Int → Prop := fun _ _ => True
theorem treeD_prod {g : Grammar} {L : Nat → Int → Prop} {d : Nat} {s : Int} {i j : Nat} {t : Nd} (h : TreeD g L d s i j t) : t.sym = s := by
 cases d with
 | zero => exact h.elim
 | succ d =>
   rcases h with ⟨_, _, _, rfl⟩ | ⟨m, p, ks, _, _, rfl, _⟩ <;> rfl
theorem treeD_at {g : Grammar} {w : List Int} : ∀ (d : Nat) {s : Int} {i j : Nat} {t : Nd}, TreeD g anyW d s i j t → j = i + t.yld.length ∧ ((∀ q, q < t.yld.length → w[i + q]? = t.yld[q]?) → TreeD g (atW w) d s i j t)
 | 0, _, _, _, _, h => h.elim
 | d + 1, s, i, j, t, h => by
   have key : ∀ (l : List Int) (i b : Nat) (ks : List Nd), Fst (TreeD g anyW d) l i b ks → b = i + (Nd.ylds ks).length ∧ ((∀ q, q < (Nd.ylds ks).length → w[i + q]? = (Nd.ylds ks)[q]?) → Fst (TreeD g (atW w) d) l i b ks) := by
    intro l
    induction l with
    | nil =>
      rintro i b ks ⟨rfl, rfl⟩
      exact ⟨by rw [Nd.ylds]; rfl, fun _ => ⟨rfl, rfl⟩⟩
    | cons x l ih =>
      rintro i b ks ⟨a, k, r, rfl, h1, h2⟩
      obtain ⟨e1, f1⟩ := treeD_at (w := w) d h1
      obtain ⟨e2, f2⟩ := ih _ _ _ h2
      refine ⟨by rw [Nd.ylds, List.length_append]; omega, fun hw => ⟨a, k, r, rfl, f1 fun q hq => ?_, f2 fun q hq => ?_⟩⟩
      · rw [Nd.ylds] at hw
        have := hw q (by rw [List.length_append]; omega)
        rwa [List.getElem?_append_left hq] at this
      · rw [Nd.ylds] at hw
        have := hw (k.yld.length + q) (by rw [List.length_append]; omega)
        rw [List.getElem?_append_right (by omega), Nat.add_sub_cancel_left] at this
        rw [← this, e1, Nat.add_assoc]
   rcases h with ⟨h1, h2, _, rfl⟩ | ⟨m, p, ks, h1, h2, rfl, h4⟩
   · refine ⟨by rw [Nd.yld, if_pos rfl]; exact h2, fun hw => Or.inl ⟨h1, h2, ?_, rfl⟩⟩
     have := hw 0 (by rw [Nd.yld, if_pos rfl]; simp)
     rw [Nd.yld, if_pos rfl] at this
     show w[i]? = some s; simpa using this
   · have e : (Nd.mk s (m : Int) (-1) ks).yld = Nd.ylds ks := by rw [Nd.yld, if_neg (by omega)]
     obtain ⟨e1, f1⟩ := key _ _ _ _ h4
     rw [e]
     exact ⟨e1, fun hw => Or.inr ⟨m, p, ks, h1, h2, rfl, f1 hw⟩⟩
theorem treeD_all {g : Grammar} {d : Nat} {s : Int} {j : Nat} {t : Nd} (h : TreeD g anyW d s 0 j t) : TreeD g (atW t.yld) d s 0 t.yld.length t := by
 obtain ⟨e, f⟩ := treeD_at (w := t.yld) d h
 rw [Nat.zero_add] at e
 have := f fun q _ => by rw [Nat.zero_add]
 rwa [e] at this
theorem tree_counts {g : Grammar} {nn d d' : Nat} {s : Int} {j j' : Nat} {t u : Nd} {x : Int} (hg : Cnt g nn) (ht : TreeD g anyW d s 0 j t) (hs : 1000 ≤ s) (hsn : s < 1000 + (nn : Int)) (htl : g.toks.length ≤ 900) (hx : cntP g nn s t.yld x) :
 (24 < t.yld.length → x = -1) ∧ (t.yld.length ≤ 24 → 1 ≤ x ∧ (TreeD g anyW d' s 0 j' u → t.yld = u.yld → t ≠ u → x = 2)) := by
 unfold cntP at hx
 refine ⟨fun h => by rwa [if_pos h] at hx, fun h => ?_⟩
 rw [if_neg (by omega), if_neg (by omega), if_neg (by omega)] at hx
 obtain ⟨T, hT, rfl⟩ := hx
 obtain ⟨k, rfl, hk⟩ : ∃ k : Nat, s = 1000 + (k : Int) ∧ k < nn := ⟨(s - 1000).toNat, by omega, by omega⟩
 rw [show (1000 + (k : Int) - 1000).toNat = k by omega]
 have h1 := treeD_all ht
 have o := (treeD_ok hg hT d).one k _ _ _ hk h1 (Nat.zero_le _)
 refine ⟨by omega, fun hu e hne => ?_⟩
 have h2 := treeD_all hu
 rw [← e] at h2
 have t2 := (treeD_ok hg hT (d + d')).two k _ _ _ _ hk (h1.mono (by omega)) (h2.mono (by omega)) (Nat.zero_le _) hne
 have := hT.le2 k 0 t.yld.length
 omega

mutual
theorem nd_er {b : Bool} {H : Nat → Option MObj} : ∀ t : Nd, Er b H t.V t.V
 | .mk s p a ks => by
   rw [Nd.V]
   exact ErL.agg (.cons (.int _ _) (.cons (.int _ _) (.cons (.int _ _) (.cons (ErL.sl (nds_er ks)) .nil))))
theorem nds_er {b : Bool} {H : Nat → Option MObj} : ∀ l : List Nd, ErL b H (Nd.Vs l) (Nd.Vs l)
 | [] => .nil
 | k :: r => by rw [Nd.Vs]; exact .cons (nd_er k) (nds_er r)
end
instance nd_cl (t : Nd) : Cl t.V := ⟨fun b H => nd_er t⟩
theorem Nd.size_kid {s p a : Int} {ks : List Nd} {k : Nd} (h : k ∈ ks) : k.size < (Nd.mk s p a ks).size := by
 obtain ⟨i, hi⟩ := List.getElem?_of_mem h
 have := Nd.sizes_get hi
 rw [Nd.size]; omega
theorem Nd.sizeRs_stop {l : List Nd} {n : Nat} (h : 3000 < n) : Nd.sizeRs n l = n := by
 cases l with
 | nil => rw [Nd.sizeRs]
 | cons a r => rw [Nd.sizeRs, if_neg (by omega)]
theorem size_step {y p a : Int} {ks : List Nd} (ih : ∀ k ∈ ks, Pure Try.prog 18 [k.V] (vi k.sizeR)) (hb : (Nd.mk y p a ks).size ≤ 1000000000000) : Pure Try.prog 18 [(Nd.mk y p a ks).V] (vi (Nd.mk y p a ks).sizeR) := by
 refine pure_intro Try.func18 e18_nm e18_ok (by show 1 ≤ 25; decide) ?_
 show ewp _ e18n18 _ _
 have hsz : Nd.sizes ks ≤ 1000000000000 := by rw [Nd.size] at hb; omega
 have hkl := Nd.sizes_len ks
 rw [Nd.V_mk, Nd.sizeR]
 repeat' with_reducible first
  | refine s_ ?_
  | simp -implicitDefEqProofs only [wZZ, seval]
  | (apply boxQ_i; (exact wu_); (exact wu_))
 refine ewp_loopN ?nx1 (fun (i : Nat) s => s.f 1 = ?v1_1 ∧ s.H 0 = some (.own 4 [.agg [vi y, vi p, vi a, .sl 4 false (ks.map Nd.V)]] false) ∧ s.f 3 = vi (Nd.sizeRs 1 (ks.take i)) ∧ s.f 4 = vi i ∧ (i ≤ ks.length)) (fun i => ks.length - i) (0) wj_ (by refine ⟨?_, ?_, ?_, ?_, (by first | omega | (simp; done) | assumption)⟩ <;> first | (simp -implicitDefEqProofs only [wL, wM, wN, wX, seval, Option.some.injEq] <;> exact wt_) | rfl | exact ⟨_, rfl⟩) ?_
 intro i s hnx ⟨g1, o0, g3, g4, k1_0⟩
 have hz : IntKind.i64.wrap ((i + 1 : Nat) : Int) = ((i + 1 : Nat) : Int) := wrap64 (by omega) (by omega)
 by_cases hi : i < ks.length
 · have hgi : ks[i]? = some ks[i] := List.getElem?_eq_getElem hi
   have htk : ks.take (i + 1) = ks.take i ++ [ks[i]] := by rw [List.take_add_one, hgi]; rfl
   have hih := ih _ (List.getElem_mem hi)
   have hle := Nd.sizeRs_le (ks.take (i + 1)) 1
   have hle2 : Nd.sizes (ks.take (i + 1)) ≤ Nd.sizes ks := by
    have h1 : ∀ (l m : List Nd), Nd.sizes l ≤ Nd.sizes (l ++ m) := fun l m => by
     induction l with
     | nil => rw [Nd.sizes]; exact Nat.zero_le _
     | cons a r ih => rw [List.cons_append, Nd.sizes, Nd.sizes]; omega
    have h2 := h1 (ks.take (i + 1)) (ks.drop (i + 1))
    rwa [List.take_append_drop] at h2
   rw [htk, Nd.sizeRs_app] at hle
   by_cases hn : Nd.sizeRs 1 (ks.take i) ≤ 3000
   · have hst : Nd.sizeRs 1 (ks.take (i + 1)) = Nd.sizeRs 1 (ks.take i) + ks[i].sizeR := by rw [htk, Nd.sizeRs_app, Nd.sizeRs, if_pos hn, Nd.sizeRs]
     rw [Nd.sizeRs, if_pos hn, Nd.sizeRs] at hle
     rw [htk] at hle2
     generalize ks[i] = k at *
     generalize Nd.sizeRs 1 (ks.take i) = n at *
     have hz2 : IntKind.i64.wrap ((n : Int) + (k.sizeR : Int)) = ((n + k.sizeR : Nat) : Int) := by rw [wrap64 (by omega) (by omega)]; omega
     obtain ⟨ks', kp, ka, kk⟩ := k
     rw [Nd.V_mk] at hih
     repeat' with_reducible first
      | refine s_ ?_
      | simp -implicitDefEqProofs only [wZZ, seval, g1, g3, g4, o0, hz, hz2, Nd.V_mk]
      | (refine condQ_j (fun h h_ => ?_) (fun h h_ => ?_) <;> (try simp only [wD, reduceCtorEq] at h_) <;> (try exact wb_) <;> (try simp only [h]))
      | ((first | refine gdQ_iT (fun h => ?_) (fun h => ?_) | refine gdQ_iF (fun h => ?_) (fun h => ?_)) <;> have h_ := h <;> (try simp only [wD, reduceCtorEq] at h_) <;> (try exact wb_) <;> (try simp only [h]))
      | (apply ia_slQ; (focus omega); (focus with_unfolding_all exact hgi))
      | (apply callQ1 (hp := hih); (focus exact er_cl))
      | (apply ldQ_cell; (exact wu_))
     refine ⟨wk_, i + 1, (by omega), ?_⟩
     refine ⟨?_, ?_, ?_, ?_, ?_⟩
     iterate 4 (focus (first | (simp -implicitDefEqProofs only [wL, wM, wN, wX, seval, Option.some.injEq, g1, g3, g4, o0, hst] <;> exact wt_) | rfl | exact ⟨_, rfl⟩))
     all_goals try omega
   · have e : Nd.sizeRs 1 ks = Nd.sizeRs 1 (ks.take i) := by
      have := Nd.sizeRs_app (ks.take i) (ks.drop i) 1
      rw [List.take_append_drop] at this
      rw [this, Nd.sizeRs_stop (by omega)]
     rw [e]
     generalize Nd.sizeRs 1 (ks.take i) = n at *
     repeat' with_reducible first
      | refine s_ ?_
      | simp -implicitDefEqProofs only [wZZ, seval, g1, g3, g4, o0]
      | (refine condQ_j (fun h h_ => ?_) (fun h h_ => ?_) <;> (try simp only [wD, reduceCtorEq] at h_) <;> (try exact wb_) <;> (try simp only [h]))
      | ((first | refine gdQ_iT (fun h => ?_) (fun h => ?_) | refine gdQ_iF (fun h => ?_) (fun h => ?_)) <;> have h_ := h <;> (try simp only [wD, reduceCtorEq] at h_) <;> (try exact wb_) <;> (try simp only [h]))
      | (apply ldQ_cell; (exact wu_))
     all_goals refine post1 rfl (Or.inr rfl) ?_
     all_goals (try simp -implicitDefEqProofs only [wL, seval, g1, g3, g4])
     all_goals (first | refine er_bool ?_ | refine er_int ?_ | refine er_str ?_ | refine er_sl_eq ?_ | refine er_asl_eq ?_)
     all_goals (try (with_reducible rfl))
 · have e : ks.take i = ks := List.take_of_length_le (by omega)
   rw [e] at g3
   repeat' with_reducible first
    | refine s_ ?_
    | simp -implicitDefEqProofs only [wZZ, seval, g1, g3, g4, o0]
    | ((first | refine gdQ_iT (fun h => ?_) (fun h => ?_) | refine gdQ_iF (fun h => ?_) (fun h => ?_)) <;> have h_ := h <;> (try simp only [wD, reduceCtorEq] at h_) <;> (try exact wb_) <;> (try simp only [h]))
    | (apply ldQ_cell; (exact wu_))
   all_goals refine post1 rfl (Or.inr rfl) ?_
   all_goals (try simp -implicitDefEqProofs only [wL, seval, g1, g3, g4])
   all_goals (first | refine er_bool ?_ | refine er_int ?_ | refine er_str ?_ | refine er_sl_eq ?_ | refine er_asl_eq ?_)
   all_goals (try (with_reducible rfl))
theorem ref_Size : ∀ (n : Nat) (t : Nd), t.size ≤ n → t.size ≤ 1000000000000 → Pure Try.prog 18 [t.V] (vi t.sizeR)
 | 0, t, h, _ => by have := t.size_pos; omega
 | n + 1, .mk s p a ks, h, hb => size_step (fun k hk => by have := Nd.size_kid (s := s) (p := p) (a := a) hk; exact ref_Size n k (by omega) (by omega)) hb
mutual
def Nd.eqb : Nd → Nd → Bool
 | .mk s p a ks, .mk s' p' a' ks' => decide (s = s') && (decide (p = p') && (decide (a = a') && Nd.eqbs ks ks'))
def Nd.eqbs : List Nd → List Nd → Bool
 | [], [] => true
 | k :: r, k' :: r' => k.eqb k' && Nd.eqbs r r'
 | [], _ :: _ => false
 | _ :: _, [] => false
end
mutual
theorem Nd.eqb_iff : ∀ t u : Nd, t.eqb u = true ↔ t = u
 | .mk s p a ks, .mk s' p' a' ks' => by
   rw [Nd.eqb]
   simp only [Bool.and_eq_true, decide_eq_true_eq, Nd.mk.injEq, Nd.eqbs_iff ks ks']
theorem Nd.eqbs_iff : ∀ l m : List Nd, Nd.eqbs l m = true ↔ l = m
 | [], [] => by simp [Nd.eqbs]
 | [], _ :: _ => by simp [Nd.eqbs]
 | _ :: _, [] => by simp [Nd.eqbs]
 | k :: r, k' :: r' => by rw [Nd.eqbs]; simp only [Bool.and_eq_true, List.cons.injEq, Nd.eqb_iff k k', Nd.eqbs_iff r r']
end
theorem Nd.eqb_no {t u : Nd} (h : t ≠ u) : t.eqb u = false := by
 cases e : t.eqb u with
 | false => rfl
 | true => exact absurd ((Nd.eqb_iff t u).1 e) h
theorem eqNode_step {y p a y' p' a' : Int} {ks ks' : List Nd} (ih : ∀ k ∈ ks, ∀ k' ∈ ks', Pure Try.prog 21 [k.V, k'.V] (.bool (k.eqb k'))) (hb : ks.length ≤ 1099511627776) (hb' : ks'.length ≤ 1099511627776) : Pure Try.prog 21 [(Nd.mk y p a ks).V, (Nd.mk y' p' a' ks').V] (.bool ((Nd.mk y p a ks).eqb (Nd.mk y' p' a' ks'))) := by
 refine pure_intro Try.func21 e21_nm e21_ok (by show 2 ≤ 53; decide) ?_
 show ewp _ e21n26 _ _
 rw [Nd.V_mk, Nd.V_mk]
 by_cases h : y = y' ∧ p = p' ∧ a = a' ∧ ks.length = ks'.length
 · obtain ⟨rfl, rfl, rfl, hl⟩ := h
   repeat' with_reducible first
    | refine s_ ?_
    | simp -implicitDefEqProofs only [wZZ, seval]
    | (refine condQ_j (fun h h_ => ?_) (fun h h_ => ?_) <;> (try simp only [wD, reduceCtorEq] at h_) <;> (try exact wb_) <;> (try simp only [h]))
    | (apply ldQ_cell; (exact wu_))
    | (apply boxQ_i; (exact wu_); (exact wu_))
   refine ewp_loopN ?nx1 (fun (k : Nat) s => s.f 2 = ?v1_2 ∧ s.f 3 = ?v1_3 ∧ s.H 0 = some (.own 4 [.agg [vi y, vi p, vi a, .sl 4 false (ks.map Nd.V)]] false) ∧ s.H 1 = some (.own 4 [.agg [vi y, vi p, vi a, .sl 4 false (ks'.map Nd.V)]] false) ∧ s.f 5 = vi k ∧ (k ≤ ks.length) ∧ (∀ i, i < k → ks[i]? = ks'[i]?)) (fun k => ks.length - k) (0) wj_ (by refine ⟨?_, ?_, ?_, ?_, ?_, (by first | omega | (simp; done) | assumption), (by first | omega | (simp; done) | assumption)⟩ <;> first | (simp -implicitDefEqProofs only [wL, wM, wN, wX, seval, Option.some.injEq] <;> exact wt_) | rfl | exact ⟨_, rfl⟩) ?_
   intro k s hnx ⟨g2, g3, o0, o1, g5, k1_0, k1_1⟩
   have hz : IntKind.i64.wrap ((k + 1 : Nat) : Int) = ((k + 1 : Nat) : Int) := wrap64 (by omega) (by omega)
   by_cases hk : k < ks.length
   · have hgi : ks[k]? = some ks[k] := List.getElem?_eq_getElem hk
     have hgi' : ks'[k]? = some ks'[k] := List.getElem?_eq_getElem (by omega)
     have hih := ih _ (List.getElem_mem hk) _ (List.getElem_mem (show k < ks'.length by omega))
     by_cases he : ks[k] = ks'[k]
     · have hn : ∀ i, i < k + 1 → ks[i]? = ks'[i]? := fun i hi => by
        by_cases e : i = k
        · subst e; rw [hgi, hgi', he]
        · exact k1_1 i (by omega)
       rw [(Nd.eqb_iff _ _).2 he] at hih
       generalize ks[k] = x at *
       generalize ks'[k] = y at *
       obtain ⟨x1, x2, x3, x4⟩ := x
       obtain ⟨y1, y2, y3, y4⟩ := y
       rw [Nd.V_mk, Nd.V_mk] at hih
       repeat' with_reducible first
        | refine s_ ?_
        | simp -implicitDefEqProofs only [wZZ, seval, g2, g3, g5, o0, o1, hz, Nd.V_mk]
        | (refine condQ_j (fun h h_ => ?_) (fun h h_ => ?_) <;> (try simp only [wD, reduceCtorEq] at h_) <;> (try exact wb_) <;> (try simp only [h]))
        | (apply ia_slQ; (focus omega); (focus with_unfolding_all exact hgi))
        | (apply ia_slQ; (focus omega); (focus with_unfolding_all exact hgi'))
        | (apply callQ2 (hp := hih); (focus exact er_cl); (focus exact er_cl))
        | (apply ldQ_cell; (exact wu_))
       refine ⟨wk_, k + 1, (by omega), ?_⟩
       refine ⟨?_, ?_, ?_, ?_, ?_, ?_, ?_⟩
       iterate 5 (focus (first | (simp -implicitDefEqProofs only [wL, wM, wN, wX, seval, Option.some.injEq, g2, g3, g5, o0, o1] <;> exact wt_) | rfl | exact ⟨_, rfl⟩))
       all_goals try omega
     · have hne : (Nd.mk y p a ks).eqb (Nd.mk y p a ks') = false := Nd.eqb_no fun e => he (by
        injection e with _ _ _ e; subst e; rfl)
       rw [hne]
       rw [Nd.eqb_no he] at hih
       generalize ks[k] = x at *
       generalize ks'[k] = y at *
       obtain ⟨x1, x2, x3, x4⟩ := x
       obtain ⟨y1, y2, y3, y4⟩ := y
       rw [Nd.V_mk, Nd.V_mk] at hih
       repeat' with_reducible first
        | refine s_ ?_
        | simp -implicitDefEqProofs only [wZZ, seval, g2, g3, g5, o0, o1, hz, Nd.V_mk]
        | (refine condQ_j (fun h h_ => ?_) (fun h h_ => ?_) <;> (try simp only [wD, reduceCtorEq] at h_) <;> (try exact wb_) <;> (try simp only [h]))
        | (apply ia_slQ; (focus omega); (focus with_unfolding_all exact hgi))
        | (apply ia_slQ; (focus omega); (focus with_unfolding_all exact hgi'))
        | (apply callQ2 (hp := hih); (focus exact er_cl); (focus exact er_cl))
        | (apply ldQ_cell; (exact wu_))
       all_goals refine post1 rfl (Or.inr rfl) ?_
       all_goals (try simp -implicitDefEqProofs only [wL, seval, g2, g3, g5])
       all_goals (first | refine er_bool ?_ | refine er_int ?_ | refine er_str ?_ | refine er_sl_eq ?_ | refine er_asl_eq ?_)
       all_goals (try (with_reducible rfl))
   · have e : ks = ks' := List.ext_getElem? fun i => by
      by_cases hi : i < k
      · exact k1_1 i hi
      · rw [List.getElem?_eq_none (by omega), List.getElem?_eq_none (by omega)]
     have hne : (Nd.mk y p a ks).eqb (Nd.mk y p a ks') = true := (Nd.eqb_iff _ _).2 (by rw [e])
     rw [hne]
     repeat' with_reducible first
      | refine s_ ?_
      | simp -implicitDefEqProofs only [wZZ, seval, g2, g3, g5, o0, o1]
      | (refine condQ_j (fun h h_ => ?_) (fun h h_ => ?_) <;> (try simp only [wD, reduceCtorEq] at h_) <;> (try exact wb_) <;> (try simp only [h]))
      | (apply ldQ_cell; (exact wu_))
     all_goals refine post1 rfl (Or.inr rfl) ?_
     all_goals (try simp -implicitDefEqProofs only [wL, seval, g2, g3, g5])
     all_goals (first | refine er_bool ?_ | refine er_int ?_ | refine er_str ?_ | refine er_sl_eq ?_ | refine er_asl_eq ?_)
     all_goals (try (with_reducible rfl))
 · have hne : (Nd.mk y p a ks).eqb (Nd.mk y' p' a' ks') = false := Nd.eqb_no fun e => h (by
    injection e with h1 h2 h3 h4; subst h4; exact ⟨h1, h2, h3, rfl⟩)
   rw [hne]
   skip
   repeat' with_reducible first
    | refine s_ ?_
    | simp -implicitDefEqProofs only [wZZ, seval]
    | (refine condQ_j (fun h h_ => ?_) (fun h h_ => ?_) <;> (try simp only [wD, reduceCtorEq] at h_) <;> (try exact wb_) <;> (try simp only [h]))
    | ((first | refine gdQ_iT (fun h => ?_) (fun h => ?_) | refine gdQ_iF (fun h => ?_) (fun h => ?_)) <;> have h_ := h <;> (try simp only [wD, reduceCtorEq] at h_) <;> (try exact wb_) <;> (try simp only [h]))
    | (apply ldQ_cell; (exact wu_))
    | (apply boxQ_i; (exact wu_); (exact wu_))
   all_goals refine post1 rfl (Or.inr rfl) ?_
   all_goals (try simp -implicitDefEqProofs only [wL, seval])
   all_goals (first | refine er_bool ?_ | refine er_int ?_ | refine er_str ?_ | refine er_sl_eq ?_ | refine er_asl_eq ?_)
   all_goals (try (with_reducible rfl))
theorem ref_EqNode : ∀ (n : Nat) (t u : Nd), t.size ≤ n → t.size ≤ 1000000000000 → u.size ≤ 1000000000000 → Pure Try.prog 21 [t.V, u.V] (.bool (t.eqb u))
 | 0, t, _, h, _, _ => by have := t.size_pos; omega
 | n + 1, .mk s p a ks, .mk s' p' a' ks', h, hb, hb' => by
   have h1 := Nd.sizes_len ks
   have h2 := Nd.sizes_len ks'
   exact eqNode_step (fun k hk k' hk' => by
    have := Nd.size_kid (s := s) (p := p) (a := a) hk
    have := Nd.size_kid (s := s') (p := p') (a := a') hk'
    exact ref_EqNode n k k' (by omega) (by omega) (by omega)) (by rw [Nd.size] at hb; omega) (by rw [Nd.size] at hb'; omega)
end Go.Proofs
