/- Part of a proof that a law of the given program answers true. -/
import Derived.Test.YthgkeppkcjcmjaaCPG
import Derived.Test.YthgkeppkcjcmjaaCJB
set_option linter.unusedSimpArgs false
set_option linter.unusedVariables false
namespace Go.Proofs
open Go.E
def yU (nt nn : Nat) (s : Int) : Prop := (∃ t : Nat, s = t ∧ t < nt) ∨ ∃ k : Nat, s = 1000 + (k : Int) ∧ k < nn
structure GOk (g : Grammar) : Prop where
 tk : 3 ≤ g.toks.length
 tk2 : g.toks.length ≤ 40
 nn : 1 ≤ g.nons.length
 nn2 : g.nons.length ≤ 24
 pl : 1 ≤ g.prods.length
 pl2 : g.prods.length ≤ 60
 left : ∀ p ∈ g.prods, ∃ l : Nat, p.left = l ∧ l < g.nons.length
 rlen : ∀ p ∈ g.prods, p.right.length ≤ 8
 right : ∀ p ∈ g.prods, ∀ s ∈ p.right, yU g.toks.length g.nons.length s
 prec : ∀ p ∈ g.prods, p.prec = -1 ∨ ∃ t : Nat, p.prec = t ∧ t < g.toks.length
 head : ∃ p r, g.prods = p :: r ∧ p.left = 0 ∧ (∃ k : Nat, p.right = [1000 + (k : Int)] ∧ k < g.nons.length)
structure MInv (m : Mk) : Prop where
 tk : 3 ≤ m.toks.length
 inn : 0 ≤ m.inner
 left : ∀ p ∈ m.prods, 0 ≤ p.left ∧ p.left ≤ m.lefts.length + m.inner
 right : ∀ p ∈ m.prods, ∀ s ∈ p.right, yU m.toks.length (1 + m.lefts.length + m.inner.toNat) s
 prec : ∀ p ∈ m.prods, p.prec = -1 ∨ (0 ≤ p.prec ∧ p.prec < m.toks.length)
theorem yU.mono {a b a' b' : Nat} {s : Int} (h : yU a b s) (h1 : a ≤ a') (h2 : b ≤ b') : yU a' b' s := by
 rcases h with ⟨t, e, l⟩ | ⟨k, e, l⟩
 · exact Or.inl ⟨t, e, by omega⟩
 · exact Or.inr ⟨k, e, by omega⟩
theorem MInv.up {m m' : Mk} (h : MInv m) (hp : m'.prods = m.prods) (ht : m.toks.length ≤ m'.toks.length) (hl : m'.lefts = m.lefts) (hi : m.inner ≤ m'.inner) : MInv m' := by
 have := h.inn
 refine ⟨by have := h.tk; omega, by omega, fun p hq => ?_, fun p hq s hs => ?_, fun p hq => ?_⟩
 · rw [hp] at hq; have := h.left p hq; rw [hl]; omega
 · rw [hp] at hq; rw [hl]; exact (h.right p hq s hs).mono ht (by omega)
 · rw [hp] at hq
   rcases h.prec p hq with h | ⟨h1, h2⟩
   · exact Or.inl h
   · exact Or.inr ⟨h1, by omega⟩
theorem MInv.put {m : Mk} (h : MInv m) {p : GPr} (h1 : 0 ≤ p.left ∧ p.left ≤ m.lefts.length + m.inner) (h2 : ∀ s ∈ p.right, yU m.toks.length (1 + m.lefts.length + m.inner.toNat) s) (h3 : p.prec = -1 ∨ (0 ≤ p.prec ∧ p.prec < m.toks.length)) : MInv { m with prods := m.prods ++ [p] } := by
 refine ⟨h.tk, h.inn, fun q hq => ?_, fun q hq => ?_, fun q hq => ?_⟩ <;> rcases List.mem_append.1 hq with hq | hq
 · exact h.left q hq
 · rw [List.mem_singleton] at hq; subst hq; exact h1
 · exact h.right q hq
 · rw [List.mem_singleton] at hq; subst hq; exact h2
 · exact h.prec q hq
 · rw [List.mem_singleton] at hq; subst hq; exact h3
theorem qdi {m : Mk} (x : Sym) (ht : 3 ≤ m.toks.length) (hi : 0 ≤ m.inner) : yU (yj m x).1.toks.length (1 + m.lefts.length + m.inner.toNat) (yj m x).2 ∧ (x.lit = true ∨ qB x.name m.lefts 0 < 0 → 0 ≤ (yj m x).2 ∧ (yj m x).2 < (yj m x).1.toks.length) := by
 have hb := qd7 m x (by omega)
 have hl := jr x.name m.lefts 0
 have htk := qaa x m.toks (by omega)
 have hf := (qY m x.at_ x.name).1
 have tokI : ∀ {n : Nat} {s : Int}, 0 ≤ s → s < n → yU n (1 + m.lefts.length + m.inner.toNat) s := fun h1 h2 => Or.inl ⟨_, (Int.toNat_of_nonneg h1).symm, by omega⟩
 unfold yj
 split
 · exact ⟨tokI hb.1 hb.2, fun _ => hb⟩
 · rename_i hx
   split
   · rename_i h0
     refine ⟨Or.inr ⟨(1 + qB x.name m.lefts 0).toNat, by dsimp only; omega, by omega⟩, fun h => ?_⟩
     rcases h with h | h
     · exact absurd h hx
     · omega
   · split
     · dsimp only; rw [hf]
       exact ⟨tokI (by omega) (by omega), fun _ => ⟨by omega, by omega⟩⟩
     · dsimp only; exact ⟨tokI (by omega) (by omega), fun _ => ⟨by omega, by omega⟩⟩
theorem Y1 : ∀ (l : List Part) (m : Mk) (p : GPr), MInv m → (∀ s ∈ p.right, yU m.toks.length (1 + m.lefts.length + m.inner.toNat) s) → MInv (zh l (m, p)).1 ∧ ∀ s ∈ (zh l (m, p)).2.right, yU (zh l (m, p)).1.toks.length (1 + (zh l (m, p)).1.lefts.length + (zh l (m, p)).1.inner.toNat) s
 | [], m, p, h, hp => by rw [JI]; exact ⟨h, hp⟩
 | w :: r, m, p, h, hp => by
   rw [kF]
   obtain ⟨y1, y2, y3, y4, y5, y6, y7, y8⟩ := Qa m w.sym
   have hs := (qdi w.sym h.tk h.inn).1
   have hi := h.inn
   split
   · refine Y1 r _ _ (h.up y3 y7 y2 (by omega)) fun s hs2 => ?_
     rw [y2, y6]
     rcases List.mem_append.1 hs2 with hs2 | hs2
     · exact (hp s hs2).mono y7 (Nat.le_refl _)
     · rw [List.mem_singleton] at hs2; subst hs2; exact hs
   · split
     · exact ⟨h, hp⟩
     · refine Y1 r _ _ ?_ fun s hs2 => ?_
       · refine (h.up (m' := { m with inner := m.inner + 1 }) rfl (Nat.le_refl _) rfl (by dsimp only; omega)).put ⟨by dsimp only; omega, by dsimp only; omega⟩ (fun s hs2 => by cases hs2) (Or.inl rfl)
       · dsimp only at hs2 ⊢
         rcases List.mem_append.1 hs2 with hs2 | hs2
         · exact (hp s hs2).mono (Nat.le_refl _) (by omega)
         · rw [List.mem_singleton] at hs2
           exact Or.inr ⟨m.lefts.length + (m.inner + 1).toNat, by rw [hs2]; omega, by omega⟩
theorem VB (n : Nat) : ∀ (l : List Int) (p : Int), (∀ s ∈ l, 0 ≤ s ∧ (s < 1000 → s < n)) → (p = -1 ∨ (0 ≤ p ∧ p < n)) → (xA l p = -1 ∨ (0 ≤ xA l p ∧ xA l p < n))
 | [], p, _, hp => hp
 | x :: r, p, h, hp => by
   rw [xA]
   refine VB n r _ (fun s hs => h s (List.mem_cons_of_mem _ hs)) ?_
   split
   · rename_i hx; have := h x (by simp); exact Or.inr ⟨this.1, this.2 hx⟩
   · exact hp
theorem qnL {m : Mk} (n : List UInt8) (a : Alt) (h : MInv m) : MInv (X4 m n a) := by
 have hl := jr n m.lefts 0
 obtain ⟨g1, g2, g3, g4, g5, g6, g7, g8, g9, g10⟩ := Xj a.parts m { left := 1 + qB n m.lefts 0, prec := -1, at_ := a.at_ }
 obtain ⟨h1, h2⟩ := Y1 a.parts m { left := 1 + qB n m.lefts 0, prec := -1, at_ := a.at_ } h (fun s hs => by cases hs)
 have hi := h.inn
 unfold X4
 dsimp only
 generalize zh a.parts (m, { left := 1 + qB n m.lefts 0, prec := -1, at_ := a.at_ }) = q at *
 have hlf : 0 ≤ q.2.left ∧ q.2.left ≤ q.1.lefts.length + q.1.inner := by rw [g5, g1]; dsimp only; omega
 obtain ⟨ff1, ff2, ff3, ff4, ff5, ff6, ff7, ff8⟩ := qY q.1 a.prec.at_ a.prec.name
 split
 · split
   · rename_i hc
     obtain ⟨y1, y2, y3, y4, y5, y6, y7, y8⟩ := Qa q.1 a.prec
     have hs := (qdi a.prec h1.tk h1.inn).2 (by rcases hc with hc | hc <;> simp [hc])
     refine (h1.up y3 y7 y2 (by omega)).put (by rw [y2, y6]; exact hlf) (fun s hs2 => ?_) (Or.inr hs)
     rw [y2, y6]; exact (h2 s hs2).mono y7 (Nat.le_refl _)
   · refine (h1.up (m' := qQ q.1 a.prec.at_ a.prec.name) ff5 (by rw [ff1]; omega) ff3 (by omega)).put (p := { q.2 with prec := -1, args := q.2.right }) (by rw [ff3, ff8]; exact hlf) (fun s hs2 => by rw [ff1, ff3, ff8]; exact h2 s hs2) (Or.inl rfl) |> fun hh => ?_
     rw [ff5] at hh
     exact hh
 · refine h1.put hlf h2 ?_
   refine VB _ _ _ (fun s hs => ?_) (Or.inl rfl)
   rcases h2 s hs with ⟨t, e, l⟩ | ⟨k, e, l⟩
   · exact ⟨by omega, fun _ => by omega⟩
   · exact ⟨by omega, fun _ => by omega⟩
theorem VN (n : List UInt8) : ∀ (l : List Alt) (m : Mk), MInv m → MInv (zo n l m)
 | [], m, h => h
 | a :: r, m, h => by rw [yG]; exact VN n r _ (qnL n a h)
theorem qbx : ∀ (l : List Rule) (m : Mk), MInv m → MInv (yD l m)
 | [], m, h => h
 | r :: l, m, h => by rw [kN]; exact qbx l _ (VN r.left r.alts m h)
def HdP (P : GPr) (m : Mk) : Prop := ∃ r, m.prods = P :: r
theorem YP (P : GPr) : ∀ (l : List Part) (m : Mk) (p : GPr), HdP P m → HdP P (zh l (m, p)).1
 | [], m, p, h => h
 | w :: r, m, p, h => by
   rw [kF]
   obtain ⟨y1, y2, y3, y4, y5, y6, y7, y8⟩ := Qa m w.sym
   obtain ⟨t, ht⟩ := h
   split
   · exact YP P r _ _ ⟨t, by rw [y3]; exact ht⟩
   · split
     · exact ⟨t, ht⟩
     · exact YP P r _ _ ⟨_, by dsimp only; rw [ht]; rfl⟩
theorem qjX (P : GPr) {m : Mk} (n : List UInt8) (a : Alt) (h : HdP P m) : HdP P (X4 m n a) := by
 have h1 := YP P a.parts m { left := 1 + qB n m.lefts 0, prec := -1, at_ := a.at_ } h
 unfold X4
 dsimp only
 generalize zh a.parts (m, { left := 1 + qB n m.lefts 0, prec := -1, at_ := a.at_ }) = q at *
 obtain ⟨t, ht⟩ := h1
 obtain ⟨y1, y2, y3, y4, y5, y6, y7, y8⟩ := Qa q.1 a.prec
 split
 · split
   · exact ⟨_, by dsimp only; rw [y3, ht]; rfl⟩
   · exact ⟨_, by dsimp only; rw [ht]; rfl⟩
 · exact ⟨_, by dsimp only; rw [ht]; rfl⟩
theorem V9 (P : GPr) (n : List UInt8) : ∀ (l : List Alt) (m : Mk), HdP P m → HdP P (zo n l m)
 | [], m, h => h
 | a :: r, m, h => by rw [yG]; exact V9 P n r _ (qjX P n a h)
theorem qaZ (P : GPr) : ∀ (l : List Rule) (m : Mk), HdP P m → HdP P (yD l m)
 | [], m, h => h
 | r :: l, m, h => by rw [kN]; exact qaZ P l _ (V9 P r.left r.alts m h)
theorem XD (g : List Bool) : ∀ (f i : Nat) (l : List Tok) (n : Int), (Y0 g f i (l, n)).1.length = l.length
 | 0, i, l, n => rfl
 | f + 1, i, l, n => by
   rw [Yy]; split
   · exact XD g f _ _ _
   · rw [XD]; simp
theorem KX (d : Decl) : ∀ (l : List Sym) (m : Mk) (st : List UInt8), yH m (zB d l (m, st)).1 ∧ m.toks.length ≤ (zB d l (m, st)).1.toks.length
 | [], m, st => ⟨⟨rfl, rfl, rfl, rfl⟩, Nat.le_refl _⟩
 | x :: r, m, st => by
   rw [Yj]
   obtain ⟨⟨a1, a2, a3, a4⟩, _, h2, _⟩ := qcV m d x
   obtain ⟨ff1, ff2, ff3, ff4, ff5, ff6, ff7, ff8⟩ := qY m x.at_ x.name
   split
   · obtain ⟨⟨b1, b2, b3, b4⟩, k2⟩ := KX d r (yV m d x) st
     exact ⟨⟨b1.trans a1, b2.trans a2, b3.trans a3, b4.trans a4⟩, by omega⟩
   · have key : ∀ m', yH m m' → m.toks.length ≤ m'.toks.length → yH m (zB d r (m', x.name)).1 ∧ m.toks.length ≤ (zB d r (m', x.name)).1.toks.length := fun m' hm ht => by
      obtain ⟨⟨b1, b2, b3, b4⟩, k2⟩ := KX d r m' x.name
      exact ⟨⟨b1.trans hm.1, b2.trans hm.2.1, b3.trans hm.2.2.1, b4.trans hm.2.2.2⟩, by omega⟩
     split
     · exact key _ ⟨ff3, ff5, ff6, ff8⟩ (by rw [ff1]; omega)
     · exact key _ ⟨rfl, rfl, rfl, rfl⟩ (Nat.le_refl _)
theorem qdf : ∀ (l : List Decl) (m : Mk) (st : List UInt8), yH m (jE l (m, st)).1 ∧ m.toks.length ≤ (jE l (m, st)).1.toks.length
 | [], m, st => ⟨⟨rfl, rfl, rfl, rfl⟩, Nat.le_refl _⟩
 | d :: r, m, st => by
   rw [YJ]
   have key : ∀ m', yH m m' → m.toks.length ≤ m'.toks.length → yH m (jE r (zB d d.syms (m', st))).1 ∧ m.toks.length ≤ (jE r (zB d d.syms (m', st))).1.toks.length := fun m' hm ht => by
    obtain ⟨⟨a1, a2, a3, a4⟩, k1⟩ := KX d d.syms m' st
    obtain ⟨⟨b1, b2, b3, b4⟩, k2⟩ := qdf r (zB d d.syms (m', st)).1 (zB d d.syms (m', st)).2
    exact ⟨⟨b1.trans (a1.trans hm.1), b2.trans (a2.trans hm.2.1), b3.trans (a3.trans hm.2.2.1), b4.trans (a4.trans hm.2.2.2)⟩, by show m.toks.length ≤ (jE r ((zB d d.syms (m', st)).1, (zB d d.syms (m', st)).2)).1.toks.length; omega⟩
   split
   · exact key _ ⟨rfl, rfl, rfl, rfl⟩ (Nat.le_refl _)
   · exact key _ ⟨rfl, rfl, rfl, rfl⟩ (Nat.le_refl _)
theorem qc0 : ∀ (l : List Rule) (m : Mk), (xL l m).toks = m.toks ∧ (xL l m).inner = m.inner ∧ (xL l m).nons = m.nons
 | [], m => ⟨rfl, rfl, rfl⟩
 | r :: l, m => by
   rw [Yr]
   obtain ⟨d1, d2, d3, d4, d5, d6⟩ := qec m r
   obtain ⟨h1, h2, h3⟩ := qc0 l (XR (kW m r) r.left)
   have e : (XR (kW m r) r.left).toks = m.toks ∧ (XR (kW m r) r.left).inner = m.inner ∧ (XR (kW m r) r.left).nons = m.nons := by
    unfold XR
    split
    · exact ⟨d1, d6, d5⟩
    · exact ⟨d1, d6, d5⟩
   exact ⟨h1.trans e.1, h2.trans e.2.1, h3.trans e.2.2⟩
theorem qbh (kind : Int) : ∀ (l : List Sym) (m : Mk), jW m (j3 kind l m)
 | [], m => jW.rfl' m
 | x :: r, m => by rw [Xg]; exact (qx8 m kind x).trans' (qbh kind r _)
theorem qcR : ∀ (l : List Decl) (m : Mk), jW m (kQ l m)
 | [], m => jW.rfl' m
 | d :: r, m => by rw [X8]; exact (qbh d.kind d.syms m).trans' (qcR r _)
def qbI (src : Source) : Mk := kQ src.decls (xL src.rules (jE src.decls ({}, [])).1)
def Zv (src : Source) : List UInt8 := if (jE src.decls ({}, [])).2 = [] then (src.rules.headD {}).left else (jE src.decls ({}, [])).2
def qaz (src : Source) : GPr := { left := 0, right := [1001 + qB (Zv src) (qbI src).lefts 0], prec := -1 }
theorem qbn (src : Source) : xw src = yD src.rules { qbI src with prods := [qaz src] } := rfl
theorem qzt (src : Source) : 3 ≤ (qbI src).toks.length ∧ (qbI src).inner = 0 ∧ (qbI src).nons = [] := by
 obtain ⟨⟨a1, a2, a3, a4⟩, k1⟩ := qdf src.decls {} []
 obtain ⟨l1, l2, l3⟩ := qc0 src.rules (jE src.decls ({}, [])).1
 obtain ⟨u1, u2, u3, u4, u5, u6, u7⟩ := qcR src.decls (xL src.rules (jE src.decls ({}, [])).1)
 refine ⟨?_, ?_, ?_⟩
 · show 3 ≤ (kQ _ _).toks.length; rw [u1, l1]; exact k1
 · show (kQ _ _).inner = 0; rw [u7, l2]; exact a4
 · show (kQ _ _).nons = []; rw [u6, l3]; exact a3
theorem qff (src : Source) : MInv (xw src) ∧ HdP (qaz src) (xw src) := by
 obtain ⟨h1, h2, h3⟩ := qzt src
 have hl := jr (Zv src) (qbI src).lefts 0
 rw [qbn]
 refine ⟨qbx _ _ ⟨h1, by dsimp only; omega, fun p hp => ?_, fun p hp s hs => ?_, fun p hp => ?_⟩, qaZ _ _ _ ⟨[], rfl⟩⟩ <;> (dsimp only at hp; rw [List.mem_singleton] at hp; subst hp)
 · unfold qaz; dsimp only; omega
 · unfold qaz at hs; dsimp only at hs ⊢; rw [List.mem_singleton] at hs; subst hs
   exact Or.inr ⟨(1 + qB (Zv src) (qbI src).lefts 0).toNat, by omega, by omega⟩
 · exact Or.inl rfl
theorem J9 (n : List UInt8) : ∀ (l : List Alt) (m : Mk), (zo n l m).nons = m.nons ∧ (zo n l m).lefts = m.lefts
 | [], m => ⟨rfl, rfl⟩
 | a :: r, m => by
   rw [yG]
   obtain ⟨h1, _, h3, _⟩ := qg2 m n a
   obtain ⟨k1, k2⟩ := J9 n r (X4 m n a)
   exact ⟨k1.trans h3, k2.trans h1⟩
theorem Yn : ∀ (l : List Rule) (m : Mk), (yD l m).nons = m.nons ∧ (yD l m).lefts = m.lefts
 | [], m => ⟨rfl, rfl⟩
 | r :: l, m => by
   rw [kN]
   obtain ⟨h1, h2⟩ := J9 r.left r.alts m
   obtain ⟨k1, k2⟩ := Yn l (zo r.left r.alts m)
   exact ⟨k1.trans h1, k2.trans h2⟩
theorem qn5 (m : Mk) : (jR m).toks.length = m.toks.length ∧ (jR m).nons.length = 1 + m.lefts.length + m.inner.toNat ∧ (jR m).prods = m.prods := by
 unfold jR
 dsimp only
 refine ⟨XD _ _ _ _ _, ?_, rfl⟩
 rw [List.length_append, List.length_append, XP, qbs]; rfl
theorem qfi {src : Source} (h : YS src = true) : X5 src = true ∧ (xw src).e = 0 ∧ XU (jR (xw src)) = false ∧ ja src = { toks := (jR (xw src)).toks, nons := (jR (xw src)).nons, prods := (jR (xw src)).prods, pro := src.pro, tail := src.tail } := by
 have h := of_decide_eq_true h
 unfold ja
 unfold ofS at *
 by_cases h1 : X5 src = true
 · rw [if_pos h1] at *
   by_cases h2 : (xw src).e ≠ 0
   · rw [if_pos h2] at h; exact absurd h h2
   · rw [if_neg h2] at *
     by_cases h3 : XU (jR (xw src)) = true
     · rw [if_pos h3] at h; cases h
     · rw [if_neg h3] at *
       exact ⟨h1, by simpa using h2, by simpa using h3, rfl⟩
 · rw [if_neg h1] at h; cases h
theorem gok {src : Source} (h : YS src = true) : GOk (ja src) := by
 obtain ⟨_, _, hl, he⟩ := qfi h
 obtain ⟨hi, r, hr⟩ := qff src
 obtain ⟨n1, n2, n3⟩ := qn5 (xw src)
 unfold XU at hl
 simp only [Bool.or_eq_false_iff, decide_eq_false_iff_not, List.any_eq_false, decide_eq_true_eq] at hl
 obtain ⟨⟨⟨l1, l2⟩, l3⟩, l4⟩ := hl
 have hinn := hi.inn
 rw [he]
 refine ⟨?_, ?_, ?_, ?_, ?_, ?_, fun p hp => ?_, fun p hp => ?_, fun p hp s hs => ?_, fun p hp => ?_, ?_⟩ <;> dsimp only at *
 · rw [n1]; exact hi.tk
 · omega
 · rw [n2]; omega
 · omega
 · rw [n3, hr]; simp
 · omega
 · rw [n3] at hp; have := hi.left p hp
   exact ⟨p.left.toNat, by omega, by omega⟩
 · have := l4 p hp; omega
 · rw [n3] at hp; rw [n1, n2]; exact hi.right p hp s hs
 · rw [n3] at hp
   rcases hi.prec p hp with h | ⟨h1, h2⟩
   · exact Or.inl h
   · exact Or.inr ⟨p.prec.toNat, by omega, by omega⟩
 · refine ⟨qaz src, r, by rw [n3]; exact hr, rfl, (1 + qB (Zv src) (qbI src).lefts 0).toNat, ?_, ?_⟩
   · have := jr (Zv src) (qbI src).lefts 0
     unfold qaz; dsimp only
     rw [show (1001 + qB (Zv src) (qbI src).lefts 0 : Int) = 1000 + ((1 + qB (Zv src) (qbI src).lefts 0).toNat : Int) by omega]
   · have := jr (Zv src) (qbI src).lefts 0
     have := (Yn src.rules { qbI src with prods := [qaz src] }).2
     rw [← qbn] at this
     dsimp only at this
     rw [n2, this]; omega

theorem QV {x : Sym} : ∀ {l : List Tok} {i : Nat}, (∀ (n : Nat) t, l[n]? = some t → ¬ (t.name = x.name ∧ t.lit = x.lit ∧ i + n ≠ 2)) → QM x l i = -1
 | [], i, _ => rfl
 | t :: r, i, h => by
   unfold QM
   rw [if_neg (by have := h 0 t rfl; simpa using this)]
   exact QV fun n u hu => by have := h (n + 1) u (by simpa using hu); rwa [show i + 1 + n = i + (n + 1) by omega]
theorem YG {x : Sym} : ∀ {l : List Tok} {i n : Nat} {t : Tok}, l[n]? = some t → t.name = x.name → t.lit = x.lit → i + n ≠ 2 → 0 ≤ QM x l i
 | [], i, n, t, h, _, _, _ => by simp at h
 | u :: r, i, n, t, h, h1, h2, h3 => by
   unfold QM
   split
   · omega
   · rename_i hne
     cases n with
     | zero => simp at h; subst h; exact absurd ⟨h1, h2, by omega⟩ hne
     | succ n => exact YG (l := r) (i := i + 1) (n := n) (t := t) (by simpa using h) h1 h2 (by omega)
theorem Yo {n : Int} : ∀ {l : List Tok} {i : Nat}, (∀ t ∈ l, t.num ≠ n) → VI n l i = -1
 | [], i, _ => rfl
 | t :: r, i, h => by
   unfold VI
   rw [if_neg (h t (by simp))]
   exact Yo fun u hu => h u (List.mem_cons_of_mem _ hu)
abbrev core (t : Tok) : List UInt8 × Bool × Int := (t.name, t.lit, t.num)
abbrev qLy (j : Nat) : List UInt8 × Bool × Int := ((yY j).name, true, qch (yY j))
abbrev qcf : List (List UInt8 × Bool × Int) := [([36, 101, 110, 100], false, 0), (qD7, false, -1), ([36, 117, 110, 107], false, -1)]
structure LInv (m : Mk) (js : List Nat) : Prop where
 e : m.e = 0
 toks : m.toks.map core = qcf ++ js.map qLy
 nd : js.Nodup
 lt : ∀ j ∈ js, j < 4
theorem zK {j : Nat} (h : j < 4) : (yY j).name = [UInt8.ofNat (112 + j)] ∧ qch (yY j) = 112 + j := by
 rcases j with _ | _ | _ | _ | j
 · exact ⟨rfl, rfl⟩
 · exact ⟨rfl, rfl⟩
 · exact ⟨rfl, rfl⟩
 · exact ⟨rfl, rfl⟩
 · omega
theorem qmC {i j : Nat} (hi : i < 4) (hj : j < 4) (h : (yY i).name = (yY j).name) : i = j := by
 have h1 := (zK hi).1
 have h2 := (zK hj).1
 rw [h1, h2] at h
 simp only [List.cons.injEq, and_true] at h
 have := congrArg UInt8.toNat h
 simp at this
 omega
theorem LInv.get {m : Mk} {js : List Nat} (h : LInv m js) {n : Nat} {t : Tok} (ht : m.toks[n]? = some t) : (qcf ++ js.map qLy)[n]? = some (core t) := by rw [← h.toks, List.getElem?_map, ht]; rfl
theorem LInv.len {m : Mk} {js : List Nat} (h : LInv m js) : m.toks.length = 3 + js.length := by have := congrArg List.length h.toks; simp at this; omega
theorem LInv.tok_in {m : Mk} {js : List Nat} (h : LInv m js) {j : Nat} (hj : j ∈ js) : 0 ≤ Vt m.toks (yY j) := by
 obtain ⟨i, hi, he⟩ := List.getElem_of_mem hj
 have hl := h.len
 have h3 : m.toks[3 + i]? = some (m.toks[3 + i]'(by omega)) := ge_ (by omega)
 have hg := h.get h3
 rw [List.getElem?_append_right (by simp), show 3 + i - qcf.length = i by simp, List.getElem?_map, ge_ hi, he] at hg
 simp only [Option.map_some, Option.some.injEq, Prod.mk.injEq] at hg
 refine YG (n := 2 + i) (t := m.toks[3 + i]'(by omega)) ?_ hg.1.symm ?_ (by omega)
 · rw [List.getElem?_drop, show 1 + (2 + i) = 3 + i by omega]; exact h3
 · rw [← hg.2.1]
theorem LInv.tok_out {m : Mk} {js : List Nat} (h : LInv m js) {j : Nat} (hj : j ∉ js) (hj4 : j < 4) : Vt m.toks (yY j) = -1 := by
 refine QV fun n t ht => ?_
 rw [List.getElem?_drop] at ht
 have hg := h.get ht
 rintro ⟨h1, h2, h3⟩
 match n, hg with
 | 0, hg => simp at hg; rw [hg.2.1] at h2; cases h2
 | 1, hg => exact absurd rfl h3
 | n + 2, hg =>
   rw [List.getElem?_append_right (by simp; omega), List.getElem?_map] at hg
   cases hq : js[1 + (n + 2) - qcf.length]? with
   | none => rw [hq] at hg; cases hg
   | some q =>
     rw [hq] at hg
     simp only [Option.map_some, Option.some.injEq, Prod.mk.injEq] at hg
     have hqm := List.mem_of_getElem? hq
     have := qmC (h.lt q hqm) hj4 (hg.1.trans h1)
     subst this; exact hj hqm
theorem LInv.own {m : Mk} {js : List Nat} (h : LInv m js) {j : Nat} (hj : j ∉ js) (hj4 : j < 4) : qf8 m.toks (qch (yY j)) = -1 := by
 refine Yo fun t ht e => ?_
 obtain ⟨n, hn⟩ := List.getElem?_of_mem ht
 rw [List.getElem?_drop] at hn
 have hg := h.get hn
 rw [List.getElem?_append_right (by simp), List.getElem?_map] at hg
 cases hq : js[3 + n - qcf.length]? with
 | none => rw [hq] at hg; cases hg
 | some q =>
   rw [hq] at hg
   simp only [Option.map_some, Option.some.injEq, Prod.mk.injEq] at hg
   have hqm := List.mem_of_getElem? hq
   have h4 := h.lt q hqm
   have := (zK h4).2; have := (zK hj4).2
   have : q = j := by omega
   subst this; exact hj hqm
theorem JB (k : Int) : yY k = yY ((k % 4).toNat : Nat) := by
 have h1 := Int.emod_nonneg k (show (4 : Int) ≠ 0 by omega)
 unfold yY
 rw [Int.toNat_of_nonneg h1, Int.emod_emod_of_dvd k (Int.dvd_refl 4)]
theorem LInv.put {m : Mk} {js : List Nat} (h : LInv m js) (k : Int) : ∃ js', LInv (Q7 m (yY k)).1 js' ∧ (∀ j ∈ js, j ∈ js') ∧ ∀ j ∈ js', j ∈ js ∨ j = (k % 4).toNat := by
 have h1 := Int.emod_nonneg k (show (4 : Int) ≠ 0 by omega)
 have h2 := Int.emod_lt_of_pos k (show (0 : Int) < 4 by omega)
 rw [JB k]
 obtain ⟨j, hj⟩ : ∃ j : Nat, (k % 4).toNat = j := ⟨_, rfl⟩
 have hj4 : j < 4 := by omega
 rw [hj]
 unfold Q7
 by_cases hm : j ∈ js
 · rw [if_pos (h.tok_in hm)]
   exact ⟨js, h, fun _ a => a, fun _ a => Or.inl a⟩
 · rw [if_neg (by rw [h.tok_out hm hj4]; omega)]
   dsimp only
   rw [if_neg (by rw [h.own hm hj4]; rintro ⟨_, e⟩; omega)]
   refine ⟨js ++ [j], ⟨h.e, ?_, ?_, fun q hq => ?_⟩, fun q hq => List.mem_append_left _ hq, fun q hq => ?_⟩
   · dsimp only; rw [List.map_append, h.toks, List.map_append, List.append_assoc]; rfl
   · rw [List.nodup_append]
     exact ⟨h.nd, by simp, fun a ha b hb e => by rw [List.mem_singleton] at hb; subst hb; subst e; exact hm ha⟩
   · rcases List.mem_append.1 hq with hq | hq
     · exact h.lt q hq
     · rw [List.mem_singleton] at hq; subst hq; exact hj4
   · rcases List.mem_append.1 hq with hq | hq
     · exact Or.inl hq
     · rw [List.mem_singleton] at hq; exact Or.inr hq
theorem LInv.non {m : Mk} {js : List Nat} (h : LInv m js) {k : Nat} (hk : k < 4) : Vt m.toks { name := Kl k } = -1 := by
 refine QV fun n t ht => ?_
 rw [List.getElem?_drop] at ht
 have hg := h.get ht
 rintro ⟨h1, h2, h3⟩
 match n, hg with
 | 0, hg =>
   simp at hg
   rw [← hg.1] at h1
   have := congrArg List.length h1
   simp [qD7] at this
 | 1, hg => exact absurd rfl h3
 | n + 2, hg =>
   rw [List.getElem?_append_right (by simp; omega), List.getElem?_map] at hg
   cases hq : js[1 + (n + 2) - qcf.length]? with
   | none => rw [hq] at hg; cases hg
   | some q =>
     rw [hq] at hg
     simp only [Option.map_some, Option.some.injEq, Prod.mk.injEq] at hg
     rw [← hg.2.1] at h2; cases h2
def qav (d : Decl) (is : List Nat) : Prop := (2 ≤ d.kind ∧ d.kind ≤ 4) ∧ d.tag = [] ∧ d.syms = (is.map fun i : Nat => yY i) ∧ is ≠ []
theorem LInv.level {m : Mk} {js : List Nat} (h : LInv m js) (n : Int) : LInv { m with level := n } js := ⟨h.e, h.toks, h.nd, h.lt⟩
theorem YF (l : List Int) : ∀ n, n ≤ 4 → ∃ iss : List (List Nat), (zF l n).length = iss.length ∧ (∀ (k : Nat) d is, (zF l n)[k]? = some d → iss[k]? = some is → qav d is) ∧ iss.flatten.Nodup ∧ ∀ i ∈ iss.flatten, i < n := by
 intro n
 induction n with
 | zero => intro _; exact ⟨[], rfl, fun k d is h => by simp [zF] at h, by simp, fun i h => by simp at h⟩
 | succ n ih =>
   intro hn
   obtain ⟨iss, h1, h2, h3, h4⟩ := ih (by omega)
   have hx1 := Int.emod_nonneg (l.getD n 0) (show (8 : Int) ≠ 0 by omega)
   have hx2 := Int.emod_lt_of_pos (l.getD n 0) (show (0 : Int) < 8 by omega)
   have hnn : n ∉ iss.flatten := fun h => by have := h4 n h; omega
   show ∃ iss : List (List Nat), (jQ n (l.getD n 0) (zF l n)).length = iss.length ∧ (∀ (k : Nat) d is, (jQ n (l.getD n 0) (zF l n))[k]? = some d → iss[k]? = some is → qav d is) ∧ iss.flatten.Nodup ∧ ∀ i ∈ iss.flatten, i < n + 1
   unfold jQ
   split
   · exact ⟨iss, h1, h2, h3, fun i hi => by have := h4 i hi; omega⟩
   · rename_i hq
     split
     · rename_i hc
       obtain ⟨o, d, ho⟩ : ∃ o d, zF l n = o ++ [d] := ⟨_, _, (List.dropLast_concat_getLast hc.2).symm⟩
       have hie : iss ≠ [] := fun e => by rw [e, ho] at h1; simp at h1
       obtain ⟨t, u, ht⟩ : ∃ t u, iss = t ++ [u] := ⟨_, _, (List.dropLast_concat_getLast hie).symm⟩
       have hot : o.length = t.length := by rw [ho, ht] at h1; simpa using h1
       refine ⟨t ++ [u ++ [n]], ?_, fun k e is a b => ?_, ?_, fun i hi => ?_⟩
       · rw [ho, vU]; simp [hot]
       · rw [ho, vU] at a
         by_cases hk : k < o.length
         · rw [List.getElem?_append_left hk] at a
           rw [List.getElem?_append_left (by omega)] at b
           exact h2 k e is (by rw [ho, List.getElem?_append_left hk]; exact a) (by rw [ht, List.getElem?_append_left (by omega)]; exact b)
         · by_cases hk2 : k = o.length
           · subst hk2
             rw [List.getElem?_append_right (Nat.le_refl _)] at a
             rw [hot, List.getElem?_append_right (Nat.le_refl _)] at b
             simp at a b
             subst a b
             obtain ⟨q1, q2, q3, q4⟩ := h2 o.length d u (by rw [ho]; simp) (by rw [ht, hot]; simp)
             exact ⟨q1, q2, by dsimp only; rw [q3, List.map_append]; rfl, by simp⟩
           · rw [List.getElem?_eq_none (by simp; omega)] at a; cases a
       · rw [ht] at h3 hnn
         simp only [List.flatten_append, List.flatten_cons, List.flatten_nil, List.append_nil, ← List.append_assoc] at h3 hnn ⊢
         rw [List.nodup_append]
         exact ⟨h3, by simp, fun a ha b hb e => by rw [List.mem_singleton] at hb; subst hb; subst e; exact hnn ha⟩
       · simp only [List.flatten_append, List.flatten_cons, List.flatten_nil, List.append_nil, ← List.append_assoc] at hi
         rcases List.mem_append.1 hi with hi | hi
         · have hlt := h4 i (by rw [ht]; simpa using hi)
           omega
         · rw [List.mem_singleton] at hi; omega
     · refine ⟨iss ++ [[n]], by simp [h1], fun k e is a b => ?_, ?_, fun i hi => ?_⟩
       · by_cases hk : k < (zF l n).length
         · rw [List.getElem?_append_left hk] at a
           rw [List.getElem?_append_left (by omega)] at b
           exact h2 k e is a b
         · by_cases hk2 : k = (zF l n).length
           · subst hk2
             rw [List.getElem?_append_right (Nat.le_refl _)] at a
             rw [h1, List.getElem?_append_right (Nat.le_refl _)] at b
             simp only [Nat.sub_self, List.getElem?_cons_zero, Option.some.injEq] at a b
             subst a b
             have hb : 2 ≤ 1 + l.getD n 0 % 8 % 4 ∧ 1 + l.getD n 0 % 8 % 4 ≤ 4 := by omega
             exact ⟨hb, rfl, rfl, by simp⟩
           · rw [List.getElem?_eq_none (by simp; omega)] at a; cases a
       · rw [List.flatten_append]
         simp only [List.flatten_cons, List.flatten_nil, List.append_nil]
         rw [List.nodup_append]
         exact ⟨h3, by simp, fun a ha b hb e => by rw [List.mem_singleton] at hb; subst hb; subst e; exact hnn ha⟩
       · rw [List.flatten_append] at hi
         rcases List.mem_append.1 hi with hi | hi
         · have := h4 i hi; omega
         · simp at hi; omega

def qcP (lefts : List (List UInt8)) (x : Sym) : Prop := (∃ k : Int, x = yY k) ∨ (x.lit = false ∧ x.name ∈ lefts) ∨ x = { name := qD7 }
def JP : List Part → Nat
 | [] => 0
 | w :: r => (if w.code ≠ [] ∧ r ≠ [] then 1 else 0) + JP r
def qmU (lefts : List (List UInt8)) (a : Alt) : Prop := (∀ w ∈ a.parts, w.code ≠ [] ∨ qcP lefts w.sym) ∧ a.prec = {} ∧ JP a.parts ≤ 1 ∧ a.parts.length ≤ 6
theorem kM : ∀ (n : Nat) (l : List Nat), l.Nodup → (∀ x ∈ l, x < n) → l.length ≤ n
 | 0, l, _, h => by
   cases l with
   | nil => simp
   | cons a r => have := h a (by simp); omega
 | n + 1, l, hn, h => by
   by_cases hm : n ∈ l
   · have h1 := kM n (l.erase n) (hn.erase n) (fun x hx => by
      have := h x (List.mem_of_mem_erase hx)
      have hne : x ≠ n := fun e => by subst e; exact (List.Nodup.mem_erase_iff hn).1 hx |>.1 rfl
      omega)
     rw [List.length_erase_of_mem hm] at h1
     omega
   · have h1 := kM n l hn (fun x hx => by
      have := h x hx
      have hne : x ≠ n := fun e => by subst e; exact hm hx
      omega)
     omega

theorem qbC (x : GrI) : 1 ≤ yX x ∧ yX x ≤ 4 := by unfold yX; omega
def jf (l : List Part) : Nat := (l.filter fun w => !decide (w.code = [])).length
theorem Yu (l m : List Part) : jf (l ++ m) = jf l + jf m := by simp [jf]
theorem Kq : ∀ (l : List Part), JP l ≤ jf l
 | [] => Nat.le_refl _
 | w :: r => by
   have := Kq r
   have e : jf (w :: r) = (if w.code = [] then 0 else 1) + jf r := by
    unfold jf; rw [List.filter_cons]; by_cases h : w.code = [] <;> simp [h]; omega
   unfold JP; rw [e]
   by_cases h : w.code = []
   · simp [h]; exact this
   · rw [if_neg h]; split <;> omega
theorem Xu : ∀ (l : List Part) (w : Part), JP (l ++ [w]) ≤ jf l
 | [], w => by simp [JP]
 | v :: r, w => by
   have := Xu r w
   have e : jf (v :: r) = (if v.code = [] then 0 else 1) + jf r := by
    unfold jf; rw [List.filter_cons]; by_cases h : v.code = [] <;> simp [h]; omega
   show (if v.code ≠ [] ∧ (r ++ [w]) ≠ [] then 1 else 0) + JP (r ++ [w]) ≤ _
   rw [e]
   by_cases h : v.code = []
   · simp [h]; exact this
   · rw [if_neg h]; split <;> omega
theorem VS (l : List Int) (n : Nat) (mid : Bool) (j : Nat) : jf (jw l n mid j) ≤ 1 ∧ (jw l n mid j).length ≤ j + 1 ∧ (j = 0 → jw l n mid j = []) := by
 induction j with
 | zero => exact ⟨by simp [jw, jf], by simp [jw], fun _ => rfl⟩
 | succ j ih =>
   obtain ⟨h1, h2, h3⟩ := ih
   unfold jw
   refine ⟨?_, ?_, fun h => by omega⟩
   · rw [Yu, Yu]
     have e1 : jf [({ sym := qe1 l n (j + 1) } : Part)] = 0 := by simp [jf]
     rw [e1]
     by_cases hj : j = 0
     · rw [h3 hj]
       split <;> simp [jf, Qe]
     · rw [if_neg (fun e => hj e.1)]
       simp [jf] at h1 ⊢; exact h1
   · rw [List.length_append, List.length_append]
     by_cases hj : j = 0
     · rw [h3 hj]; split <;> simp [hj]
     · rw [if_neg (fun e => hj e.1)]; simp; exact h2
theorem Yt {l : List Int} {n : Nat} {mid : Bool} {w : Part} : ∀ {j : Nat}, w ∈ jw l n mid j → (∃ y : Int, w = { sym := Yg y n }) ∨ w = { code := Qe }
 | 0, h => by cases h
 | j + 1, h => by
   unfold jw at h
   rcases List.mem_append.1 h with h | h
   · rcases List.mem_append.1 h with h | h
     · exact Yt h
     · rw [List.mem_singleton] at h; exact Or.inl ⟨_, h⟩
   · split at h
     · rw [List.mem_singleton] at h; exact Or.inr h
     · cases h
theorem Y9 {l inner : List Int} {n i : Nat} {w : Part} (h : w ∈ (qb8 l n inner i).parts) : (∃ y : Int, w = { sym := Yg y n }) ∨ w = { code := Qe } ∨ w = { code := Xh } := by
 unfold qb8 at h
 dsimp only at h
 rcases List.mem_append.1 h with h | h
 · rcases Yt h with h | h
   · exact Or.inl h
   · exact Or.inr (Or.inl h)
 · split at h
   · rw [List.mem_singleton] at h; exact Or.inr (Or.inr h)
   · cases h
theorem qdp {lefts : List (List UInt8)} {n : Nat} (hn : 0 < n) (hl : ∀ k : Nat, k < n → Kl k ∈ lefts) (y : Int) : qcP lefts (Yg y n) := by
 have e1 := Int.emod_nonneg y (show (14 : Int) ≠ 0 by omega)
 have e3 := Int.emod_lt_of_pos (y % 14) (show (0 : Int) < n by omega)
 have e4 := Int.emod_nonneg (y % 14) (show (n : Int) ≠ 0 by omega)
 unfold Yg
 split
 · have := hl (y % 14 % n).toNat (by omega)
   rw [Int.toNat_of_nonneg e4] at this
   exact Or.inr (Or.inl ⟨rfl, this⟩)
 · split
   · exact Or.inr (Or.inr rfl)
   · exact Or.inl ⟨_, rfl⟩
theorem VO {lefts : List (List UInt8)} {n : Nat} (hn : 0 < n) (hl : ∀ k : Nat, k < n → Kl k ∈ lefts) (l inner : List Int) (i : Nat) : qmU lefts (qb8 l n inner i) := by
 obtain ⟨h1, h2, _⟩ := VS l n (qcp inner i) (min 4 (l.length - 1))
 refine ⟨fun w hw => ?_, rfl, ?_, ?_⟩
 · rcases Y9 hw with ⟨y, rfl⟩ | rfl | rfl
   · exact Or.inr (qdp hn hl y)
   · exact Or.inl (by simp [Qe])
   · exact Or.inl (by simp [Xh])
 · unfold qb8; dsimp only
   split
   · exact Nat.le_trans (Xu _ _) h1
   · rw [List.append_nil]; exact Nat.le_trans (Kq _) h1
 · unfold qb8; dsimp only
   rw [List.length_append]
   split <;> simp <;> omega
theorem xQ {x : GrI} {n : Nat} : ∀ {i k : Nat} {a : Alt}, a ∈ (zk x n i).1 k → ∃ l j, a = qb8 l n x.inner j
 | 0, k, a, h => by cases h
 | i + 1, k, a, h => by
   unfold zk vF at h
   dsimp only at h
   split at h
   · exact xQ h
   · unfold qC at h
     dsimp only at h
     split at h
     · rcases List.mem_append.1 h with h | h
       · exact xQ h
       · rw [List.mem_singleton] at h; exact ⟨_, _, h⟩
     · exact xQ h
theorem qa9 {x : GrI} {n i k : Nat} {a : Alt} (h : a ∈ JJ x.bare (zk x n i) k) : (∃ l j, a = qb8 l n x.inner j) ∨ a = { parts := [{ sym := yY k }] } := by
 unfold JJ at h
 split at h
 · rcases List.mem_append.1 h with h | h
   · exact Or.inl (xQ h)
   · rw [List.mem_singleton] at h; exact Or.inr h
 · exact Or.inl (xQ h)
theorem qfZ {n : Nat} (hn : 0 < n) (hn4 : n ≤ 4) (y : Int) : KS (Yg y n) false true = true := by
 have e1 := Int.emod_nonneg y (show (14 : Int) ≠ 0 by omega)
 have e3 := Int.emod_lt_of_pos (y % 14) (show (0 : Int) < n by omega)
 have e4 := Int.emod_nonneg (y % 14) (show (n : Int) ≠ 0 by omega)
 have hN : ∀ k : Nat, k < 4 → KS { name := Kl k } false true = true := by decide
 have hL : ∀ k : Nat, k < 4 → KS (yY k) false true = true := by decide
 unfold Yg
 split
 · have := hN (y % 14 % n).toNat (by omega)
   rw [Int.toNat_of_nonneg e4] at this; exact this
 · split
   · decide
   · rw [JB]; exact hL _ (by omega)
theorem Zg : ∀ {iss : List (List Nat)}, iss.flatten.Nodup → ∀ is ∈ iss, is.Nodup
 | [], _, is, h => by cases h
 | a :: r, hn, is, h => by
   rw [List.flatten_cons, List.nodup_append] at hn
   rcases List.mem_cons.1 h with rfl | h
   · exact hn.1
   · exact Zg hn.2.1 is h
theorem Zp (x : GrI) : (zn x).Fits := by
 obtain ⟨h1, h2⟩ := qbC x
 obtain ⟨iss, d1, d2, d3, d4⟩ := YF x.levels (min 4 x.levels.length) (by omega)
 have hlen : (yR x.levels).length ≤ 4 := by
  have h5 : iss.length ≤ iss.flatten.length := by
   have hne : ∀ is ∈ iss, is ≠ [] := fun is hi => by
    obtain ⟨k, hk⟩ := List.getElem?_of_mem hi
    obtain ⟨d, hd⟩ : ∃ d, (zF x.levels (min 4 x.levels.length))[k]? = some d := ⟨_, ge_ (by have := (List.getElem?_eq_some_iff.1 hk).1; omega)⟩
    exact (d2 k d is hd hk).2.2.2
   clear d1 d2 d3 d4
   induction iss with
   | nil => simp
   | cons a r ih =>
     have := ih fun is hi => hne is (List.mem_cons_of_mem _ hi)
     have ha := List.length_pos_iff.2 (hne a (by simp))
     rw [List.flatten_cons, List.length_append, List.length_cons]; omega
  have h6 := kM (min 4 x.levels.length) _ d3 d4
  show (zF x.levels (min 4 x.levels.length)).length ≤ 4
  omega
 refine ⟨by simp [zn], by simp [zn], by show (yR x.levels).length ≤ _; omega, fun d hd => ?_, by simp [zn]; omega, fun r hr => ?_⟩
 · obtain ⟨k, hk⟩ := List.getElem?_of_mem hd
   have hki : k < iss.length := by have h3 := (List.getElem?_eq_some_iff.1 hk).1; unfold zn yR at h3; dsimp only at h3; omega
   obtain ⟨q1, q2, q3, q4⟩ := d2 k d iss[k] hk (ge_ hki)
   have h6 : iss[k].length ≤ 4 := kM 4 _ (Zg d3 _ (List.getElem_mem hki)) (fun i hi => by have := d4 i (List.mem_flatten.2 ⟨_, List.getElem_mem hki, hi⟩); omega)
   refine ⟨by simp [q2], by rw [q3, List.length_map]; omega, fun y hy => ?_⟩
   rw [q3] at hy
   obtain ⟨i, hi, rfl⟩ := List.mem_map.1 hy
   have hi4 := d4 i (List.mem_flatten.2 ⟨_, List.getElem_mem hki, hi⟩)
   rw [(zK (show i < 4 by omega)).1]; simp
 · obtain ⟨k, hk, rfl⟩ := List.mem_map.1 hr
   have hkn := List.mem_range.1 hk
   have hfl : (JJ x.bare (zk x (yX x) (min 9 x.rules.length)) k).length ≤ 20 := by
    have := kE x (yX x) (min 9 x.rules.length) k
    unfold JJ; split <;> simp <;> omega
   have hsn : ∀ y : Int, (Yg y (yX x)).name.length ≤ 5 := fun y => by
    have hg := qfZ (n := yX x) (by omega) (by omega) y
    unfold Yg
    split
    · simp
    · split
      · simp
      · rw [JB, (zK (show ((y % 14 - 5) % 4).toNat < 4 by omega)).1]; simp
   refine ⟨by simp, by dsimp only; omega, fun a ha => ?_⟩
   rcases qa9 ha with ⟨l, j, rfl⟩ | rfl
   · obtain ⟨_, _, _, g4⟩ := VO (lefts := (List.range (yX x)).map fun k : Nat => Kl k) (n := yX x) (by omega) (fun k hk => List.mem_map.2 ⟨k, List.mem_range.2 hk, rfl⟩) l x.inner j
     refine ⟨by omega, fun w hw => ?_, by simp [qb8]⟩
     rcases Y9 hw with ⟨y, rfl⟩ | rfl | rfl
     · exact ⟨by have := hsn y; dsimp only; omega, by simp⟩
     · exact ⟨by simp, by simp [Qe]⟩
     · exact ⟨by simp, by simp [Xh]⟩
   · refine ⟨by simp, fun w hw => ?_, by simp⟩
     rw [List.mem_singleton] at hw; subst hw
     rw [Part.Fits, (zK (show k < 4 by omega)).1]; simp
theorem Vp (x : GrI) : Small (zn x) := by
 obtain ⟨h1, h2⟩ := qbC x
 obtain ⟨f1, f2, f3, f4, f5, f6⟩ := Zp x
 obtain ⟨iss, d1, d2, d3, d4⟩ := YF x.levels (min 4 x.levels.length) (by omega)
 have hd : ∀ d ∈ (zn x).decls, ∃ is : List Nat, qav d is ∧ is.length ≤ 4 ∧ ∀ i ∈ is, i < 4 := fun d hd => by
  obtain ⟨k, hk⟩ := List.getElem?_of_mem hd
  have hki : k < iss.length := by have h3 := (List.getElem?_eq_some_iff.1 hk).1; unfold zn yR at h3; dsimp only at h3; omega
  have hi4 : ∀ i ∈ iss[k], i < 4 := fun i hi => by have := d4 i (List.mem_flatten.2 ⟨_, List.getElem_mem hki, hi⟩); omega
  exact ⟨iss[k], d2 k d iss[k] hk (ge_ hki), kM 4 _ (Zg d3 _ (List.getElem_mem hki)) hi4, hi4⟩
 have hlen : (zn x).decls.length ≤ 4 := by
  have h5 : iss.length ≤ iss.flatten.length := by
   have hne : ∀ is ∈ iss, is ≠ [] := fun is hi => by
    obtain ⟨k, hk⟩ := List.getElem?_of_mem hi
    obtain ⟨d, hd⟩ : ∃ d, (zF x.levels (min 4 x.levels.length))[k]? = some d := ⟨_, ge_ (by have := (List.getElem?_eq_some_iff.1 hk).1; omega)⟩
    exact (d2 k d is hd hk).2.2.2
   clear d1 d2 d3 d4
   induction iss with
   | nil => simp
   | cons a r ih =>
     have := ih fun is hi => hne is (List.mem_cons_of_mem _ hi)
     have ha := List.length_pos_iff.2 (hne a (by simp))
     rw [List.flatten_cons, List.length_append, List.length_cons]; omega
  have h6 := kM (min 4 x.levels.length) _ d3 d4
  show (zF x.levels (min 4 x.levels.length)).length ≤ 4
  omega
 have hsn : ∀ y : Int, (Yg y (yX x)).lit = true → (Yg y (yX x)).name ≠ [] := fun y => by
  unfold Yg
  split
  · intro e; cases e
  · split
    · intro e; cases e
    · intro _; rw [JB, (zK (show ((y % 14 - 5) % 4).toNat < 4 by omega)).1]; simp
 have ha : ∀ r ∈ (zn x).rules, r.alts.length ≤ 20 ∧ ∀ a ∈ r.alts, a.parts.length ≤ 6 ∧ a.prec = {} ∧ ∀ w ∈ a.parts, w.sym.lit = true → w.sym.name ≠ [] := fun r hr => by
  obtain ⟨k, hk, rfl⟩ := List.mem_map.1 hr
  have hkn := List.mem_range.1 hk
  refine ⟨?_, fun a ha => ?_⟩
  · have := kE x (yX x) (min 9 x.rules.length) k
    dsimp only
    unfold JJ; split <;> simp <;> omega
  · rcases qa9 ha with ⟨l, j, rfl⟩ | rfl
    · obtain ⟨_, g2, _, g4⟩ := VO (lefts := (List.range (yX x)).map fun k : Nat => Kl k) (n := yX x) (by omega) (fun k hk => List.mem_map.2 ⟨k, List.mem_range.2 hk, rfl⟩) l x.inner j
      refine ⟨g4, g2, fun w hw => ?_⟩
      rcases Y9 hw with ⟨y, rfl⟩ | rfl | rfl
      · exact hsn y
      · intro e; cases e
      · intro e; cases e
    · refine ⟨by simp, rfl, fun w hw _ => ?_⟩
      rw [List.mem_singleton] at hw; subst hw
      rw [(zK (show k < 4 by omega)).1]; simp
 refine ⟨by omega, fun d h => ?_, fun d h => ?_, fun d h y hy _ => ?_, ?_, fun r hr => ?_, fun r hr a h => ?_, fun r hr a h w hw => ?_, fun r hr a h e => ?_⟩
 · obtain ⟨is, ⟨q1, q2, q3, q4⟩, h5, h6⟩ := hd d h
   rw [q3, List.length_map]; omega
 · obtain ⟨is, ⟨q1, q2, q3, q4⟩, h5, h6⟩ := hd d h
   omega
 · obtain ⟨is, ⟨q1, q2, q3, q4⟩, h5, h6⟩ := hd d h
   rw [q3] at hy
   obtain ⟨i, hi, rfl⟩ := List.mem_map.1 hy
   rw [(zK (h6 i hi)).1]; simp
 · simp [zn]; omega
 · have := (ha r hr).1; omega
 · have := ((ha r hr).2 a h).1; omega
 · exact ((ha r hr).2 a h).2.2 w hw
 · rw [((ha r hr).2 a h).2.1] at e; cases e
end Go.Proofs
