/- Part of a proof that a law of the given program answers true. -/
import Derived.Test.YtpnfbnlhjdnnpaaDoorYPG
import Derived.Test.YtpnfbnlhjdnnpaaDoorYJB
set_option linter.unusedSimpArgs false
set_option linter.unusedVariables false
namespace Go.Proofs
open Go.E
def SymIn (nt nn : Nat) (s : Int) : Prop := (∃ t : Nat, s = t ∧ t < nt) ∨ ∃ k : Nat, s = 1000 + (k : Int) ∧ k < nn
structure GOk (g : Grammar) : Prop where
 tk : 3 ≤ g.toks.length
 tk2 : g.toks.length ≤ 40
 nn : 1 ≤ g.nons.length
 nn2 : g.nons.length ≤ 24
 pl : 1 ≤ g.prods.length
 pl2 : g.prods.length ≤ 60
 left : ∀ p ∈ g.prods, ∃ l : Nat, p.left = l ∧ l < g.nons.length
 rlen : ∀ p ∈ g.prods, p.right.length ≤ 8
 right : ∀ p ∈ g.prods, ∀ s ∈ p.right, SymIn g.toks.length g.nons.length s
 prec : ∀ p ∈ g.prods, p.prec = -1 ∨ ∃ t : Nat, p.prec = t ∧ t < g.toks.length
 head : ∃ p r, g.prods = p :: r ∧ p.left = 0 ∧ (∃ k : Nat, p.right = [1000 + (k : Int)] ∧ k < g.nons.length)
structure MInv (m : Mk) : Prop where
 tk : 3 ≤ m.toks.length
 inn : 0 ≤ m.inner
 left : ∀ p ∈ m.prods, 0 ≤ p.left ∧ p.left ≤ m.lefts.length + m.inner
 right : ∀ p ∈ m.prods, ∀ s ∈ p.right, SymIn m.toks.length (1 + m.lefts.length + m.inner.toNat) s
 prec : ∀ p ∈ m.prods, p.prec = -1 ∨ (0 ≤ p.prec ∧ p.prec < m.toks.length)
theorem SymIn.mono {a b a' b' : Nat} {s : Int} (h : SymIn a b s) (h1 : a ≤ a') (h2 : b ≤ b') : SymIn a' b' s := by
 rcases h with ⟨t, e, l⟩ | ⟨k, e, l⟩
 · exact Or.inl ⟨t, e, by omega⟩
 · exact Or.inr ⟨k, e, by omega⟩
theorem MInv.up {m m' : Mk} (h : MInv m) (hp : m'.prods = m.prods) (ht : m.toks.length ≤ m'.toks.length) (hl : m'.lefts = m.lefts) (hi : m.inner ≤ m'.inner) : MInv m' := by
 have := h.inn
 refine ⟨by have := h.tk; omega, by omega, fun p hq => ?_, fun p hq s hs => ?_, fun p hq => ?_⟩
 · rw [hp] at hq; have := h.left p hq; rw [hl]; omega
 · rw [hp] at hq; rw [hl]; exact (h.right p hq s hs).mono ht (by omega)
 · rw [hp] at hq
   rcases h.prec p hq with h | ⟨h1, h2⟩
   · exact Or.inl h
   · exact Or.inr ⟨h1, by omega⟩
theorem MInv.put {m : Mk} (h : MInv m) {p : GPr} (h1 : 0 ≤ p.left ∧ p.left ≤ m.lefts.length + m.inner) (h2 : ∀ s ∈ p.right, SymIn m.toks.length (1 + m.lefts.length + m.inner.toNat) s) (h3 : p.prec = -1 ∨ (0 ≤ p.prec ∧ p.prec < m.toks.length)) : MInv { m with prods := m.prods ++ [p] } := by
 refine ⟨h.tk, h.inn, fun q hq => ?_, fun q hq => ?_, fun q hq => ?_⟩ <;> rcases List.mem_append.1 hq with hq | hq
 · exact h.left q hq
 · rw [List.mem_singleton] at hq; subst hq; exact h1
 · exact h.right q hq
 · rw [List.mem_singleton] at hq; subst hq; exact h2
 · exact h.prec q hq
 · rw [List.mem_singleton] at hq; subst hq; exact h3
theorem symM_in {m : Mk} (x : Sym) (ht : 3 ≤ m.toks.length) (hi : 0 ≤ m.inner) : SymIn (symM m x).1.toks.length (1 + m.lefts.length + m.inner.toNat) (symM m x).2 ∧ (x.lit = true ∨ leftGo x.name m.lefts 0 < 0 → 0 ≤ (symM m x).2 ∧ (symM m x).2 < (symM m x).1.toks.length) := by
 have hb := putM_bd m x (by omega)
 have hl := leftGo_bd x.name m.lefts 0
 have htk := tokM_bd x m.toks (by omega)
 have hf := (failM_f m x.at_ x.name).1
 have tokI : ∀ {n : Nat} {s : Int}, 0 ≤ s → s < n → SymIn n (1 + m.lefts.length + m.inner.toNat) s := fun h1 h2 => Or.inl ⟨_, (Int.toNat_of_nonneg h1).symm, by omega⟩
 unfold symM
 split
 · exact ⟨tokI hb.1 hb.2, fun _ => hb⟩
 · rename_i hx
   split
   · rename_i h0
     refine ⟨Or.inr ⟨(1 + leftGo x.name m.lefts 0).toNat, by dsimp only; omega, by omega⟩, fun h => ?_⟩
     rcases h with h | h
     · exact absurd h hx
     · omega
   · split
     · dsimp only; rw [hf]
       exact ⟨tokI (by omega) (by omega), fun _ => ⟨by omega, by omega⟩⟩
     · dsimp only; exact ⟨tokI (by omega) (by omega), fun _ => ⟨by omega, by omega⟩⟩
theorem altGo_in : ∀ (l : List Part) (m : Mk) (p : GPr), MInv m → (∀ s ∈ p.right, SymIn m.toks.length (1 + m.lefts.length + m.inner.toNat) s) → MInv (altGo l (m, p)).1 ∧ ∀ s ∈ (altGo l (m, p)).2.right, SymIn (altGo l (m, p)).1.toks.length (1 + (altGo l (m, p)).1.lefts.length + (altGo l (m, p)).1.inner.toNat) s
 | [], m, p, h, hp => by rw [altGo_nil]; exact ⟨h, hp⟩
 | w :: r, m, p, h, hp => by
   rw [altGo_cons]
   obtain ⟨y1, y2, y3, y4, y5, y6, y7, y8⟩ := symM_f m w.sym
   have hs := (symM_in w.sym h.tk h.inn).1
   have hi := h.inn
   split
   · refine altGo_in r _ _ (h.up y3 y7 y2 (by omega)) fun s hs2 => ?_
     rw [y2, y6]
     rcases List.mem_append.1 hs2 with hs2 | hs2
     · exact (hp s hs2).mono y7 (Nat.le_refl _)
     · rw [List.mem_singleton] at hs2; subst hs2; exact hs
   · split
     · exact ⟨h, hp⟩
     · refine altGo_in r _ _ ?_ fun s hs2 => ?_
       · refine (h.up (m' := { m with inner := m.inner + 1 }) rfl (Nat.le_refl _) rfl (by dsimp only; omega)).put ⟨by dsimp only; omega, by dsimp only; omega⟩ (fun s hs2 => by cases hs2) (Or.inl rfl)
       · dsimp only at hs2 ⊢
         rcases List.mem_append.1 hs2 with hs2 | hs2
         · exact (hp s hs2).mono (Nat.le_refl _) (by omega)
         · rw [List.mem_singleton] at hs2
           exact Or.inr ⟨m.lefts.length + (m.inner + 1).toNat, by rw [hs2]; omega, by omega⟩
theorem precGo_in (n : Nat) : ∀ (l : List Int) (p : Int), (∀ s ∈ l, 0 ≤ s ∧ (s < 1000 → s < n)) → (p = -1 ∨ (0 ≤ p ∧ p < n)) → (precGo l p = -1 ∨ (0 ≤ precGo l p ∧ precGo l p < n))
 | [], p, _, hp => hp
 | x :: r, p, h, hp => by
   rw [precGo]
   refine precGo_in n r _ (fun s hs => h s (List.mem_cons_of_mem _ hs)) ?_
   split
   · rename_i hx; have := h x (by simp); exact Or.inr ⟨this.1, this.2 hx⟩
   · exact hp
theorem altM_in {m : Mk} (n : List UInt8) (a : Alt) (h : MInv m) : MInv (altM m n a) := by
 have hl := leftGo_bd n m.lefts 0
 obtain ⟨g1, g2, g3, g4, g5, g6, g7, g8, g9, g10⟩ := altGo_f a.parts m { left := 1 + leftGo n m.lefts 0, prec := -1, at_ := a.at_ }
 obtain ⟨h1, h2⟩ := altGo_in a.parts m { left := 1 + leftGo n m.lefts 0, prec := -1, at_ := a.at_ } h (fun s hs => by cases hs)
 have hi := h.inn
 unfold altM
 dsimp only
 generalize altGo a.parts (m, { left := 1 + leftGo n m.lefts 0, prec := -1, at_ := a.at_ }) = q at *
 have hlf : 0 ≤ q.2.left ∧ q.2.left ≤ q.1.lefts.length + q.1.inner := by rw [g5, g1]; dsimp only; omega
 obtain ⟨ff1, ff2, ff3, ff4, ff5, ff6, ff7, ff8⟩ := failM_f q.1 a.prec.at_ a.prec.name
 split
 · split
   · rename_i hc
     obtain ⟨y1, y2, y3, y4, y5, y6, y7, y8⟩ := symM_f q.1 a.prec
     have hs := (symM_in a.prec h1.tk h1.inn).2 (by rcases hc with hc | hc <;> simp [hc])
     refine (h1.up y3 y7 y2 (by omega)).put (by rw [y2, y6]; exact hlf) (fun s hs2 => ?_) (Or.inr hs)
     rw [y2, y6]; exact (h2 s hs2).mono y7 (Nat.le_refl _)
   · refine (h1.up (m' := failM q.1 a.prec.at_ a.prec.name) ff5 (by rw [ff1]; omega) ff3 (by omega)).put (p := { q.2 with prec := -1, args := q.2.right }) (by rw [ff3, ff8]; exact hlf) (fun s hs2 => by rw [ff1, ff3, ff8]; exact h2 s hs2) (Or.inl rfl) |> fun hh => ?_
     rw [ff5] at hh
     exact hh
 · refine h1.put hlf h2 ?_
   refine precGo_in _ _ _ (fun s hs => ?_) (Or.inl rfl)
   rcases h2 s hs with ⟨t, e, l⟩ | ⟨k, e, l⟩
   · exact ⟨by omega, fun _ => by omega⟩
   · exact ⟨by omega, fun _ => by omega⟩
theorem altsGo_in (n : List UInt8) : ∀ (l : List Alt) (m : Mk), MInv m → MInv (altsGo n l m)
 | [], m, h => h
 | a :: r, m, h => by rw [altsGo_cons]; exact altsGo_in n r _ (altM_in n a h)
theorem rulGo_in : ∀ (l : List Rule) (m : Mk), MInv m → MInv (rulGo l m)
 | [], m, h => h
 | r :: l, m, h => by rw [rulGo_cons]; exact rulGo_in l _ (altsGo_in r.left r.alts m h)
def HdP (P : GPr) (m : Mk) : Prop := ∃ r, m.prods = P :: r
theorem altGo_hd (P : GPr) : ∀ (l : List Part) (m : Mk) (p : GPr), HdP P m → HdP P (altGo l (m, p)).1
 | [], m, p, h => h
 | w :: r, m, p, h => by
   rw [altGo_cons]
   obtain ⟨y1, y2, y3, y4, y5, y6, y7, y8⟩ := symM_f m w.sym
   obtain ⟨t, ht⟩ := h
   split
   · exact altGo_hd P r _ _ ⟨t, by rw [y3]; exact ht⟩
   · split
     · exact ⟨t, ht⟩
     · exact altGo_hd P r _ _ ⟨_, by dsimp only; rw [ht]; rfl⟩
theorem altM_hd (P : GPr) {m : Mk} (n : List UInt8) (a : Alt) (h : HdP P m) : HdP P (altM m n a) := by
 have h1 := altGo_hd P a.parts m { left := 1 + leftGo n m.lefts 0, prec := -1, at_ := a.at_ } h
 unfold altM
 dsimp only
 generalize altGo a.parts (m, { left := 1 + leftGo n m.lefts 0, prec := -1, at_ := a.at_ }) = q at *
 obtain ⟨t, ht⟩ := h1
 obtain ⟨y1, y2, y3, y4, y5, y6, y7, y8⟩ := symM_f q.1 a.prec
 split
 · split
   · exact ⟨_, by dsimp only; rw [y3, ht]; rfl⟩
   · exact ⟨_, by dsimp only; rw [ht]; rfl⟩
 · exact ⟨_, by dsimp only; rw [ht]; rfl⟩
theorem altsGo_hd (P : GPr) (n : List UInt8) : ∀ (l : List Alt) (m : Mk), HdP P m → HdP P (altsGo n l m)
 | [], m, h => h
 | a :: r, m, h => by rw [altsGo_cons]; exact altsGo_hd P n r _ (altM_hd P n a h)
theorem rulGo_hd (P : GPr) : ∀ (l : List Rule) (m : Mk), HdP P m → HdP P (rulGo l m)
 | [], m, h => h
 | r :: l, m, h => by rw [rulGo_cons]; exact rulGo_hd P l _ (altsGo_hd P r.left r.alts m h)
theorem numIx_len (g : List Bool) : ∀ (f i : Nat) (l : List Tok) (n : Int), (numIx g f i (l, n)).1.length = l.length
 | 0, i, l, n => rfl
 | f + 1, i, l, n => by
   rw [numIx_succ]; split
   · exact numIx_len g f _ _ _
   · rw [numIx_len]; simp
theorem synGo_k (d : Decl) : ∀ (l : List Sym) (m : Mk) (st : List UInt8), SameM m (synGo d l (m, st)).1 ∧ m.toks.length ≤ (synGo d l (m, st)).1.toks.length
 | [], m, st => ⟨⟨rfl, rfl, rfl, rfl⟩, Nat.le_refl _⟩
 | x :: r, m, st => by
   rw [synGo_cons]
   obtain ⟨⟨a1, a2, a3, a4⟩, _, h2, _⟩ := declM_f m d x
   obtain ⟨ff1, ff2, ff3, ff4, ff5, ff6, ff7, ff8⟩ := failM_f m x.at_ x.name
   split
   · obtain ⟨⟨b1, b2, b3, b4⟩, k2⟩ := synGo_k d r (declM m d x) st
     exact ⟨⟨b1.trans a1, b2.trans a2, b3.trans a3, b4.trans a4⟩, by omega⟩
   · have key : ∀ m', SameM m m' → m.toks.length ≤ m'.toks.length → SameM m (synGo d r (m', x.name)).1 ∧ m.toks.length ≤ (synGo d r (m', x.name)).1.toks.length := fun m' hm ht => by
      obtain ⟨⟨b1, b2, b3, b4⟩, k2⟩ := synGo_k d r m' x.name
      exact ⟨⟨b1.trans hm.1, b2.trans hm.2.1, b3.trans hm.2.2.1, b4.trans hm.2.2.2⟩, by omega⟩
     split
     · exact key _ ⟨ff3, ff5, ff6, ff8⟩ (by rw [ff1]; omega)
     · exact key _ ⟨rfl, rfl, rfl, rfl⟩ (Nat.le_refl _)
theorem decGo_k : ∀ (l : List Decl) (m : Mk) (st : List UInt8), SameM m (decGo l (m, st)).1 ∧ m.toks.length ≤ (decGo l (m, st)).1.toks.length
 | [], m, st => ⟨⟨rfl, rfl, rfl, rfl⟩, Nat.le_refl _⟩
 | d :: r, m, st => by
   rw [decGo_cons]
   have key : ∀ m', SameM m m' → m.toks.length ≤ m'.toks.length → SameM m (decGo r (synGo d d.syms (m', st))).1 ∧ m.toks.length ≤ (decGo r (synGo d d.syms (m', st))).1.toks.length := fun m' hm ht => by
    obtain ⟨⟨a1, a2, a3, a4⟩, k1⟩ := synGo_k d d.syms m' st
    obtain ⟨⟨b1, b2, b3, b4⟩, k2⟩ := decGo_k r (synGo d d.syms (m', st)).1 (synGo d d.syms (m', st)).2
    exact ⟨⟨b1.trans (a1.trans hm.1), b2.trans (a2.trans hm.2.1), b3.trans (a3.trans hm.2.2.1), b4.trans (a4.trans hm.2.2.2)⟩, by show m.toks.length ≤ (decGo r ((synGo d d.syms (m', st)).1, (synGo d d.syms (m', st)).2)).1.toks.length; omega⟩
   split
   · exact key _ ⟨rfl, rfl, rfl, rfl⟩ (Nat.le_refl _)
   · exact key _ ⟨rfl, rfl, rfl, rfl⟩ (Nat.le_refl _)
theorem lefGo_k : ∀ (l : List Rule) (m : Mk), (lefGo l m).toks = m.toks ∧ (lefGo l m).inner = m.inner ∧ (lefGo l m).nons = m.nons
 | [], m => ⟨rfl, rfl, rfl⟩
 | r :: l, m => by
   rw [lefGo_cons]
   obtain ⟨d1, d2, d3, d4, d5, d6⟩ := dupL_f m r
   obtain ⟨h1, h2, h3⟩ := lefGo_k l (addL (dupL m r) r.left)
   have e : (addL (dupL m r) r.left).toks = m.toks ∧ (addL (dupL m r) r.left).inner = m.inner ∧ (addL (dupL m r) r.left).nons = m.nons := by
    unfold addL
    split
    · exact ⟨d1, d6, d5⟩
    · exact ⟨d1, d6, d5⟩
   exact ⟨h1.trans e.1, h2.trans e.2.1, h3.trans e.2.2⟩
theorem unkGo1_k (kind : Int) : ∀ (l : List Sym) (m : Mk), SameF m (unkGo1 kind l m)
 | [], m => SameF.rfl' m
 | x :: r, m => by rw [unkGo1_cons]; exact (unkM_f m kind x).trans' (unkGo1_k kind r _)
theorem unkGo_k : ∀ (l : List Decl) (m : Mk), SameF m (unkGo l m)
 | [], m => SameF.rfl' m
 | d :: r, m => by rw [unkGo_cons]; exact (unkGo1_k d.kind d.syms m).trans' (unkGo_k r _)
def preM (src : Source) : Mk := unkGo src.decls (lefGo src.rules (decGo src.decls ({}, [])).1)
def startM (src : Source) : List UInt8 := if (decGo src.decls ({}, [])).2 = [] then (src.rules.headD {}).left else (decGo src.decls ({}, [])).2
def prod0 (src : Source) : GPr := { left := 0, right := [1001 + leftGo (startM src) (preM src).lefts 0], prec := -1 }
theorem madeM_eq (src : Source) : madeM src = rulGo src.rules { preM src with prods := [prod0 src] } := rfl
theorem preM_f (src : Source) : 3 ≤ (preM src).toks.length ∧ (preM src).inner = 0 ∧ (preM src).nons = [] := by
 obtain ⟨⟨a1, a2, a3, a4⟩, k1⟩ := decGo_k src.decls {} []
 obtain ⟨l1, l2, l3⟩ := lefGo_k src.rules (decGo src.decls ({}, [])).1
 obtain ⟨u1, u2, u3, u4, u5, u6, u7⟩ := unkGo_k src.decls (lefGo src.rules (decGo src.decls ({}, [])).1)
 refine ⟨?_, ?_, ?_⟩
 · show 3 ≤ (unkGo _ _).toks.length; rw [u1, l1]; exact k1
 · show (unkGo _ _).inner = 0; rw [u7, l2]; exact a4
 · show (unkGo _ _).nons = []; rw [u6, l3]; exact a3
theorem madeM_in (src : Source) : MInv (madeM src) ∧ HdP (prod0 src) (madeM src) := by
 obtain ⟨h1, h2, h3⟩ := preM_f src
 have hl := leftGo_bd (startM src) (preM src).lefts 0
 rw [madeM_eq]
 refine ⟨rulGo_in _ _ ⟨h1, by dsimp only; omega, fun p hp => ?_, fun p hp s hs => ?_, fun p hp => ?_⟩, rulGo_hd _ _ _ ⟨[], rfl⟩⟩ <;> (dsimp only at hp; rw [List.mem_singleton] at hp; subst hp)
 · unfold prod0; dsimp only; omega
 · unfold prod0 at hs; dsimp only at hs ⊢; rw [List.mem_singleton] at hs; subst hs
   exact Or.inr ⟨(1 + leftGo (startM src) (preM src).lefts 0).toNat, by omega, by omega⟩
 · exact Or.inl rfl
theorem altsGo_nons (n : List UInt8) : ∀ (l : List Alt) (m : Mk), (altsGo n l m).nons = m.nons ∧ (altsGo n l m).lefts = m.lefts
 | [], m => ⟨rfl, rfl⟩
 | a :: r, m => by
   rw [altsGo_cons]
   obtain ⟨h1, _, h3, _⟩ := altM_f m n a
   obtain ⟨k1, k2⟩ := altsGo_nons n r (altM m n a)
   exact ⟨k1.trans h3, k2.trans h1⟩
theorem rulGo_nons : ∀ (l : List Rule) (m : Mk), (rulGo l m).nons = m.nons ∧ (rulGo l m).lefts = m.lefts
 | [], m => ⟨rfl, rfl⟩
 | r :: l, m => by
   rw [rulGo_cons]
   obtain ⟨h1, h2⟩ := altsGo_nons r.left r.alts m
   obtain ⟨k1, k2⟩ := rulGo_nons l (altsGo r.left r.alts m)
   exact ⟨k1.trans h1, k2.trans h2⟩
theorem madeN_f (m : Mk) : (madeN m).toks.length = m.toks.length ∧ (madeN m).nons.length = 1 + m.lefts.length + m.inner.toNat ∧ (madeN m).prods = m.prods := by
 unfold madeN
 dsimp only
 refine ⟨numIx_len _ _ _ _ _, ?_, rfl⟩
 rw [List.length_append, List.length_append, nonGo_len, innN_len]; rfl
theorem gramS_eq {src : Source} (h : gramB src = true) : mayB src = true ∧ (madeM src).e = 0 ∧ longB (madeN (madeM src)) = false ∧ gramS src = { toks := (madeN (madeM src)).toks, nons := (madeN (madeM src)).nons, prods := (madeN (madeM src)).prods, pro := src.pro, tail := src.tail } := by
 have h := of_decide_eq_true h
 unfold gramS
 unfold ofS at *
 by_cases h1 : mayB src = true
 · rw [if_pos h1] at *
   by_cases h2 : (madeM src).e ≠ 0
   · rw [if_pos h2] at h; exact absurd h h2
   · rw [if_neg h2] at *
     by_cases h3 : longB (madeN (madeM src)) = true
     · rw [if_pos h3] at h; cases h
     · rw [if_neg h3] at *
       exact ⟨h1, by simpa using h2, by simpa using h3, rfl⟩
 · rw [if_neg h1] at h; cases h
theorem gok {src : Source} (h : gramB src = true) : GOk (gramS src) := by
 obtain ⟨_, _, hl, he⟩ := gramS_eq h
 obtain ⟨hi, r, hr⟩ := madeM_in src
 obtain ⟨n1, n2, n3⟩ := madeN_f (madeM src)
 unfold longB at hl
 simp only [Bool.or_eq_false_iff, decide_eq_false_iff_not, List.any_eq_false, decide_eq_true_eq] at hl
 obtain ⟨⟨⟨l1, l2⟩, l3⟩, l4⟩ := hl
 have hinn := hi.inn
 rw [he]
 refine ⟨?_, ?_, ?_, ?_, ?_, ?_, fun p hp => ?_, fun p hp => ?_, fun p hp s hs => ?_, fun p hp => ?_, ?_⟩ <;> dsimp only at *
 · rw [n1]; exact hi.tk
 · omega
 · rw [n2]; omega
 · omega
 · rw [n3, hr]; simp
 · omega
 · rw [n3] at hp; have := hi.left p hp
   exact ⟨p.left.toNat, by omega, by omega⟩
 · have := l4 p hp; omega
 · rw [n3] at hp; rw [n1, n2]; exact hi.right p hp s hs
 · rw [n3] at hp
   rcases hi.prec p hp with h | ⟨h1, h2⟩
   · exact Or.inl h
   · exact Or.inr ⟨p.prec.toNat, by omega, by omega⟩
 · refine ⟨prod0 src, r, by rw [n3]; exact hr, rfl, (1 + leftGo (startM src) (preM src).lefts 0).toNat, ?_, ?_⟩
   · have := leftGo_bd (startM src) (preM src).lefts 0
     unfold prod0; dsimp only
     rw [show (1001 + leftGo (startM src) (preM src).lefts 0 : Int) = 1000 + ((1 + leftGo (startM src) (preM src).lefts 0).toNat : Int) by omega]
   · have := leftGo_bd (startM src) (preM src).lefts 0
     have := (rulGo_nons src.rules { preM src with prods := [prod0 src] }).2
     rw [← madeM_eq] at this
     dsimp only at this
     rw [n2, this]; omega

theorem tokGo_none {x : Sym} : ∀ {l : List Tok} {i : Nat}, (∀ (n : Nat) t, l[n]? = some t → ¬ (t.name = x.name ∧ t.lit = x.lit ∧ i + n ≠ 2)) → tokGo x l i = -1
 | [], i, _ => rfl
 | t :: r, i, h => by
   unfold tokGo
   rw [if_neg (by have := h 0 t rfl; simpa using this)]
   exact tokGo_none fun n u hu => by have := h (n + 1) u (by simpa using hu); rwa [show i + 1 + n = i + (n + 1) by omega]
theorem tokGo_some {x : Sym} : ∀ {l : List Tok} {i n : Nat} {t : Tok}, l[n]? = some t → t.name = x.name → t.lit = x.lit → i + n ≠ 2 → 0 ≤ tokGo x l i
 | [], i, n, t, h, _, _, _ => by simp at h
 | u :: r, i, n, t, h, h1, h2, h3 => by
   unfold tokGo
   split
   · omega
   · rename_i hne
     cases n with
     | zero => simp at h; subst h; exact absurd ⟨h1, h2, by omega⟩ hne
     | succ n => exact tokGo_some (l := r) (i := i + 1) (n := n) (t := t) (by simpa using h) h1 h2 (by omega)
theorem ownGo_none {n : Int} : ∀ {l : List Tok} {i : Nat}, (∀ t ∈ l, t.num ≠ n) → ownGo n l i = -1
 | [], i, _ => rfl
 | t :: r, i, h => by
   unfold ownGo
   rw [if_neg (h t (by simp))]
   exact ownGo_none fun u hu => h u (List.mem_cons_of_mem _ hu)
theorem leftGo_some {n : List UInt8} : ∀ {l : List (List UInt8)} {i : Nat}, n ∈ l → 0 ≤ leftGo n l i
 | [], i, h => by simp at h
 | t :: r, i, h => by
   unfold leftGo
   split
   · omega
   · rename_i hne
     rcases List.mem_cons.1 h with h | h
     · exact absurd h.symm hne
     · exact leftGo_some h
abbrev core (t : Tok) : List UInt8 × Bool × Int := (t.name, t.lit, t.num)
abbrev litC (j : Nat) : List UInt8 × Bool × Int := ((litS j).name, true, litN (litS j))
abbrev base3 : List (List UInt8 × Bool × Int) := [([36, 101, 110, 100], false, 0), (errS, false, -1), ([36, 117, 110, 107], false, -1)]
structure LInv (m : Mk) (js : List Nat) : Prop where
 e : m.e = 0
 toks : m.toks.map core = base3 ++ js.map litC
 nd : js.Nodup
 lt : ∀ j ∈ js, j < 4
theorem lit_cases {j : Nat} (h : j < 4) : (litS j).name = [UInt8.ofNat (112 + j)] ∧ litN (litS j) = 112 + j := by
 rcases j with _ | _ | _ | _ | j
 · exact ⟨rfl, rfl⟩
 · exact ⟨rfl, rfl⟩
 · exact ⟨rfl, rfl⟩
 · exact ⟨rfl, rfl⟩
 · omega
theorem lit_inj {i j : Nat} (hi : i < 4) (hj : j < 4) (h : (litS i).name = (litS j).name) : i = j := by
 have h1 := (lit_cases hi).1
 have h2 := (lit_cases hj).1
 rw [h1, h2] at h
 simp only [List.cons.injEq, and_true] at h
 have := congrArg UInt8.toNat h
 simp at this
 omega
theorem LInv.get {m : Mk} {js : List Nat} (h : LInv m js) {n : Nat} {t : Tok} (ht : m.toks[n]? = some t) : (base3 ++ js.map litC)[n]? = some (core t) := by rw [← h.toks, List.getElem?_map, ht]; rfl
theorem LInv.len {m : Mk} {js : List Nat} (h : LInv m js) : m.toks.length = 3 + js.length := by have := congrArg List.length h.toks; simp at this; omega
theorem LInv.tok_in {m : Mk} {js : List Nat} (h : LInv m js) {j : Nat} (hj : j ∈ js) : 0 ≤ tokM m.toks (litS j) := by
 obtain ⟨i, hi, he⟩ := List.getElem_of_mem hj
 have hl := h.len
 have h3 : m.toks[3 + i]? = some (m.toks[3 + i]'(by omega)) := List.getElem?_eq_getElem (by omega)
 have hg := h.get h3
 rw [List.getElem?_append_right (by simp), show 3 + i - base3.length = i by simp, List.getElem?_map, List.getElem?_eq_getElem hi, he] at hg
 simp only [Option.map_some, Option.some.injEq, Prod.mk.injEq] at hg
 refine tokGo_some (n := 2 + i) (t := m.toks[3 + i]'(by omega)) ?_ hg.1.symm ?_ (by omega)
 · rw [List.getElem?_drop, show 1 + (2 + i) = 3 + i by omega]; exact h3
 · rw [← hg.2.1]
theorem LInv.tok_out {m : Mk} {js : List Nat} (h : LInv m js) {j : Nat} (hj : j ∉ js) (hj4 : j < 4) : tokM m.toks (litS j) = -1 := by
 refine tokGo_none fun n t ht => ?_
 rw [List.getElem?_drop] at ht
 have hg := h.get ht
 rintro ⟨h1, h2, h3⟩
 match n, hg with
 | 0, hg => simp at hg; rw [hg.2.1] at h2; cases h2
 | 1, hg => exact absurd rfl h3
 | n + 2, hg =>
   rw [List.getElem?_append_right (by simp; omega), List.getElem?_map] at hg
   cases hq : js[1 + (n + 2) - base3.length]? with
   | none => rw [hq] at hg; cases hg
   | some q =>
     rw [hq] at hg
     simp only [Option.map_some, Option.some.injEq, Prod.mk.injEq] at hg
     have hqm := List.mem_of_getElem? hq
     have := lit_inj (h.lt q hqm) hj4 (hg.1.trans h1)
     subst this; exact hj hqm
theorem LInv.own {m : Mk} {js : List Nat} (h : LInv m js) {j : Nat} (hj : j ∉ js) (hj4 : j < 4) : ownM m.toks (litN (litS j)) = -1 := by
 refine ownGo_none fun t ht e => ?_
 obtain ⟨n, hn⟩ := List.getElem?_of_mem ht
 rw [List.getElem?_drop] at hn
 have hg := h.get hn
 rw [List.getElem?_append_right (by simp), List.getElem?_map] at hg
 cases hq : js[3 + n - base3.length]? with
 | none => rw [hq] at hg; cases hg
 | some q =>
   rw [hq] at hg
   simp only [Option.map_some, Option.some.injEq, Prod.mk.injEq] at hg
   have hqm := List.mem_of_getElem? hq
   have h4 := h.lt q hqm
   have := (lit_cases h4).2; have := (lit_cases hj4).2
   have : q = j := by omega
   subst this; exact hj hqm
theorem litS_mod (k : Int) : litS k = litS ((k % 4).toNat : Nat) := by
 have h1 := Int.emod_nonneg k (show (4 : Int) ≠ 0 by omega)
 unfold litS
 rw [Int.toNat_of_nonneg h1, Int.emod_emod_of_dvd k (Int.dvd_refl 4)]
theorem LInv.put {m : Mk} {js : List Nat} (h : LInv m js) (k : Int) : ∃ js', LInv (putM m (litS k)).1 js' ∧ (∀ j ∈ js, j ∈ js') ∧ ∀ j ∈ js', j ∈ js ∨ j = (k % 4).toNat := by
 have h1 := Int.emod_nonneg k (show (4 : Int) ≠ 0 by omega)
 have h2 := Int.emod_lt_of_pos k (show (0 : Int) < 4 by omega)
 rw [litS_mod k]
 obtain ⟨j, hj⟩ : ∃ j : Nat, (k % 4).toNat = j := ⟨_, rfl⟩
 have hj4 : j < 4 := by omega
 rw [hj]
 unfold putM
 by_cases hm : j ∈ js
 · rw [if_pos (h.tok_in hm)]
   exact ⟨js, h, fun _ a => a, fun _ a => Or.inl a⟩
 · rw [if_neg (by rw [h.tok_out hm hj4]; omega)]
   dsimp only
   rw [if_neg (by rw [h.own hm hj4]; rintro ⟨_, e⟩; omega)]
   refine ⟨js ++ [j], ⟨h.e, ?_, ?_, fun q hq => ?_⟩, fun q hq => List.mem_append_left _ hq, fun q hq => ?_⟩
   · dsimp only; rw [List.map_append, h.toks, List.map_append, List.append_assoc]; rfl
   · rw [List.nodup_append]
     exact ⟨h.nd, by simp, fun a ha b hb e => by rw [List.mem_singleton] at hb; subst hb; subst e; exact hm ha⟩
   · rcases List.mem_append.1 hq with hq | hq
     · exact h.lt q hq
     · rw [List.mem_singleton] at hq; subst hq; exact hj4
   · rcases List.mem_append.1 hq with hq | hq
     · exact Or.inl hq
     · rw [List.mem_singleton] at hq; exact Or.inr hq
theorem LInv.err {m : Mk} {js : List Nat} (h : LInv m js) : 0 ≤ tokM m.toks { name := errS } := by
 have hl := h.len
 have h1 : m.toks[1]? = some (m.toks[1]'(by omega)) := List.getElem?_eq_getElem (by omega)
 have hg := h.get h1
 simp at hg
 refine tokGo_some (n := 0) (t := m.toks[1]'(by omega)) ?_ hg.1.symm (by rw [hg.2.1]) (by omega)
 rw [List.getElem?_drop]; exact h1
theorem LInv.non {m : Mk} {js : List Nat} (h : LInv m js) {k : Nat} (hk : k < 4) : tokM m.toks { name := nonS k } = -1 := by
 refine tokGo_none fun n t ht => ?_
 rw [List.getElem?_drop] at ht
 have hg := h.get ht
 rintro ⟨h1, h2, h3⟩
 match n, hg with
 | 0, hg =>
   simp at hg
   rw [← hg.1] at h1
   have := congrArg List.length h1
   simp [errS] at this
 | 1, hg => exact absurd rfl h3
 | n + 2, hg =>
   rw [List.getElem?_append_right (by simp; omega), List.getElem?_map] at hg
   cases hq : js[1 + (n + 2) - base3.length]? with
   | none => rw [hq] at hg; cases hg
   | some q =>
     rw [hq] at hg
     simp only [Option.map_some, Option.some.injEq, Prod.mk.injEq] at hg
     rw [← hg.2.1] at h2; cases h2
theorem setT_core {m : Mk} {js : List Nat} (h : LInv m js) (t : Int) (k : Tok) (hk : core k = core (tokD m t)) (ht : 0 ≤ t ∧ t < m.toks.length) : LInv (setT m t k) js := by
 refine ⟨h.e, ?_, h.nd, h.lt⟩
 rw [← h.toks]
 show (m.toks.set t.toNat k).map core = _
 rw [List.map_set, hk]
 refine List.ext_getElem? fun i => ?_
 rw [List.getElem?_set]
 by_cases e : t.toNat = i
 · subst e
   have hlt : t.toNat < m.toks.length := by omega
   rw [if_pos rfl, if_pos (by simpa using hlt), List.getElem?_map]
   unfold tokD
   rw [List.getD_eq_getElem?_getD, List.getElem?_eq_getElem hlt]; rfl
 · rw [if_neg e]
theorem declM_lit {m : Mk} {js : List Nat} (h : LInv m js) (d : Decl) {i : Nat} (hi : i < 4) (hj : i ∉ js) (hk : 2 ≤ d.kind ∧ d.kind ≤ 4) (ht : d.tag = []) : LInv (declM m d (litS i)) (js ++ [i]) := by
 have hl := h.len
 have hp : putM m (litS i) = ({ m with toks := m.toks ++ [{ name := (litS i).name, lit := true, num := litN (litS i) }], given := m.given ++ [true] }, (m.toks.length : Int)) := by
  unfold putM
  rw [if_neg (by rw [h.tok_out hj hi]; omega)]
  dsimp only
  rw [if_neg (by rw [h.own hj hi]; rintro ⟨_, e⟩; omega)]
 have h1 : LInv (putM m (litS i)).1 (js ++ [i]) := by
  rw [hp]
  refine ⟨h.e, ?_, ?_, fun q hq => ?_⟩
  · dsimp only; rw [List.map_append, h.toks, List.map_append, List.append_assoc]; rfl
  · rw [List.nodup_append]
    exact ⟨h.nd, by simp, fun a ha b hb e => by rw [List.mem_singleton] at hb; subst hb; subst e; exact hj ha⟩
  · rcases List.mem_append.1 hq with hq | hq
    · exact h.lt q hq
    · rw [List.mem_singleton] at hq; subst hq; exact hi
 unfold declM
 rw [if_neg (by omega)]
 dsimp only
 have hlast : tokD (putM m (litS i)).1 (putM m (litS i)).2 = { name := (litS i).name, lit := true, num := litN (litS i) } := by
  rw [hp]; unfold tokD; dsimp only; rw [List.getD_eq_getElem?_getD, Int.toNat_natCast, List.getElem?_append_right (Nat.le_refl _)]; simp
 have hr : 0 ≤ (putM m (litS i)).2 ∧ (putM m (litS i)).2 < (putM m (litS i)).1.toks.length := by rw [hp]; simp; omega
 generalize putM m (litS i) = q at *
 have hA : LInv (declA q.1 d.kind (litS i) q.2) (js ++ [i]) := by
  unfold declA
  rw [if_neg (by omega), hlast]
  dsimp only
  rw [if_neg (by omega)]
  exact setT_core h1 _ _ (by rw [hlast]) hr
 have hB : declB2 (declA q.1 d.kind (litS i) q.2) (litS i) q.2 = declA q.1 d.kind (litS i) q.2 := by unfold declB2; rw [if_neg (by show ¬ (0 : Int) < 0; decide)]
 have hC : ∀ M, declC M d.tag (litS i) q.2 = M := fun M => by unfold declC; rw [if_neg (by simp [ht])]
 rw [hB, hC]
 exact hA
theorem synGo_lit (d : Decl) (hk : 2 ≤ d.kind ∧ d.kind ≤ 4) (ht : d.tag = []) : ∀ (is : List Nat) (m : Mk) (js : List Nat) (st : List UInt8), LInv m js → (js ++ is).Nodup → (∀ i ∈ is, i < 4) → LInv (synGo d (is.map fun i : Nat => litS i) (m, st)).1 (js ++ is) ∧ (synGo d (is.map fun i : Nat => litS i) (m, st)).2 = st
 | [], m, js, st, h, _, _ => by rw [List.append_nil]; exact ⟨h, rfl⟩
 | i :: r, m, js, st, h, hn, hl => by
   rw [List.map_cons, synGo_cons, if_pos (by omega)]
   have e : js ++ i :: r = js ++ [i] ++ r := by simp
   rw [e] at hn ⊢
   have hni : i ∉ js := fun hm => by
    rw [List.nodup_append] at hn
    have := hn.1
    rw [List.nodup_append] at this
    exact this.2.2 i hm i (by simp) rfl
   exact synGo_lit d hk ht r _ _ st (declM_lit h d (hl i (by simp)) hni hk ht) hn (fun q hq => hl q (List.mem_cons_of_mem _ hq))
def LitDecl (d : Decl) (is : List Nat) : Prop := (2 ≤ d.kind ∧ d.kind ≤ 4) ∧ d.tag = [] ∧ d.syms = (is.map fun i : Nat => litS i) ∧ is ≠ []
theorem LInv.level {m : Mk} {js : List Nat} (h : LInv m js) (n : Int) : LInv { m with level := n } js := ⟨h.e, h.toks, h.nd, h.lt⟩
theorem decGo_lit : ∀ (ds : List Decl) (iss : List (List Nat)) (m : Mk) (js : List Nat) (st : List UInt8), LInv m js → ds.length = iss.length → (∀ (k : Nat) d is, ds[k]? = some d → iss[k]? = some is → LitDecl d is) → (js ++ iss.flatten).Nodup → (∀ i ∈ iss.flatten, i < 4) → LInv (decGo ds (m, st)).1 (js ++ iss.flatten) ∧ (decGo ds (m, st)).2 = st
 | [], [], m, js, st, h, _, _, _, _ => by simp; exact ⟨h, rfl⟩
 | [], _ :: _, m, js, st, h, hl, _, _, _ => by simp at hl
 | _ :: _, [], m, js, st, h, hl, _, _, _ => by simp at hl
 | d :: r, is :: t, m, js, st, h, hl, hd, hn, hlt => by
   obtain ⟨hk, ht, hs, _⟩ := hd 0 d is rfl rfl
   rw [List.flatten_cons, ← List.append_assoc] at hn ⊢
   rw [List.flatten_cons] at hlt
   rw [decGo_cons, if_pos hk, hs]
   have hn1 : (js ++ is).Nodup := by rw [List.nodup_append] at hn; exact hn.1
   obtain ⟨h1, h2⟩ := synGo_lit d hk ht is { m with level := m.level + 1 } js st (h.level _) hn1 (fun i hi => hlt i (List.mem_append_left _ hi))
   have e : synGo d (is.map fun i : Nat => litS i) ({ m with level := m.level + 1 }, st) = ((synGo d (is.map fun i : Nat => litS i) ({ m with level := m.level + 1 }, st)).1, st) := Prod.ext rfl h2
   rw [e]
   exact decGo_lit r t _ _ st h1 (by simpa using hl) (fun k d is a b => hd (k + 1) d is (by simpa using a) (by simpa using b)) hn (fun i hi => hlt i (List.mem_append_right _ hi))
theorem declsN_lit (l : List Int) : ∀ n, n ≤ 4 → ∃ iss : List (List Nat), (declsN l n).length = iss.length ∧ (∀ (k : Nat) d is, (declsN l n)[k]? = some d → iss[k]? = some is → LitDecl d is) ∧ iss.flatten.Nodup ∧ ∀ i ∈ iss.flatten, i < n := by
 intro n
 induction n with
 | zero => intro _; exact ⟨[], rfl, fun k d is h => by simp [declsN] at h, by simp, fun i h => by simp at h⟩
 | succ n ih =>
   intro hn
   obtain ⟨iss, h1, h2, h3, h4⟩ := ih (by omega)
   have hx1 := Int.emod_nonneg (l.getD n 0) (show (8 : Int) ≠ 0 by omega)
   have hx2 := Int.emod_lt_of_pos (l.getD n 0) (show (0 : Int) < 8 by omega)
   have hnn : n ∉ iss.flatten := fun h => by have := h4 n h; omega
   show ∃ iss : List (List Nat), (declsStep n (l.getD n 0) (declsN l n)).length = iss.length ∧ (∀ (k : Nat) d is, (declsStep n (l.getD n 0) (declsN l n))[k]? = some d → iss[k]? = some is → LitDecl d is) ∧ iss.flatten.Nodup ∧ ∀ i ∈ iss.flatten, i < n + 1
   unfold declsStep
   split
   · exact ⟨iss, h1, h2, h3, fun i hi => by have := h4 i hi; omega⟩
   · rename_i hq
     split
     · rename_i hc
       obtain ⟨o, d, ho⟩ : ∃ o d, declsN l n = o ++ [d] := ⟨_, _, (List.dropLast_concat_getLast hc.2).symm⟩
       have hie : iss ≠ [] := fun e => by rw [e, ho] at h1; simp at h1
       obtain ⟨t, u, ht⟩ : ∃ t u, iss = t ++ [u] := ⟨_, _, (List.dropLast_concat_getLast hie).symm⟩
       have hot : o.length = t.length := by rw [ho, ht] at h1; simpa using h1
       refine ⟨t ++ [u ++ [n]], ?_, fun k e is a b => ?_, ?_, fun i hi => ?_⟩
       · rw [ho, addLast_snoc]; simp [hot]
       · rw [ho, addLast_snoc] at a
         by_cases hk : k < o.length
         · rw [List.getElem?_append_left hk] at a
           rw [List.getElem?_append_left (by omega)] at b
           exact h2 k e is (by rw [ho, List.getElem?_append_left hk]; exact a) (by rw [ht, List.getElem?_append_left (by omega)]; exact b)
         · by_cases hk2 : k = o.length
           · subst hk2
             rw [List.getElem?_append_right (Nat.le_refl _)] at a
             rw [hot, List.getElem?_append_right (Nat.le_refl _)] at b
             simp at a b
             subst a b
             obtain ⟨q1, q2, q3, q4⟩ := h2 o.length d u (by rw [ho]; simp) (by rw [ht, hot]; simp)
             exact ⟨q1, q2, by dsimp only; rw [q3, List.map_append]; rfl, by simp⟩
           · rw [List.getElem?_eq_none (by simp; omega)] at a; cases a
       · rw [ht] at h3 hnn
         simp only [List.flatten_append, List.flatten_cons, List.flatten_nil, List.append_nil, ← List.append_assoc] at h3 hnn ⊢
         rw [List.nodup_append]
         exact ⟨h3, by simp, fun a ha b hb e => by rw [List.mem_singleton] at hb; subst hb; subst e; exact hnn ha⟩
       · simp only [List.flatten_append, List.flatten_cons, List.flatten_nil, List.append_nil, ← List.append_assoc] at hi
         rcases List.mem_append.1 hi with hi | hi
         · have hlt := h4 i (by rw [ht]; simpa using hi)
           omega
         · rw [List.mem_singleton] at hi; omega
     · refine ⟨iss ++ [[n]], by simp [h1], fun k e is a b => ?_, ?_, fun i hi => ?_⟩
       · by_cases hk : k < (declsN l n).length
         · rw [List.getElem?_append_left hk] at a
           rw [List.getElem?_append_left (by omega)] at b
           exact h2 k e is a b
         · by_cases hk2 : k = (declsN l n).length
           · subst hk2
             rw [List.getElem?_append_right (Nat.le_refl _)] at a
             rw [h1, List.getElem?_append_right (Nat.le_refl _)] at b
             simp only [Nat.sub_self, List.getElem?_cons_zero, Option.some.injEq] at a b
             subst a b
             have hb : 2 ≤ 1 + l.getD n 0 % 8 % 4 ∧ 1 + l.getD n 0 % 8 % 4 ≤ 4 := by omega
             exact ⟨hb, rfl, rfl, by simp⟩
           · rw [List.getElem?_eq_none (by simp; omega)] at a; cases a
       · rw [List.flatten_append]
         simp only [List.flatten_cons, List.flatten_nil, List.append_nil]
         rw [List.nodup_append]
         exact ⟨h3, by simp, fun a ha b hb e => by rw [List.mem_singleton] at hb; subst hb; subst e; exact hnn ha⟩
       · rw [List.flatten_append] at hi
         rcases List.mem_append.1 hi with hi | hi
         · have := h4 i hi; omega
         · simp at hi; omega

def SymGood (lefts : List (List UInt8)) (x : Sym) : Prop := (∃ k : Int, x = litS k) ∨ (x.lit = false ∧ x.name ∈ lefts) ∨ x = { name := errS }
theorem symM_good {m : Mk} {js : List Nat} {x : Sym} (h : LInv m js) (hx : SymGood m.lefts x) : ∃ js', LInv (symM m x).1 js' := by
 rcases hx with ⟨k, rfl⟩ | ⟨h1, h2⟩ | rfl
 · obtain ⟨js', h', _⟩ := h.put k
   exact ⟨js', by unfold symM; rw [if_pos rfl]; exact h'⟩
 · exact ⟨js, by unfold symM; rw [if_neg (by simp [h1]), if_pos (leftGo_some h2)]; exact h⟩
 · refine ⟨js, ?_⟩
   unfold symM
   rw [if_neg (by simp)]
   split
   · exact h
   · rw [if_neg (by have := h.err; omega)]; exact h
def codesB : List Part → Nat
 | [] => 0
 | w :: r => (if w.code ≠ [] ∧ r ≠ [] then 1 else 0) + codesB r
theorem altGo_good : ∀ (l : List Part) (m : Mk) (js : List Nat) (p : GPr), LInv m js → (∀ w ∈ l, w.code ≠ [] ∨ SymGood m.lefts w.sym) → (∀ q ∈ m.prods, q.right.length ≤ 8) →
 (∃ js', LInv (altGo l (m, p)).1 js') ∧ (altGo l (m, p)).1.inner ≤ m.inner + codesB l ∧ (altGo l (m, p)).1.prods.length ≤ m.prods.length + codesB l ∧ ∀ q ∈ (altGo l (m, p)).1.prods, q.right.length ≤ 8
 | [], m, js, p, h, _, hq => by rw [altGo_nil]; exact ⟨⟨js, h⟩, by simp [codesB], by simp [codesB], hq⟩
 | w :: r, m, js, p, h, hg, hq => by
   rw [altGo_cons]
   obtain ⟨y1, y2, y3, y4, y5, y6, y7, y8⟩ := symM_f m w.sym
   unfold codesB
   by_cases hc : w.code = []
   · rw [if_pos hc, if_neg (fun e => e.1 hc)]
     obtain ⟨js1, h1⟩ := symM_good h ((hg w (by simp)).resolve_left (fun e => e hc))
     obtain ⟨k1, k2, k3, k4⟩ := altGo_good r (symM m w.sym).1 js1 { p with right := p.right ++ [(symM m w.sym).2] } h1 (fun u hu => by rw [y2]; exact hg u (List.mem_cons_of_mem _ hu)) (by rw [y3]; exact hq)
     exact ⟨k1, by omega, by rw [y3] at k3; omega, k4⟩
   · rw [if_neg hc]
     by_cases hr : r = []
     · rw [if_pos hr]; exact ⟨⟨js, h⟩, by dsimp only; omega, by dsimp only; omega, hq⟩
     · rw [if_neg hr, if_pos ⟨hc, hr⟩]
       obtain ⟨k1, k2, k3, k4⟩ := altGo_good r { m with inner := m.inner + 1, prods := m.prods ++ [{ left := m.lefts.length + (m.inner + 1), prec := -1, code := w.code, args := p.right, at_ := w.at_ }] } js { p with right := p.right ++ [1000 + m.lefts.length + (m.inner + 1)] } ⟨h.e, h.toks, h.nd, h.lt⟩ (fun u hu => hg u (List.mem_cons_of_mem _ hu)) (fun q hq2 => by
        dsimp only at hq2
        rcases List.mem_append.1 hq2 with hq2 | hq2
        · exact hq q hq2
        · rw [List.mem_singleton] at hq2; subst hq2; simp)
       dsimp only at k2 k3
       rw [List.length_append] at k3
       exact ⟨k1, by omega, by simp at k3; omega, k4⟩
def AltGood (lefts : List (List UInt8)) (a : Alt) : Prop := (∀ w ∈ a.parts, w.code ≠ [] ∨ SymGood lefts w.sym) ∧ a.prec = {} ∧ codesB a.parts ≤ 1 ∧ a.parts.length ≤ 6
theorem altM_good {m : Mk} {js : List Nat} (n : List UInt8) {a : Alt} (h : LInv m js) (ha : AltGood m.lefts a) (hq : ∀ q ∈ m.prods, q.right.length ≤ 8) :
 (∃ js', LInv (altM m n a) js') ∧ (altM m n a).inner ≤ m.inner + 1 ∧ (altM m n a).prods.length ≤ m.prods.length + 2 ∧ (∀ q ∈ (altM m n a).prods, q.right.length ≤ 8) := by
 obtain ⟨h1, h2, h3, h4⟩ := ha
 obtain ⟨⟨js', k1⟩, k2, k3, k4⟩ := altGo_good a.parts m js { left := 1 + leftGo n m.lefts 0, prec := -1, at_ := a.at_ } h h1 hq
 obtain ⟨g1, g2, g3, g4, g5, g6, g7, g8, g9, g10⟩ := altGo_f a.parts m { left := 1 + leftGo n m.lefts 0, prec := -1, at_ := a.at_ }
 unfold altM
 dsimp only
 generalize altGo a.parts (m, { left := 1 + leftGo n m.lefts 0, prec := -1, at_ := a.at_ }) = q at *
 rw [h2]
 rw [if_neg (by simp)]
 refine ⟨⟨js', k1.e, k1.toks, k1.nd, k1.lt⟩, by dsimp only; omega, by dsimp only; rw [List.length_append]; simp; omega, fun p hp => ?_⟩
 dsimp only at hp
 rcases List.mem_append.1 hp with hp | hp
 · exact k4 p hp
 · rw [List.mem_singleton] at hp; subst hp; simp at g8 ⊢; omega
theorem altsGo_good (n : List UInt8) : ∀ (l : List Alt) (m : Mk) (js : List Nat), LInv m js → (∀ a ∈ l, AltGood m.lefts a) → (∀ q ∈ m.prods, q.right.length ≤ 8) →
 (∃ js', LInv (altsGo n l m) js') ∧ (altsGo n l m).inner ≤ m.inner + l.length ∧ (altsGo n l m).prods.length ≤ m.prods.length + 2 * l.length ∧ (∀ q ∈ (altsGo n l m).prods, q.right.length ≤ 8)
 | [], m, js, h, _, hq => by rw [altsGo_nil]; exact ⟨⟨js, h⟩, by simp, by simp, hq⟩
 | a :: r, m, js, h, ha, hq => by
   rw [altsGo_cons]
   obtain ⟨⟨js1, h1⟩, h2, h3, h4⟩ := altM_good n h (ha a (by simp)) hq
   obtain ⟨k1, k2, k3, k4⟩ := altsGo_good n r (altM m n a) js1 h1 (fun b hb => by rw [(altM_f m n a).1]; exact ha b (List.mem_cons_of_mem _ hb)) h4
   exact ⟨k1, by rw [List.length_cons]; omega, by rw [List.length_cons]; omega, k4⟩
def altsN (l : List Rule) : Nat := (l.map fun r => r.alts.length).sum
theorem rulGo_good : ∀ (l : List Rule) (m : Mk) (js : List Nat), LInv m js → (∀ r ∈ l, ∀ a ∈ r.alts, AltGood m.lefts a) → (∀ q ∈ m.prods, q.right.length ≤ 8) →
 (∃ js', LInv (rulGo l m) js') ∧ (rulGo l m).inner ≤ m.inner + altsN l ∧ (rulGo l m).prods.length ≤ m.prods.length + 2 * altsN l ∧ (∀ q ∈ (rulGo l m).prods, q.right.length ≤ 8)
 | [], m, js, h, _, hq => by rw [rulGo_nil]; exact ⟨⟨js, h⟩, by simp [altsN], by simp [altsN], hq⟩
 | r :: l, m, js, h, ha, hq => by
   rw [rulGo_cons]
   obtain ⟨⟨js1, h1⟩, h2, h3, h4⟩ := altsGo_good r.left r.alts m js h (ha r (by simp)) hq
   obtain ⟨k1, k2, k3, k4⟩ := rulGo_good l (altsGo r.left r.alts m) js1 h1 (fun q hq2 a hb => by rw [(altsGo_nons r.left r.alts m).2]; exact ha q (List.mem_cons_of_mem _ hq2) a hb) h4
   have e : altsN (r :: l) = r.alts.length + altsN l := by simp [altsN]
   exact ⟨k1, by rw [e]; omega, by rw [e]; omega, k4⟩
theorem lefGo_good : ∀ (l : List Rule) (m : Mk) (js : List Nat), LInv m js → (∀ r ∈ l, ∃ k : Nat, k < 4 ∧ r.left = nonS k) → LInv (lefGo l m) js ∧ (lefGo l m).lefts.length ≤ m.lefts.length + l.length ∧ (∀ n ∈ m.lefts, n ∈ (lefGo l m).lefts) ∧ ∀ r ∈ l, r.left ∈ (lefGo l m).lefts
 | [], m, js, h, _ => by rw [lefGo_nil]; exact ⟨h, by simp, fun n hn => hn, fun r hr => by cases hr⟩
 | r :: l, m, js, h, hl => by
   rw [lefGo_cons]
   obtain ⟨k, hk, hr⟩ := hl r (by simp)
   have hd : dupL m r = m := by unfold dupL; rw [if_neg (by rw [hr, h.non hk]; omega)]
   rw [hd]
   have ha : LInv (addL m r.left) js ∧ (addL m r.left).lefts.length ≤ m.lefts.length + 1 ∧ (∀ n ∈ m.lefts, n ∈ (addL m r.left).lefts) ∧ r.left ∈ (addL m r.left).lefts := by
    unfold addL
    split
    · exact ⟨⟨h.e, h.toks, h.nd, h.lt⟩, by simp, fun n hn => List.mem_append_left _ hn, by simp⟩
    · rename_i hc
      refine ⟨h, by omega, fun n hn => hn, Classical.byContradiction fun hn => hc ?_⟩
      have : ∀ (l : List (List UInt8)) (i : Nat), r.left ∉ l → leftGo r.left l i = -1 := by
       intro l
       induction l with
       | nil => intro i _; rfl
       | cons t u ih => intro i hni; unfold leftGo; rw [if_neg (fun e => hni (by simp [e]))]; exact ih _ (fun hm => hni (List.mem_cons_of_mem _ hm))
      rw [this _ _ hn]; omega
   obtain ⟨a1, a2, a3, a4⟩ := ha
   obtain ⟨k1, k2, k3, k4⟩ := lefGo_good l (addL m r.left) js a1 (fun q hq => hl q (List.mem_cons_of_mem _ hq))
   refine ⟨k1, by rw [List.length_cons]; omega, fun n hn => k3 n (a3 n hn), fun q hq => ?_⟩
   rcases List.mem_cons.1 hq with rfl | hq
   · exact k3 _ a4
   · exact k4 q hq
theorem unkGo_none : ∀ (ds : List Decl) (m : Mk), (∀ d ∈ ds, d.kind < 5) → unkGo ds m = m
 | [], m, _ => rfl
 | d :: r, m, h => by
   rw [unkGo_cons]
   have hk := h d (by simp)
   have : ∀ (l : List Sym), unkGo1 d.kind l m = m := by
    intro l
    induction l with
    | nil => rfl
    | cons x t ih => rw [unkGo1_cons]; unfold unkM; rw [if_neg (by omega)]; exact ih
   rw [this]
   exact unkGo_none r m (fun e he => h e (List.mem_cons_of_mem _ he))
theorem nodup_lt : ∀ (n : Nat) (l : List Nat), l.Nodup → (∀ x ∈ l, x < n) → l.length ≤ n
 | 0, l, _, h => by
   cases l with
   | nil => simp
   | cons a r => have := h a (by simp); omega
 | n + 1, l, hn, h => by
   by_cases hm : n ∈ l
   · have h1 := nodup_lt n (l.erase n) (hn.erase n) (fun x hx => by
      have := h x (List.mem_of_mem_erase hx)
      have hne : x ≠ n := fun e => by subst e; exact (List.Nodup.mem_erase_iff hn).1 hx |>.1 rfl
      omega)
     rw [List.length_erase_of_mem hm] at h1
     omega
   · have h1 := nodup_lt n l hn (fun x hx => by
      have := h x hx
      have hne : x ≠ n := fun e => by subst e; exact hm hx
      omega)
     omega
theorem litSrc_ok {src : Source} {iss : List (List Nat)} (hmay : mayB src = true) (hd1 : src.decls.length = iss.length) (hd2 : ∀ (k : Nat) d is, src.decls[k]? = some d → iss[k]? = some is → LitDecl d is) (hd3 : iss.flatten.Nodup) (hd4 : ∀ i ∈ iss.flatten, i < 4)
 (hr1 : src.rules.length ≤ 4) (hr2 : ∀ r ∈ src.rules, ∃ k : Nat, k < 4 ∧ r.left = nonS k) (hr3 : ∀ lefts, (∀ r ∈ src.rules, r.left ∈ lefts) → ∀ r ∈ src.rules, ∀ a ∈ r.alts, AltGood lefts a) (hr4 : altsN src.rules ≤ 15) : gramB src = true := by
 have h0 : LInv {} [] := ⟨rfl, rfl, by simp, fun j h => by cases h⟩
 obtain ⟨d1, d2⟩ := decGo_lit src.decls iss {} [] [] h0 hd1 hd2 (by simpa using hd3) hd4
 rw [List.nil_append] at d1
 obtain ⟨l1, l2, l3, l4⟩ := lefGo_good src.rules (decGo src.decls ({}, [])).1 _ d1 hr2
 have hu : preM src = lefGo src.rules (decGo src.decls ({}, [])).1 := unkGo_none _ _ (fun d hd => by
  obtain ⟨k, hk⟩ := List.getElem?_of_mem hd
  obtain ⟨is, hi⟩ : ∃ is, iss[k]? = some is := ⟨_, List.getElem?_eq_getElem (by have := (List.getElem?_eq_some_iff.1 hk).1; omega)⟩
  have := (hd2 k d is hk hi).1
  omega)
 have hl0 : (decGo src.decls ({}, [])).1.lefts = [] := (decGo_k src.decls {} []).1.1
 rw [hl0] at l2
 obtain ⟨p1, p2, p3⟩ := preM_f src
 have hP : LInv { preM src with prods := [prod0 src] } iss.flatten := by
  rw [hu]; exact ⟨l1.e, l1.toks, l1.nd, l1.lt⟩
 obtain ⟨⟨js, k1⟩, k2, k3, k4⟩ := rulGo_good src.rules { preM src with prods := [prod0 src] } _ hP (hr3 _ (by dsimp only; rw [hu]; exact l4)) (fun q hq => by
  dsimp only at hq; rw [List.mem_singleton] at hq; subst hq; simp [prod0])
 rw [← madeM_eq] at k1 k2 k3 k4
 have hn := nodup_lt 4 js k1.nd k1.lt
 have hl := k1.len
 obtain ⟨n1, n2, n3⟩ := madeN_f (madeM src)
 have hll := (rulGo_nons src.rules { preM src with prods := [prod0 src] }).2
 rw [← madeM_eq] at hll
 dsimp only at hll k2 k3
 rw [hu] at hll
 have hlong : longB (madeN (madeM src)) = false := by
  unfold longB
  simp only [Bool.or_eq_false_iff, decide_eq_false_iff_not, List.any_eq_false, decide_eq_true_eq]
  refine ⟨⟨⟨by omega, ?_⟩, ?_⟩, fun p hp => ?_⟩
  · rw [n2, hll]; simp at l2; omega
  · rw [n3]; simp at k3; omega
  · rw [n3] at hp; have := k4 p hp; omega
 unfold gramB ofS
 rw [if_pos hmay, if_neg (by simp [k1.e]), if_neg (by simp [hlong])]
 rfl

theorem nonsN_bd (x : GrI) : 1 ≤ nonsN x ∧ nonsN x ≤ 4 := by unfold nonsN; omega
def codedN (l : List Part) : Nat := (l.filter fun w => !decide (w.code = [])).length
theorem codedN_app (l m : List Part) : codedN (l ++ m) = codedN l + codedN m := by simp [codedN]
theorem codesB_le : ∀ (l : List Part), codesB l ≤ codedN l
 | [] => Nat.le_refl _
 | w :: r => by
   have := codesB_le r
   have e : codedN (w :: r) = (if w.code = [] then 0 else 1) + codedN r := by
    unfold codedN; rw [List.filter_cons]; by_cases h : w.code = [] <;> simp [h]; omega
   unfold codesB; rw [e]
   by_cases h : w.code = []
   · simp [h]; exact this
   · rw [if_neg h]; split <;> omega
theorem codesB_snoc : ∀ (l : List Part) (w : Part), codesB (l ++ [w]) ≤ codedN l
 | [], w => by simp [codesB]
 | v :: r, w => by
   have := codesB_snoc r w
   have e : codedN (v :: r) = (if v.code = [] then 0 else 1) + codedN r := by
    unfold codedN; rw [List.filter_cons]; by_cases h : v.code = [] <;> simp [h]; omega
   show (if v.code ≠ [] ∧ (r ++ [w]) ≠ [] then 1 else 0) + codesB (r ++ [w]) ≤ _
   rw [e]
   by_cases h : v.code = []
   · simp [h]; exact this
   · rw [if_neg h]; split <;> omega
theorem partsJ_coded (l : List Int) (n : Nat) (mid : Bool) (j : Nat) : codedN (partsJ l n mid j) ≤ 1 ∧ (partsJ l n mid j).length ≤ j + 1 ∧ (j = 0 → partsJ l n mid j = []) := by
 induction j with
 | zero => exact ⟨by simp [partsJ, codedN], by simp [partsJ], fun _ => rfl⟩
 | succ j ih =>
   obtain ⟨h1, h2, h3⟩ := ih
   unfold partsJ
   refine ⟨?_, ?_, fun h => by omega⟩
   · rw [codedN_app, codedN_app]
     have e1 : codedN [({ sym := symI l n (j + 1) } : Part)] = 0 := by simp [codedN]
     rw [e1]
     by_cases hj : j = 0
     · rw [h3 hj]
       split <;> simp [codedN, codeMid]
     · rw [if_neg (fun e => hj e.1)]
       simp [codedN] at h1 ⊢; exact h1
   · rw [List.length_append, List.length_append]
     by_cases hj : j = 0
     · rw [h3 hj]; split <;> simp [hj]
     · rw [if_neg (fun e => hj e.1)]; simp; exact h2
theorem partsJ_mem {l : List Int} {n : Nat} {mid : Bool} {w : Part} : ∀ {j : Nat}, w ∈ partsJ l n mid j → (∃ y : Int, w = { sym := symS y n }) ∨ w = { code := codeMid }
 | 0, h => by cases h
 | j + 1, h => by
   unfold partsJ at h
   rcases List.mem_append.1 h with h | h
   · rcases List.mem_append.1 h with h | h
     · exact partsJ_mem h
     · rw [List.mem_singleton] at h; exact Or.inl ⟨_, h⟩
   · split at h
     · rw [List.mem_singleton] at h; exact Or.inr h
     · cases h
theorem altI_mem {l inner : List Int} {n i : Nat} {w : Part} (h : w ∈ (altI l n inner i).parts) : (∃ y : Int, w = { sym := symS y n }) ∨ w = { code := codeMid } ∨ w = { code := codeEnd } := by
 unfold altI at h
 dsimp only at h
 rcases List.mem_append.1 h with h | h
 · rcases partsJ_mem h with h | h
   · exact Or.inl h
   · exact Or.inr (Or.inl h)
 · split at h
   · rw [List.mem_singleton] at h; exact Or.inr (Or.inr h)
   · cases h
theorem symS_good {lefts : List (List UInt8)} {n : Nat} (hn : 0 < n) (hl : ∀ k : Nat, k < n → nonS k ∈ lefts) (y : Int) : SymGood lefts (symS y n) := by
 have e1 := Int.emod_nonneg y (show (14 : Int) ≠ 0 by omega)
 have e3 := Int.emod_lt_of_pos (y % 14) (show (0 : Int) < n by omega)
 have e4 := Int.emod_nonneg (y % 14) (show (n : Int) ≠ 0 by omega)
 unfold symS
 split
 · have := hl (y % 14 % n).toNat (by omega)
   rw [Int.toNat_of_nonneg e4] at this
   exact Or.inr (Or.inl ⟨rfl, this⟩)
 · split
   · exact Or.inr (Or.inr rfl)
   · exact Or.inl ⟨_, rfl⟩
theorem altI_good {lefts : List (List UInt8)} {n : Nat} (hn : 0 < n) (hl : ∀ k : Nat, k < n → nonS k ∈ lefts) (l inner : List Int) (i : Nat) : AltGood lefts (altI l n inner i) := by
 obtain ⟨h1, h2, _⟩ := partsJ_coded l n (midB inner i) (min 4 (l.length - 1))
 refine ⟨fun w hw => ?_, rfl, ?_, ?_⟩
 · rcases altI_mem hw with ⟨y, rfl⟩ | rfl | rfl
   · exact Or.inr (symS_good hn hl y)
   · exact Or.inl (by simp [codeMid])
   · exact Or.inl (by simp [codeEnd])
 · unfold altI; dsimp only
   split
   · exact Nat.le_trans (codesB_snoc _ _) h1
   · rw [List.append_nil]; exact Nat.le_trans (codesB_le _) h1
 · unfold altI; dsimp only
   rw [List.length_append]
   split <;> simp <;> omega
theorem rulesN_mem {x : GrI} {n : Nat} : ∀ {i k : Nat} {a : Alt}, a ∈ (rulesN x n i).1 k → ∃ l j, a = altI l n x.inner j
 | 0, k, a, h => by cases h
 | i + 1, k, a, h => by
   unfold rulesN rulesStep at h
   dsimp only at h
   split at h
   · exact rulesN_mem h
   · unfold updN at h
     dsimp only at h
     split at h
     · rcases List.mem_append.1 h with h | h
       · exact rulesN_mem h
       · rw [List.mem_singleton] at h; exact ⟨_, _, h⟩
     · exact rulesN_mem h
theorem finA_mem {x : GrI} {n i k : Nat} {a : Alt} (h : a ∈ finA x.bare (rulesN x n i) k) : (∃ l j, a = altI l n x.inner j) ∨ a = { parts := [{ sym := litS k }] } := by
 unfold finA at h
 split at h
 · rcases List.mem_append.1 h with h | h
   · exact Or.inl (rulesN_mem h)
   · rw [List.mem_singleton] at h; exact Or.inr h
 · exact Or.inl (rulesN_mem h)
theorem finA_ne (b : Bool) (q : (Nat → List Alt) × (Nat → Bool)) (k : Nat) : finA b q k ≠ [] := by
 unfold finA
 split
 · simp
 · rename_i h; exact fun e => h (Or.inl e)
theorem sum_updN {f : Nat → List Alt} {k : Nat} {v : List Alt} (hv : v.length ≤ (f k).length + 1) (n : Nat) : ((List.range n).map fun q => (updN f k v q).length).sum ≤ ((List.range n).map fun q => (f q).length).sum + 1 ∧ (n ≤ k → ((List.range n).map fun q => (updN f k v q).length).sum = ((List.range n).map fun q => (f q).length).sum) := by
 induction n with
 | zero => simp
 | succ n ih =>
   obtain ⟨h1, h2⟩ := ih
   rw [List.range_succ, List.map_append, List.map_append, List.sum_append, List.sum_append]
   simp only [List.map_cons, List.map_nil, List.sum_cons, List.sum_nil, Nat.add_zero]
   by_cases e : n = k
   · subst e
     have := h2 (Nat.le_refl _)
     have e3 : updN f n v n = v := by unfold updN; rw [if_pos rfl]
     rw [e3]
     exact ⟨by omega, fun h => by omega⟩
   · have e3 : updN f k v n = f n := by unfold updN; rw [if_neg e]
     rw [e3]
     exact ⟨by omega, fun h => by have := h2 (by omega); omega⟩
theorem rulesN_sum (x : GrI) (n i : Nat) : ((List.range n).map fun q => ((rulesN x n i).1 q).length).sum ≤ i := by
 induction i with
 | zero =>
   have : ∀ m, ((List.range m).map fun q => ((rulesN x n 0).1 q).length).sum = 0 := fun m => by
    induction m with
    | zero => rfl
    | succ m ih => rw [List.range_succ, List.map_append, List.sum_append, ih]; simp [rulesN]
   rw [this]; exact Nat.le_refl _
 | succ i ih =>
   unfold rulesN rulesStep
   dsimp only
   split
   · omega
   · have := (sum_updN (f := (rulesN x n i).1) (k := ((x.rules.getD i []).getD 0 0 % (n : Int)).toNat) (v := (rulesN x n i).1 ((x.rules.getD i []).getD 0 0 % (n : Int)).toNat ++ [altI (x.rules.getD i []) n x.inner i]) (by simp) n).1
     exact Nat.le_trans this (by omega)
theorem finA_sum (b : Bool) (q : (Nat → List Alt) × (Nat → Bool)) (n : Nat) : ((List.range n).map fun k => (finA b q k).length).sum ≤ ((List.range n).map fun k => (q.1 k).length).sum + n := by
 induction n with
 | zero => simp
 | succ n ih =>
   rw [List.range_succ, List.map_append, List.map_append, List.sum_append, List.sum_append]
   simp only [List.map_cons, List.map_nil, List.sum_cons, List.sum_nil, Nat.add_zero]
   have : (finA b q n).length ≤ (q.1 n).length + 1 := by unfold finA; split <;> simp
   omega
theorem symS_may {n : Nat} (hn : 0 < n) (hn4 : n ≤ 4) (y : Int) : symB (symS y n) false true = true := by
 have e1 := Int.emod_nonneg y (show (14 : Int) ≠ 0 by omega)
 have e3 := Int.emod_lt_of_pos (y % 14) (show (0 : Int) < n by omega)
 have e4 := Int.emod_nonneg (y % 14) (show (n : Int) ≠ 0 by omega)
 have hN : ∀ k : Nat, k < 4 → symB { name := nonS k } false true = true := by decide
 have hL : ∀ k : Nat, k < 4 → symB (litS k) false true = true := by decide
 unfold symS
 split
 · have := hN (y % 14 % n).toNat (by omega)
   rw [Int.toNat_of_nonneg e4] at this; exact this
 · split
   · decide
   · rw [litS_mod]; exact hL _ (by omega)
theorem partI_may {n : Nat} (hn : 0 < n) (hn4 : n ≤ 4) {l inner : List Int} {i : Nat} {w : Part} (h : w ∈ (altI l n inner i).parts) : partB w = true := by
 rcases altI_mem h with ⟨y, rfl⟩ | rfl | rfl
 · exact symS_may hn hn4 y
 · decide
 · decide
theorem sourceS_may (x : GrI) : mayB (sourceS x) = true := by
 obtain ⟨h1, h2⟩ := nonsN_bd x
 obtain ⟨iss, d1, d2, d3, d4⟩ := declsN_lit x.levels (min 4 x.levels.length) (by omega)
 have hN : ∀ k : Nat, k < 4 → nameS (nonS k) = true := by decide
 have hL1 : ∀ k : Nat, k < 4 → ∀ b, symB (litS k) b true = true := by decide
 have hd : (declsS x.levels).all declB = true := List.all_eq_true.2 fun d hd => by
  obtain ⟨k, hk⟩ := List.getElem?_of_mem hd
  have hki : k < iss.length := by have h3 := (List.getElem?_eq_some_iff.1 hk).1; unfold declsS at h3; omega
  obtain ⟨q1, q2, q3, q4⟩ := d2 k d iss[k] hk (List.getElem?_eq_getElem hki)
  unfold declB badB
  have hs : d.syms.length ≠ 0 := by rw [q3, List.length_map]; exact fun e => q4 (List.length_eq_zero_iff.1 e)
  rw [Bool.and_eq_true]
  refine ⟨?_, List.all_eq_true.2 fun y hy => ?_⟩
  · have e1 : decide (d.kind < 1) = false := by rw [decide_eq_false_iff_not]; omega
    have e2 : decide (6 < d.kind) = false := by rw [decide_eq_false_iff_not]; omega
    have e3 : decide ((d.syms.length : Int) = 0) = false := by rw [decide_eq_false_iff_not]; omega
    have e4 : decide (d.kind = 6) = false := by rw [decide_eq_false_iff_not]; omega
    have e5 : decide (d.kind = 5) = false := by rw [decide_eq_false_iff_not]; omega
    rw [e1, e2, e3, e4, e5, q2]; rfl
  · rw [q3] at hy
    obtain ⟨i, hi, rfl⟩ := List.mem_map.1 hy
    have hi4 := d4 i (List.mem_flatten.2 ⟨_, List.getElem_mem hki, hi⟩)
    have e5 : decide (d.kind < 5) = true := by rw [decide_eq_true_eq]; omega
    rw [e5]
    exact hL1 i (by omega) _
 have hr : (sourceS x).rules.all ruleB = true := List.all_eq_true.2 fun r hr => by
  obtain ⟨k, hk, rfl⟩ := List.mem_map.1 hr
  have hkn := List.mem_range.1 hk
  unfold ruleB
  rw [Bool.and_eq_true, Bool.and_eq_true]
  refine ⟨⟨hN k (by omega), by simp [finA_ne]⟩, List.all_eq_true.2 fun a ha => ?_⟩
  rcases finA_mem ha with ⟨l, j, rfl⟩ | rfl
  · unfold altB
    rw [Bool.and_eq_true]
    exact ⟨List.all_eq_true.2 fun w hw => partI_may (by omega) (by omega) hw, rfl⟩
  · unfold altB
    rw [Bool.and_eq_true]
    refine ⟨?_, rfl⟩
    simp [partB, hL1 k (by omega)]
 have hne : (sourceS x).rules ≠ [] := fun e => by
  have := congrArg List.length e
  simp [sourceS] at this; omega
 unfold mayB
 rw [hr]
 have hp : (sourceS x).pro = [] := rfl
 have hdd : (sourceS x).decls = declsS x.levels := rfl
 rw [hp, hdd, hd]
 simp [hne, pctB]
theorem sourceS_ok (x : GrI) : gramB (sourceS x) = true := by
 obtain ⟨h1, h2⟩ := nonsN_bd x
 obtain ⟨iss, d1, d2, d3, d4⟩ := declsN_lit x.levels (min 4 x.levels.length) (by omega)
 refine litSrc_ok (iss := iss) (sourceS_may x) d1 d2 d3 (fun i hi => by have := d4 i hi; omega) (by simp [sourceS]; exact h2) (fun r hr => ?_) (fun lefts hl r hr a ha => ?_) ?_
 · obtain ⟨k, hk, rfl⟩ := List.mem_map.1 hr
   have := List.mem_range.1 hk
   exact ⟨k, by omega, rfl⟩
 · have hll : ∀ k : Nat, k < nonsN x → nonS k ∈ lefts := fun k hk => hl { left := nonS k, alts := finA x.bare (rulesN x (nonsN x) (min 9 x.rules.length)) k } (List.mem_map.2 ⟨k, List.mem_range.2 hk, rfl⟩)
   obtain ⟨k, hk, rfl⟩ := List.mem_map.1 hr
   rcases finA_mem ha with ⟨l, j, rfl⟩ | rfl
   · exact altI_good (by omega) hll l x.inner j
   · exact ⟨fun w hw => by rw [List.mem_singleton] at hw; subst hw; exact Or.inr (Or.inl ⟨_, rfl⟩), rfl, by simp [codesB], by simp⟩
 · have e : altsN (sourceS x).rules = ((List.range (nonsN x)).map fun k => (finA x.bare (rulesN x (nonsN x) (min 9 x.rules.length)) k).length).sum := by
    unfold altsN sourceS; dsimp only; rw [List.map_map]; rfl
   have := finA_sum x.bare (rulesN x (nonsN x) (min 9 x.rules.length)) (nonsN x)
   have := rulesN_sum x (nonsN x) (min 9 x.rules.length)
   omega
theorem nodup_part : ∀ {iss : List (List Nat)}, iss.flatten.Nodup → ∀ is ∈ iss, is.Nodup
 | [], _, is, h => by cases h
 | a :: r, hn, is, h => by
   rw [List.flatten_cons, List.nodup_append] at hn
   rcases List.mem_cons.1 h with rfl | h
   · exact hn.1
   · exact nodup_part hn.2.1 is h
theorem sourceS_fits (x : GrI) : (sourceS x).Fits := by
 obtain ⟨h1, h2⟩ := nonsN_bd x
 obtain ⟨iss, d1, d2, d3, d4⟩ := declsN_lit x.levels (min 4 x.levels.length) (by omega)
 have hlen : (declsS x.levels).length ≤ 4 := by
  have h5 : iss.length ≤ iss.flatten.length := by
   have hne : ∀ is ∈ iss, is ≠ [] := fun is hi => by
    obtain ⟨k, hk⟩ := List.getElem?_of_mem hi
    obtain ⟨d, hd⟩ : ∃ d, (declsN x.levels (min 4 x.levels.length))[k]? = some d := ⟨_, List.getElem?_eq_getElem (by have := (List.getElem?_eq_some_iff.1 hk).1; omega)⟩
    exact (d2 k d is hd hk).2.2.2
   clear d1 d2 d3 d4
   induction iss with
   | nil => simp
   | cons a r ih =>
     have := ih fun is hi => hne is (List.mem_cons_of_mem _ hi)
     have ha := List.length_pos_iff.2 (hne a (by simp))
     rw [List.flatten_cons, List.length_append, List.length_cons]; omega
  have h6 := nodup_lt (min 4 x.levels.length) _ d3 d4
  show (declsN x.levels (min 4 x.levels.length)).length ≤ 4
  omega
 refine ⟨by simp [sourceS], by simp [sourceS], by show (declsS x.levels).length ≤ _; omega, fun d hd => ?_, by simp [sourceS]; omega, fun r hr => ?_⟩
 · obtain ⟨k, hk⟩ := List.getElem?_of_mem hd
   have hki : k < iss.length := by have h3 := (List.getElem?_eq_some_iff.1 hk).1; unfold sourceS declsS at h3; dsimp only at h3; omega
   obtain ⟨q1, q2, q3, q4⟩ := d2 k d iss[k] hk (List.getElem?_eq_getElem hki)
   have h6 : iss[k].length ≤ 4 := nodup_lt 4 _ (nodup_part d3 _ (List.getElem_mem hki)) (fun i hi => by have := d4 i (List.mem_flatten.2 ⟨_, List.getElem_mem hki, hi⟩); omega)
   refine ⟨by simp [q2], by rw [q3, List.length_map]; omega, fun y hy => ?_⟩
   rw [q3] at hy
   obtain ⟨i, hi, rfl⟩ := List.mem_map.1 hy
   have hi4 := d4 i (List.mem_flatten.2 ⟨_, List.getElem_mem hki, hi⟩)
   rw [(lit_cases (show i < 4 by omega)).1]; simp
 · obtain ⟨k, hk, rfl⟩ := List.mem_map.1 hr
   have hkn := List.mem_range.1 hk
   have hfl : (finA x.bare (rulesN x (nonsN x) (min 9 x.rules.length)) k).length ≤ 20 := by
    have := rulesN_len x (nonsN x) (min 9 x.rules.length) k
    unfold finA; split <;> simp <;> omega
   have hsn : ∀ y : Int, (symS y (nonsN x)).name.length ≤ 5 := fun y => by
    have hg := symS_may (n := nonsN x) (by omega) (by omega) y
    unfold symS
    split
    · simp
    · split
      · simp
      · rw [litS_mod, (lit_cases (show ((y % 14 - 5) % 4).toNat < 4 by omega)).1]; simp
   refine ⟨by simp, by dsimp only; omega, fun a ha => ?_⟩
   rcases finA_mem ha with ⟨l, j, rfl⟩ | rfl
   · obtain ⟨_, _, _, g4⟩ := altI_good (lefts := (List.range (nonsN x)).map fun k : Nat => nonS k) (n := nonsN x) (by omega) (fun k hk => List.mem_map.2 ⟨k, List.mem_range.2 hk, rfl⟩) l x.inner j
     refine ⟨by omega, fun w hw => ?_, by simp [altI]⟩
     rcases altI_mem hw with ⟨y, rfl⟩ | rfl | rfl
     · exact ⟨by have := hsn y; dsimp only; omega, by simp⟩
     · exact ⟨by simp, by simp [codeMid]⟩
     · exact ⟨by simp, by simp [codeEnd]⟩
   · refine ⟨by simp, fun w hw => ?_, by simp⟩
     rw [List.mem_singleton] at hw; subst hw
     rw [Part.Fits, (lit_cases (show k < 4 by omega)).1]; simp
theorem sourceS_small (x : GrI) : Small (sourceS x) := by
 obtain ⟨h1, h2⟩ := nonsN_bd x
 obtain ⟨f1, f2, f3, f4, f5, f6⟩ := sourceS_fits x
 obtain ⟨iss, d1, d2, d3, d4⟩ := declsN_lit x.levels (min 4 x.levels.length) (by omega)
 have hd : ∀ d ∈ (sourceS x).decls, ∃ is : List Nat, LitDecl d is ∧ is.length ≤ 4 ∧ ∀ i ∈ is, i < 4 := fun d hd => by
  obtain ⟨k, hk⟩ := List.getElem?_of_mem hd
  have hki : k < iss.length := by have h3 := (List.getElem?_eq_some_iff.1 hk).1; unfold sourceS declsS at h3; dsimp only at h3; omega
  have hi4 : ∀ i ∈ iss[k], i < 4 := fun i hi => by have := d4 i (List.mem_flatten.2 ⟨_, List.getElem_mem hki, hi⟩); omega
  exact ⟨iss[k], d2 k d iss[k] hk (List.getElem?_eq_getElem hki), nodup_lt 4 _ (nodup_part d3 _ (List.getElem_mem hki)) hi4, hi4⟩
 have hlen : (sourceS x).decls.length ≤ 4 := by
  have h5 : iss.length ≤ iss.flatten.length := by
   have hne : ∀ is ∈ iss, is ≠ [] := fun is hi => by
    obtain ⟨k, hk⟩ := List.getElem?_of_mem hi
    obtain ⟨d, hd⟩ : ∃ d, (declsN x.levels (min 4 x.levels.length))[k]? = some d := ⟨_, List.getElem?_eq_getElem (by have := (List.getElem?_eq_some_iff.1 hk).1; omega)⟩
    exact (d2 k d is hd hk).2.2.2
   clear d1 d2 d3 d4
   induction iss with
   | nil => simp
   | cons a r ih =>
     have := ih fun is hi => hne is (List.mem_cons_of_mem _ hi)
     have ha := List.length_pos_iff.2 (hne a (by simp))
     rw [List.flatten_cons, List.length_append, List.length_cons]; omega
  have h6 := nodup_lt (min 4 x.levels.length) _ d3 d4
  show (declsN x.levels (min 4 x.levels.length)).length ≤ 4
  omega
 have hsn : ∀ y : Int, (symS y (nonsN x)).lit = true → (symS y (nonsN x)).name ≠ [] := fun y => by
  unfold symS
  split
  · intro e; cases e
  · split
    · intro e; cases e
    · intro _; rw [litS_mod, (lit_cases (show ((y % 14 - 5) % 4).toNat < 4 by omega)).1]; simp
 have ha : ∀ r ∈ (sourceS x).rules, r.alts.length ≤ 20 ∧ ∀ a ∈ r.alts, a.parts.length ≤ 6 ∧ a.prec = {} ∧ ∀ w ∈ a.parts, w.sym.lit = true → w.sym.name ≠ [] := fun r hr => by
  obtain ⟨k, hk, rfl⟩ := List.mem_map.1 hr
  have hkn := List.mem_range.1 hk
  refine ⟨?_, fun a ha => ?_⟩
  · have := rulesN_len x (nonsN x) (min 9 x.rules.length) k
    dsimp only
    unfold finA; split <;> simp <;> omega
  · rcases finA_mem ha with ⟨l, j, rfl⟩ | rfl
    · obtain ⟨_, g2, _, g4⟩ := altI_good (lefts := (List.range (nonsN x)).map fun k : Nat => nonS k) (n := nonsN x) (by omega) (fun k hk => List.mem_map.2 ⟨k, List.mem_range.2 hk, rfl⟩) l x.inner j
      refine ⟨g4, g2, fun w hw => ?_⟩
      rcases altI_mem hw with ⟨y, rfl⟩ | rfl | rfl
      · exact hsn y
      · intro e; cases e
      · intro e; cases e
    · refine ⟨by simp, rfl, fun w hw _ => ?_⟩
      rw [List.mem_singleton] at hw; subst hw
      rw [(lit_cases (show k < 4 by omega)).1]; simp
 refine ⟨by omega, fun d h => ?_, fun d h => ?_, fun d h y hy _ => ?_, ?_, fun r hr => ?_, fun r hr a h => ?_, fun r hr a h w hw => ?_, fun r hr a h e => ?_⟩
 · obtain ⟨is, ⟨q1, q2, q3, q4⟩, h5, h6⟩ := hd d h
   rw [q3, List.length_map]; omega
 · obtain ⟨is, ⟨q1, q2, q3, q4⟩, h5, h6⟩ := hd d h
   omega
 · obtain ⟨is, ⟨q1, q2, q3, q4⟩, h5, h6⟩ := hd d h
   rw [q3] at hy
   obtain ⟨i, hi, rfl⟩ := List.mem_map.1 hy
   rw [(lit_cases (h6 i hi)).1]; simp
 · simp [sourceS]; omega
 · have := (ha r hr).1; omega
 · have := ((ha r hr).2 a h).1; omega
 · exact ((ha r hr).2 a h).2.2 w hw
 · rw [((ha r hr).2 a h).2.1] at e; cases e
end Go.Proofs
