/- Part of a proof that a law of the given program answers true. -/
import Derived.Test.YtpnfbnlhjdnnpaaWPG
import Derived.Test.YtpnfbnlhjdnnpaaWJB
set_option linter.unusedSimpArgs false
set_option linter.unusedVariables false
namespace Go.Proofs
open Go.E
def SymIn (nt nn : Nat) (s : Int) : Prop := (∃ t : Nat, s = t ∧ t < nt) ∨ ∃ k : Nat, s = 1000 + (k : Int) ∧ k < nn
structure GOk (g : Grammar) : Prop where
 tk : 3 ≤ g.toks.length
 tk2 : g.toks.length ≤ 40
 nn : 1 ≤ g.nons.length
 nn2 : g.nons.length ≤ 24
 pl : 1 ≤ g.prods.length
 pl2 : g.prods.length ≤ 60
 left : ∀ p ∈ g.prods, ∃ l : Nat, p.left = l ∧ l < g.nons.length
 rlen : ∀ p ∈ g.prods, p.right.length ≤ 8
 right : ∀ p ∈ g.prods, ∀ s ∈ p.right, SymIn g.toks.length g.nons.length s
 prec : ∀ p ∈ g.prods, p.prec = -1 ∨ ∃ t : Nat, p.prec = t ∧ t < g.toks.length
 head : ∃ p r, g.prods = p :: r ∧ p.left = 0 ∧ (∃ k : Nat, p.right = [1000 + (k : Int)] ∧ k < g.nons.length)
structure MInv (m : Mk) : Prop where
 tk : 3 ≤ m.toks.length
 inn : 0 ≤ m.inner
 left : ∀ p ∈ m.prods, 0 ≤ p.left ∧ p.left ≤ m.lefts.length + m.inner
 right : ∀ p ∈ m.prods, ∀ s ∈ p.right, SymIn m.toks.length (1 + m.lefts.length + m.inner.toNat) s
 prec : ∀ p ∈ m.prods, p.prec = -1 ∨ (0 ≤ p.prec ∧ p.prec < m.toks.length)
theorem SymIn.mono {a b a' b' : Nat} {s : Int} (h : SymIn a b s) (h1 : a ≤ a') (h2 : b ≤ b') : SymIn a' b' s := by
 rcases h with ⟨t, e, l⟩ | ⟨k, e, l⟩
 · exact Or.inl ⟨t, e, by omega⟩
 · exact Or.inr ⟨k, e, by omega⟩
theorem MInv.up {m m' : Mk} (h : MInv m) (hp : m'.prods = m.prods) (ht : m.toks.length ≤ m'.toks.length) (hl : m'.lefts = m.lefts) (hi : m.inner ≤ m'.inner) : MInv m' := by
 have := h.inn
 refine ⟨by have := h.tk; omega, by omega, fun p hq => ?_, fun p hq s hs => ?_, fun p hq => ?_⟩
 · rw [hp] at hq; have := h.left p hq; rw [hl]; omega
 · rw [hp] at hq; rw [hl]; exact (h.right p hq s hs).mono ht (by omega)
 · rw [hp] at hq
   rcases h.prec p hq with h | ⟨h1, h2⟩
   · exact Or.inl h
   · exact Or.inr ⟨h1, by omega⟩
theorem MInv.put {m : Mk} (h : MInv m) {p : GPr} (h1 : 0 ≤ p.left ∧ p.left ≤ m.lefts.length + m.inner) (h2 : ∀ s ∈ p.right, SymIn m.toks.length (1 + m.lefts.length + m.inner.toNat) s) (h3 : p.prec = -1 ∨ (0 ≤ p.prec ∧ p.prec < m.toks.length)) : MInv { m with prods := m.prods ++ [p] } := by
 refine ⟨h.tk, h.inn, fun q hq => ?_, fun q hq => ?_, fun q hq => ?_⟩ <;> rcases List.mem_append.1 hq with hq | hq
 · exact h.left q hq
 · rw [List.mem_singleton] at hq; subst hq; exact h1
 · exact h.right q hq
 · rw [List.mem_singleton] at hq; subst hq; exact h2
 · exact h.prec q hq
 · rw [List.mem_singleton] at hq; subst hq; exact h3
theorem symM_in {m : Mk} (x : Sym) (ht : 3 ≤ m.toks.length) (hi : 0 ≤ m.inner) : SymIn (symM m x).1.toks.length (1 + m.lefts.length + m.inner.toNat) (symM m x).2 ∧ (x.lit = true ∨ leftGo x.name m.lefts 0 < 0 → 0 ≤ (symM m x).2 ∧ (symM m x).2 < (symM m x).1.toks.length) := by
 have hb := putM_bd m x (by omega)
 have hl := leftGo_bd x.name m.lefts 0
 have htk := tokM_bd x m.toks (by omega)
 have hf := (failM_f m x.at_ x.name).1
 have tokI : ∀ {n : Nat} {s : Int}, 0 ≤ s → s < n → SymIn n (1 + m.lefts.length + m.inner.toNat) s := fun h1 h2 => Or.inl ⟨_, (Int.toNat_of_nonneg h1).symm, by omega⟩
 unfold symM
 split
 · exact ⟨tokI hb.1 hb.2, fun _ => hb⟩
 · rename_i hx
   split
   · rename_i h0
     refine ⟨Or.inr ⟨(1 + leftGo x.name m.lefts 0).toNat, by dsimp only; omega, by omega⟩, fun h => ?_⟩
     rcases h with h | h
     · exact absurd h hx
     · omega
   · split
     · dsimp only; rw [hf]
       exact ⟨tokI (by omega) (by omega), fun _ => ⟨by omega, by omega⟩⟩
     · dsimp only; exact ⟨tokI (by omega) (by omega), fun _ => ⟨by omega, by omega⟩⟩
theorem altGo_in : ∀ (l : List Part) (m : Mk) (p : GPr), MInv m → (∀ s ∈ p.right, SymIn m.toks.length (1 + m.lefts.length + m.inner.toNat) s) → MInv (altGo l (m, p)).1 ∧ ∀ s ∈ (altGo l (m, p)).2.right, SymIn (altGo l (m, p)).1.toks.length (1 + (altGo l (m, p)).1.lefts.length + (altGo l (m, p)).1.inner.toNat) s
 | [], m, p, h, hp => by rw [altGo_nil]; exact ⟨h, hp⟩
 | w :: r, m, p, h, hp => by
   rw [altGo_cons]
   obtain ⟨y1, y2, y3, y4, y5, y6, y7, y8⟩ := symM_f m w.sym
   have hs := (symM_in w.sym h.tk h.inn).1
   have hi := h.inn
   split
   · refine altGo_in r _ _ (h.up y3 y7 y2 (by omega)) fun s hs2 => ?_
     rw [y2, y6]
     rcases List.mem_append.1 hs2 with hs2 | hs2
     · exact (hp s hs2).mono y7 (Nat.le_refl _)
     · rw [List.mem_singleton] at hs2; subst hs2; exact hs
   · split
     · exact ⟨h, hp⟩
     · refine altGo_in r _ _ ?_ fun s hs2 => ?_
       · refine (h.up (m' := { m with inner := m.inner + 1 }) rfl (Nat.le_refl _) rfl (by dsimp only; omega)).put ⟨by dsimp only; omega, by dsimp only; omega⟩ (fun s hs2 => by cases hs2) (Or.inl rfl)
       · dsimp only at hs2 ⊢
         rcases List.mem_append.1 hs2 with hs2 | hs2
         · exact (hp s hs2).mono (Nat.le_refl _) (by omega)
         · rw [List.mem_singleton] at hs2
           exact Or.inr ⟨m.lefts.length + (m.inner + 1).toNat, by rw [hs2]; omega, by omega⟩
theorem precGo_in (n : Nat) : ∀ (l : List Int) (p : Int), (∀ s ∈ l, 0 ≤ s ∧ (s < 1000 → s < n)) → (p = -1 ∨ (0 ≤ p ∧ p < n)) → (precGo l p = -1 ∨ (0 ≤ precGo l p ∧ precGo l p < n))
 | [], p, _, hp => hp
 | x :: r, p, h, hp => by
   rw [precGo]
   refine precGo_in n r _ (fun s hs => h s (List.mem_cons_of_mem _ hs)) ?_
   split
   · rename_i hx; have := h x (by simp); exact Or.inr ⟨this.1, this.2 hx⟩
   · exact hp
theorem altM_in {m : Mk} (n : List UInt8) (a : Alt) (h : MInv m) : MInv (altM m n a) := by
 have hl := leftGo_bd n m.lefts 0
 obtain ⟨g1, g2, g3, g4, g5, g6, g7, g8, g9, g10⟩ := altGo_f a.parts m { left := 1 + leftGo n m.lefts 0, prec := -1, at_ := a.at_ }
 obtain ⟨h1, h2⟩ := altGo_in a.parts m { left := 1 + leftGo n m.lefts 0, prec := -1, at_ := a.at_ } h (fun s hs => by cases hs)
 have hi := h.inn
 unfold altM
 dsimp only
 generalize altGo a.parts (m, { left := 1 + leftGo n m.lefts 0, prec := -1, at_ := a.at_ }) = q at *
 have hlf : 0 ≤ q.2.left ∧ q.2.left ≤ q.1.lefts.length + q.1.inner := by rw [g5, g1]; dsimp only; omega
 obtain ⟨ff1, ff2, ff3, ff4, ff5, ff6, ff7, ff8⟩ := failM_f q.1 a.prec.at_ a.prec.name
 split
 · split
   · rename_i hc
     obtain ⟨y1, y2, y3, y4, y5, y6, y7, y8⟩ := symM_f q.1 a.prec
     have hs := (symM_in a.prec h1.tk h1.inn).2 (by rcases hc with hc | hc <;> simp [hc])
     refine (h1.up y3 y7 y2 (by omega)).put (by rw [y2, y6]; exact hlf) (fun s hs2 => ?_) (Or.inr hs)
     rw [y2, y6]; exact (h2 s hs2).mono y7 (Nat.le_refl _)
   · refine (h1.up (m' := failM q.1 a.prec.at_ a.prec.name) ff5 (by rw [ff1]; omega) ff3 (by omega)).put (p := { q.2 with prec := -1, args := q.2.right }) (by rw [ff3, ff8]; exact hlf) (fun s hs2 => by rw [ff1, ff3, ff8]; exact h2 s hs2) (Or.inl rfl) |> fun hh => ?_
     rw [ff5] at hh
     exact hh
 · refine h1.put hlf h2 ?_
   refine precGo_in _ _ _ (fun s hs => ?_) (Or.inl rfl)
   rcases h2 s hs with ⟨t, e, l⟩ | ⟨k, e, l⟩
   · exact ⟨by omega, fun _ => by omega⟩
   · exact ⟨by omega, fun _ => by omega⟩
theorem altsGo_in (n : List UInt8) : ∀ (l : List Alt) (m : Mk), MInv m → MInv (altsGo n l m)
 | [], m, h => h
 | a :: r, m, h => by rw [altsGo_cons]; exact altsGo_in n r _ (altM_in n a h)
theorem rulGo_in : ∀ (l : List Rule) (m : Mk), MInv m → MInv (rulGo l m)
 | [], m, h => h
 | r :: l, m, h => by rw [rulGo_cons]; exact rulGo_in l _ (altsGo_in r.left r.alts m h)
def HdP (P : GPr) (m : Mk) : Prop := ∃ r, m.prods = P :: r
theorem altGo_hd (P : GPr) : ∀ (l : List Part) (m : Mk) (p : GPr), HdP P m → HdP P (altGo l (m, p)).1
 | [], m, p, h => h
 | w :: r, m, p, h => by
   rw [altGo_cons]
   obtain ⟨y1, y2, y3, y4, y5, y6, y7, y8⟩ := symM_f m w.sym
   obtain ⟨t, ht⟩ := h
   split
   · exact altGo_hd P r _ _ ⟨t, by rw [y3]; exact ht⟩
   · split
     · exact ⟨t, ht⟩
     · exact altGo_hd P r _ _ ⟨_, by dsimp only; rw [ht]; rfl⟩
theorem altM_hd (P : GPr) {m : Mk} (n : List UInt8) (a : Alt) (h : HdP P m) : HdP P (altM m n a) := by
 have h1 := altGo_hd P a.parts m { left := 1 + leftGo n m.lefts 0, prec := -1, at_ := a.at_ } h
 unfold altM
 dsimp only
 generalize altGo a.parts (m, { left := 1 + leftGo n m.lefts 0, prec := -1, at_ := a.at_ }) = q at *
 obtain ⟨t, ht⟩ := h1
 obtain ⟨y1, y2, y3, y4, y5, y6, y7, y8⟩ := symM_f q.1 a.prec
 split
 · split
   · exact ⟨_, by dsimp only; rw [y3, ht]; rfl⟩
   · exact ⟨_, by dsimp only; rw [ht]; rfl⟩
 · exact ⟨_, by dsimp only; rw [ht]; rfl⟩
theorem altsGo_hd (P : GPr) (n : List UInt8) : ∀ (l : List Alt) (m : Mk), HdP P m → HdP P (altsGo n l m)
 | [], m, h => h
 | a :: r, m, h => by rw [altsGo_cons]; exact altsGo_hd P n r _ (altM_hd P n a h)
theorem rulGo_hd (P : GPr) : ∀ (l : List Rule) (m : Mk), HdP P m → HdP P (rulGo l m)
 | [], m, h => h
 | r :: l, m, h => by rw [rulGo_cons]; exact rulGo_hd P l _ (altsGo_hd P r.left r.alts m h)
theorem numIx_len (g : List Bool) : ∀ (f i : Nat) (l : List Tok) (n : Int), (numIx g f i (l, n)).1.length = l.length
 | 0, i, l, n => rfl
 | f + 1, i, l, n => by
   rw [numIx_succ]; split
   · exact numIx_len g f _ _ _
   · rw [numIx_len]; simp
theorem synGo_k (d : Decl) : ∀ (l : List Sym) (m : Mk) (st : List UInt8), SameM m (synGo d l (m, st)).1 ∧ m.toks.length ≤ (synGo d l (m, st)).1.toks.length
 | [], m, st => ⟨⟨rfl, rfl, rfl, rfl⟩, Nat.le_refl _⟩
 | x :: r, m, st => by
   rw [synGo_cons]
   obtain ⟨⟨a1, a2, a3, a4⟩, _, h2, _⟩ := declM_f m d x
   obtain ⟨ff1, ff2, ff3, ff4, ff5, ff6, ff7, ff8⟩ := failM_f m x.at_ x.name
   split
   · obtain ⟨⟨b1, b2, b3, b4⟩, k2⟩ := synGo_k d r (declM m d x) st
     exact ⟨⟨b1.trans a1, b2.trans a2, b3.trans a3, b4.trans a4⟩, by omega⟩
   · have key : ∀ m', SameM m m' → m.toks.length ≤ m'.toks.length → SameM m (synGo d r (m', x.name)).1 ∧ m.toks.length ≤ (synGo d r (m', x.name)).1.toks.length := fun m' hm ht => by
      obtain ⟨⟨b1, b2, b3, b4⟩, k2⟩ := synGo_k d r m' x.name
      exact ⟨⟨b1.trans hm.1, b2.trans hm.2.1, b3.trans hm.2.2.1, b4.trans hm.2.2.2⟩, by omega⟩
     split
     · exact key _ ⟨ff3, ff5, ff6, ff8⟩ (by rw [ff1]; omega)
     · exact key _ ⟨rfl, rfl, rfl, rfl⟩ (Nat.le_refl _)
theorem decGo_k : ∀ (l : List Decl) (m : Mk) (st : List UInt8), SameM m (decGo l (m, st)).1 ∧ m.toks.length ≤ (decGo l (m, st)).1.toks.length
 | [], m, st => ⟨⟨rfl, rfl, rfl, rfl⟩, Nat.le_refl _⟩
 | d :: r, m, st => by
   rw [decGo_cons]
   have key : ∀ m', SameM m m' → m.toks.length ≤ m'.toks.length → SameM m (decGo r (synGo d d.syms (m', st))).1 ∧ m.toks.length ≤ (decGo r (synGo d d.syms (m', st))).1.toks.length := fun m' hm ht => by
    obtain ⟨⟨a1, a2, a3, a4⟩, k1⟩ := synGo_k d d.syms m' st
    obtain ⟨⟨b1, b2, b3, b4⟩, k2⟩ := decGo_k r (synGo d d.syms (m', st)).1 (synGo d d.syms (m', st)).2
    exact ⟨⟨b1.trans (a1.trans hm.1), b2.trans (a2.trans hm.2.1), b3.trans (a3.trans hm.2.2.1), b4.trans (a4.trans hm.2.2.2)⟩, by show m.toks.length ≤ (decGo r ((synGo d d.syms (m', st)).1, (synGo d d.syms (m', st)).2)).1.toks.length; omega⟩
   split
   · exact key _ ⟨rfl, rfl, rfl, rfl⟩ (Nat.le_refl _)
   · exact key _ ⟨rfl, rfl, rfl, rfl⟩ (Nat.le_refl _)
theorem lefGo_k : ∀ (l : List Rule) (m : Mk), (lefGo l m).toks = m.toks ∧ (lefGo l m).inner = m.inner ∧ (lefGo l m).nons = m.nons
 | [], m => ⟨rfl, rfl, rfl⟩
 | r :: l, m => by
   rw [lefGo_cons]
   obtain ⟨d1, d2, d3, d4, d5, d6⟩ := dupL_f m r
   obtain ⟨h1, h2, h3⟩ := lefGo_k l (addL (dupL m r) r.left)
   have e : (addL (dupL m r) r.left).toks = m.toks ∧ (addL (dupL m r) r.left).inner = m.inner ∧ (addL (dupL m r) r.left).nons = m.nons := by
    unfold addL
    split
    · exact ⟨d1, d6, d5⟩
    · exact ⟨d1, d6, d5⟩
   exact ⟨h1.trans e.1, h2.trans e.2.1, h3.trans e.2.2⟩
theorem unkGo1_k (kind : Int) : ∀ (l : List Sym) (m : Mk), SameF m (unkGo1 kind l m)
 | [], m => SameF.rfl' m
 | x :: r, m => by rw [unkGo1_cons]; exact (unkM_f m kind x).trans' (unkGo1_k kind r _)
theorem unkGo_k : ∀ (l : List Decl) (m : Mk), SameF m (unkGo l m)
 | [], m => SameF.rfl' m
 | d :: r, m => by rw [unkGo_cons]; exact (unkGo1_k d.kind d.syms m).trans' (unkGo_k r _)
def preM (src : Source) : Mk := unkGo src.decls (lefGo src.rules (decGo src.decls ({}, [])).1)
def startM (src : Source) : List UInt8 := if (decGo src.decls ({}, [])).2 = [] then (src.rules.headD {}).left else (decGo src.decls ({}, [])).2
def prod0 (src : Source) : GPr := { left := 0, right := [1001 + leftGo (startM src) (preM src).lefts 0], prec := -1 }
theorem madeM_eq (src : Source) : madeM src = rulGo src.rules { preM src with prods := [prod0 src] } := rfl
theorem preM_f (src : Source) : 3 ≤ (preM src).toks.length ∧ (preM src).inner = 0 ∧ (preM src).nons = [] := by
 obtain ⟨⟨a1, a2, a3, a4⟩, k1⟩ := decGo_k src.decls {} []
 obtain ⟨l1, l2, l3⟩ := lefGo_k src.rules (decGo src.decls ({}, [])).1
 obtain ⟨u1, u2, u3, u4, u5, u6, u7⟩ := unkGo_k src.decls (lefGo src.rules (decGo src.decls ({}, [])).1)
 refine ⟨?_, ?_, ?_⟩
 · show 3 ≤ (unkGo _ _).toks.length; rw [u1, l1]; exact k1
 · show (unkGo _ _).inner = 0; rw [u7, l2]; exact a4
 · show (unkGo _ _).nons = []; rw [u6, l3]; exact a3
theorem madeM_in (src : Source) : MInv (madeM src) ∧ HdP (prod0 src) (madeM src) := by
 obtain ⟨h1, h2, h3⟩ := preM_f src
 have hl := leftGo_bd (startM src) (preM src).lefts 0
 rw [madeM_eq]
 refine ⟨rulGo_in _ _ ⟨h1, by dsimp only; omega, fun p hp => ?_, fun p hp s hs => ?_, fun p hp => ?_⟩, rulGo_hd _ _ _ ⟨[], rfl⟩⟩ <;> (dsimp only at hp; rw [List.mem_singleton] at hp; subst hp)
 · unfold prod0; dsimp only; omega
 · unfold prod0 at hs; dsimp only at hs ⊢; rw [List.mem_singleton] at hs; subst hs
   exact Or.inr ⟨(1 + leftGo (startM src) (preM src).lefts 0).toNat, by omega, by omega⟩
 · exact Or.inl rfl
theorem altsGo_nons (n : List UInt8) : ∀ (l : List Alt) (m : Mk), (altsGo n l m).nons = m.nons ∧ (altsGo n l m).lefts = m.lefts
 | [], m => ⟨rfl, rfl⟩
 | a :: r, m => by
   rw [altsGo_cons]
   obtain ⟨h1, _, h3, _⟩ := altM_f m n a
   obtain ⟨k1, k2⟩ := altsGo_nons n r (altM m n a)
   exact ⟨k1.trans h3, k2.trans h1⟩
theorem rulGo_nons : ∀ (l : List Rule) (m : Mk), (rulGo l m).nons = m.nons ∧ (rulGo l m).lefts = m.lefts
 | [], m => ⟨rfl, rfl⟩
 | r :: l, m => by
   rw [rulGo_cons]
   obtain ⟨h1, h2⟩ := altsGo_nons r.left r.alts m
   obtain ⟨k1, k2⟩ := rulGo_nons l (altsGo r.left r.alts m)
   exact ⟨k1.trans h1, k2.trans h2⟩
theorem madeN_f (m : Mk) : (madeN m).toks.length = m.toks.length ∧ (madeN m).nons.length = 1 + m.lefts.length + m.inner.toNat ∧ (madeN m).prods = m.prods := by
 unfold madeN
 dsimp only
 refine ⟨numIx_len _ _ _ _ _, ?_, rfl⟩
 rw [List.length_append, List.length_append, nonGo_len, innN_len]; rfl
theorem gramS_eq {src : Source} (h : gramB src = true) : mayB src = true ∧ (madeM src).e = 0 ∧ longB (madeN (madeM src)) = false ∧ gramS src = { toks := (madeN (madeM src)).toks, nons := (madeN (madeM src)).nons, prods := (madeN (madeM src)).prods, pro := src.pro, tail := src.tail } := by
 have h := of_decide_eq_true h
 unfold gramS
 unfold ofS at *
 by_cases h1 : mayB src = true
 · rw [if_pos h1] at *
   by_cases h2 : (madeM src).e ≠ 0
   · rw [if_pos h2] at h; exact absurd h h2
   · rw [if_neg h2] at *
     by_cases h3 : longB (madeN (madeM src)) = true
     · rw [if_pos h3] at h; cases h
     · rw [if_neg h3] at *
       exact ⟨h1, by simpa using h2, by simpa using h3, rfl⟩
 · rw [if_neg h1] at h; cases h
theorem gok {src : Source} (h : gramB src = true) : GOk (gramS src) := by
 obtain ⟨_, _, hl, he⟩ := gramS_eq h
 obtain ⟨hi, r, hr⟩ := madeM_in src
 obtain ⟨n1, n2, n3⟩ := madeN_f (madeM src)
 unfold longB at hl
 simp only [Bool.or_eq_false_iff, decide_eq_false_iff_not, List.any_eq_false, decide_eq_true_eq] at hl
 obtain ⟨⟨⟨l1, l2⟩, l3⟩, l4⟩ := hl
 have hinn := hi.inn
 rw [he]
 refine ⟨?_, ?_, ?_, ?_, ?_, ?_, fun p hp => ?_, fun p hp => ?_, fun p hp s hs => ?_, fun p hp => ?_, ?_⟩ <;> dsimp only at *
 · rw [n1]; exact hi.tk
 · omega
 · rw [n2]; omega
 · omega
 · rw [n3, hr]; simp
 · omega
 · rw [n3] at hp; have := hi.left p hp
   exact ⟨p.left.toNat, by omega, by omega⟩
 · have := l4 p hp; omega
 · rw [n3] at hp; rw [n1, n2]; exact hi.right p hp s hs
 · rw [n3] at hp
   rcases hi.prec p hp with h | ⟨h1, h2⟩
   · exact Or.inl h
   · exact Or.inr ⟨p.prec.toNat, by omega, by omega⟩
 · refine ⟨prod0 src, r, by rw [n3]; exact hr, rfl, (1 + leftGo (startM src) (preM src).lefts 0).toNat, ?_, ?_⟩
   · have := leftGo_bd (startM src) (preM src).lefts 0
     unfold prod0; dsimp only
     rw [show (1001 + leftGo (startM src) (preM src).lefts 0 : Int) = 1000 + ((1 + leftGo (startM src) (preM src).lefts 0).toNat : Int) by omega]
   · have := leftGo_bd (startM src) (preM src).lefts 0
     have := (rulGo_nons src.rules { preM src with prods := [prod0 src] }).2
     rw [← madeM_eq] at this
     dsimp only at this
     rw [n2, this]; omega

theorem tokGo_none {x : Sym} : ∀ {l : List Tok} {i : Nat}, (∀ (n : Nat) t, l[n]? = some t → ¬ (t.name = x.name ∧ t.lit = x.lit ∧ i + n ≠ 2)) → tokGo x l i = -1
 | [], i, _ => rfl
 | t :: r, i, h => by
   unfold tokGo
   rw [if_neg (by have := h 0 t rfl; simpa using this)]
   exact tokGo_none fun n u hu => by have := h (n + 1) u (by simpa using hu); rwa [show i + 1 + n = i + (n + 1) by omega]
theorem tokGo_some {x : Sym} : ∀ {l : List Tok} {i n : Nat} {t : Tok}, l[n]? = some t → t.name = x.name → t.lit = x.lit → i + n ≠ 2 → 0 ≤ tokGo x l i
 | [], i, n, t, h, _, _, _ => by simp at h
 | u :: r, i, n, t, h, h1, h2, h3 => by
   unfold tokGo
   split
   · omega
   · rename_i hne
     cases n with
     | zero => simp at h; subst h; exact absurd ⟨h1, h2, by omega⟩ hne
     | succ n => exact tokGo_some (l := r) (i := i + 1) (n := n) (t := t) (by simpa using h) h1 h2 (by omega)
theorem ownGo_none {n : Int} : ∀ {l : List Tok} {i : Nat}, (∀ t ∈ l, t.num ≠ n) → ownGo n l i = -1
 | [], i, _ => rfl
 | t :: r, i, h => by
   unfold ownGo
   rw [if_neg (h t (by simp))]
   exact ownGo_none fun u hu => h u (List.mem_cons_of_mem _ hu)
abbrev core (t : Tok) : List UInt8 × Bool × Int := (t.name, t.lit, t.num)
abbrev litC (j : Nat) : List UInt8 × Bool × Int := ((litS j).name, true, litN (litS j))
abbrev base3 : List (List UInt8 × Bool × Int) := [([36, 101, 110, 100], false, 0), (errS, false, -1), ([36, 117, 110, 107], false, -1)]
structure LInv (m : Mk) (js : List Nat) : Prop where
 e : m.e = 0
 toks : m.toks.map core = base3 ++ js.map litC
 nd : js.Nodup
 lt : ∀ j ∈ js, j < 4
theorem lit_cases {j : Nat} (h : j < 4) : (litS j).name = [UInt8.ofNat (112 + j)] ∧ litN (litS j) = 112 + j := by
 rcases j with _ | _ | _ | _ | j
 · exact ⟨rfl, rfl⟩
 · exact ⟨rfl, rfl⟩
 · exact ⟨rfl, rfl⟩
 · exact ⟨rfl, rfl⟩
 · omega
theorem lit_inj {i j : Nat} (hi : i < 4) (hj : j < 4) (h : (litS i).name = (litS j).name) : i = j := by
 have h1 := (lit_cases hi).1
 have h2 := (lit_cases hj).1
 rw [h1, h2] at h
 simp only [List.cons.injEq, and_true] at h
 have := congrArg UInt8.toNat h
 simp at this
 omega
theorem LInv.get {m : Mk} {js : List Nat} (h : LInv m js) {n : Nat} {t : Tok} (ht : m.toks[n]? = some t) : (base3 ++ js.map litC)[n]? = some (core t) := by rw [← h.toks, List.getElem?_map, ht]; rfl
theorem LInv.len {m : Mk} {js : List Nat} (h : LInv m js) : m.toks.length = 3 + js.length := by have := congrArg List.length h.toks; simp at this; omega
theorem LInv.tok_in {m : Mk} {js : List Nat} (h : LInv m js) {j : Nat} (hj : j ∈ js) : 0 ≤ tokM m.toks (litS j) := by
 obtain ⟨i, hi, he⟩ := List.getElem_of_mem hj
 have hl := h.len
 have h3 : m.toks[3 + i]? = some (m.toks[3 + i]'(by omega)) := List.getElem?_eq_getElem (by omega)
 have hg := h.get h3
 rw [List.getElem?_append_right (by simp), show 3 + i - base3.length = i by simp, List.getElem?_map, List.getElem?_eq_getElem hi, he] at hg
 simp only [Option.map_some, Option.some.injEq, Prod.mk.injEq] at hg
 refine tokGo_some (n := 2 + i) (t := m.toks[3 + i]'(by omega)) ?_ hg.1.symm ?_ (by omega)
 · rw [List.getElem?_drop, show 1 + (2 + i) = 3 + i by omega]; exact h3
 · rw [← hg.2.1]
theorem LInv.tok_out {m : Mk} {js : List Nat} (h : LInv m js) {j : Nat} (hj : j ∉ js) (hj4 : j < 4) : tokM m.toks (litS j) = -1 := by
 refine tokGo_none fun n t ht => ?_
 rw [List.getElem?_drop] at ht
 have hg := h.get ht
 rintro ⟨h1, h2, h3⟩
 match n, hg with
 | 0, hg => simp at hg; rw [hg.2.1] at h2; cases h2
 | 1, hg => exact absurd rfl h3
 | n + 2, hg =>
   rw [List.getElem?_append_right (by simp; omega), List.getElem?_map] at hg
   cases hq : js[1 + (n + 2) - base3.length]? with
   | none => rw [hq] at hg; cases hg
   | some q =>
     rw [hq] at hg
     simp only [Option.map_some, Option.some.injEq, Prod.mk.injEq] at hg
     have hqm := List.mem_of_getElem? hq
     have := lit_inj (h.lt q hqm) hj4 (hg.1.trans h1)
     subst this; exact hj hqm
theorem LInv.own {m : Mk} {js : List Nat} (h : LInv m js) {j : Nat} (hj : j ∉ js) (hj4 : j < 4) : ownM m.toks (litN (litS j)) = -1 := by
 refine ownGo_none fun t ht e => ?_
 obtain ⟨n, hn⟩ := List.getElem?_of_mem ht
 rw [List.getElem?_drop] at hn
 have hg := h.get hn
 rw [List.getElem?_append_right (by simp), List.getElem?_map] at hg
 cases hq : js[3 + n - base3.length]? with
 | none => rw [hq] at hg; cases hg
 | some q =>
   rw [hq] at hg
   simp only [Option.map_some, Option.some.injEq, Prod.mk.injEq] at hg
   have hqm := List.mem_of_getElem? hq
   have h4 := h.lt q hqm
   have := (lit_cases h4).2; have := (lit_cases hj4).2
   have : q = j := by omega
   subst this; exact hj hqm
theorem litS_mod (k : Int) : litS k = litS ((k % 4).toNat : Nat) := by
 have h1 := Int.emod_nonneg k (show (4 : Int) ≠ 0 by omega)
 unfold litS
 rw [Int.toNat_of_nonneg h1, Int.emod_emod_of_dvd k (Int.dvd_refl 4)]
theorem LInv.put {m : Mk} {js : List Nat} (h : LInv m js) (k : Int) : ∃ js', LInv (putM m (litS k)).1 js' ∧ (∀ j ∈ js, j ∈ js') ∧ ∀ j ∈ js', j ∈ js ∨ j = (k % 4).toNat := by
 have h1 := Int.emod_nonneg k (show (4 : Int) ≠ 0 by omega)
 have h2 := Int.emod_lt_of_pos k (show (0 : Int) < 4 by omega)
 rw [litS_mod k]
 obtain ⟨j, hj⟩ : ∃ j : Nat, (k % 4).toNat = j := ⟨_, rfl⟩
 have hj4 : j < 4 := by omega
 rw [hj]
 unfold putM
 by_cases hm : j ∈ js
 · rw [if_pos (h.tok_in hm)]
   exact ⟨js, h, fun _ a => a, fun _ a => Or.inl a⟩
 · rw [if_neg (by rw [h.tok_out hm hj4]; omega)]
   dsimp only
   rw [if_neg (by rw [h.own hm hj4]; rintro ⟨_, e⟩; omega)]
   refine ⟨js ++ [j], ⟨h.e, ?_, ?_, fun q hq => ?_⟩, fun q hq => List.mem_append_left _ hq, fun q hq => ?_⟩
   · dsimp only; rw [List.map_append, h.toks, List.map_append, List.append_assoc]; rfl
   · rw [List.nodup_append]
     exact ⟨h.nd, by simp, fun a ha b hb e => by rw [List.mem_singleton] at hb; subst hb; subst e; exact hm ha⟩
   · rcases List.mem_append.1 hq with hq | hq
     · exact h.lt q hq
     · rw [List.mem_singleton] at hq; subst hq; exact hj4
   · rcases List.mem_append.1 hq with hq | hq
     · exact Or.inl hq
     · rw [List.mem_singleton] at hq; exact Or.inr hq
theorem LInv.non {m : Mk} {js : List Nat} (h : LInv m js) {k : Nat} (hk : k < 4) : tokM m.toks { name := nonS k } = -1 := by
 refine tokGo_none fun n t ht => ?_
 rw [List.getElem?_drop] at ht
 have hg := h.get ht
 rintro ⟨h1, h2, h3⟩
 match n, hg with
 | 0, hg =>
   simp at hg
   rw [← hg.1] at h1
   have := congrArg List.length h1
   simp [errS] at this
 | 1, hg => exact absurd rfl h3
 | n + 2, hg =>
   rw [List.getElem?_append_right (by simp; omega), List.getElem?_map] at hg
   cases hq : js[1 + (n + 2) - base3.length]? with
   | none => rw [hq] at hg; cases hg
   | some q =>
     rw [hq] at hg
     simp only [Option.map_some, Option.some.injEq, Prod.mk.injEq] at hg
     rw [← hg.2.1] at h2; cases h2
theorem LInv.level {m : Mk} {js : List Nat} (h : LInv m js) (n : Int) : LInv { m with level := n } js := ⟨h.e, h.toks, h.nd, h.lt⟩


end Go.Proofs
