/-
  Part of a proof that a law of the given program answers true: contracts of its functions, and the law. Holds for inputs of at most 1048576 values and letters in all.
-/
import Derived.Test.YtpnfbnlhjdnnpaaPA
set_option linter.unusedSimpArgs false
set_option linter.unusedVariables false
namespace Go.Proofs
open Go.E

structure Tok where
  name : List UInt8 := []
  lit : Bool := false
  num : Int := 0
  level : Int := 0
  assoc : Int := 0
  tag : List UInt8 := []
  deriving DecidableEq, Inhabited
structure Non where
  name : List UInt8 := []
  tag : List UInt8 := []
  deriving DecidableEq, Inhabited
structure GPr where
  left : Int := 0
  right : List Int := []
  prec : Int := 0
  code : List UInt8 := []
  args : List Int := []
  at_ : Int := 0
  deriving DecidableEq, Inhabited
structure Grammar where
  toks : List Tok := []
  nons : List Non := []
  prods : List GPr := []
  pro : List UInt8 := []
  tail : List UInt8 := []
  deriving DecidableEq, Inhabited
@[reducible] def Tok.V (x : Tok) : V := .agg [.str x.name, .bool x.lit, vi x.num, vi x.level, vi x.assoc, .str x.tag]
@[reducible] def Non.V (x : Non) : V := .agg [.str x.name, .str x.tag]
@[reducible] def GPr.V (x : GPr) : V := .agg [vi x.left, .sl 1 false (x.right.map (V.int .i64)), vi x.prec, .str x.code, .sl 1 false (x.args.map (V.int .i64)), vi x.at_]
@[reducible] def Grammar.V (g : Grammar) : V := .agg [.sl 6 false (g.toks.map Tok.V), .sl 2 false (g.nons.map Non.V), .sl 6 false (g.prods.map GPr.V), .str g.pro, .str g.tail]

/-- A grammar as it is made. -/
structure Mk where
  toks : List Tok := [{name := [36, 101, 110, 100]}, {name := [101, 114, 114, 111, 114], num := -1}, {name := [36, 117, 110, 107], num := -1}]
  nons : List Non := []
  prods : List GPr := []
  given : List Bool := [false, false, false]
  types : List Non := []
  lefts : List (List UInt8) := []
  e : Int := 0
  at_ : Int := 0
  name : List UInt8 := []
  level : Int := 0
  inner : Int := 0
  deriving DecidableEq, Inhabited

def failM (m : Mk) (a : Int) (n : List UInt8) : Mk := if m.e = 0 then { m with e := 3, at_ := a, name := n } else m
def tokGo (x : Sym) : List Tok → Nat → Int
  | [], _ => -1
  | t :: r, i => if t.name = x.name ∧ t.lit = x.lit ∧ i ≠ 2 then i else tokGo x r (i + 1)
def tokM (l : List Tok) (x : Sym) : Int := tokGo x (l.drop 1) 1
def ownGo (n : Int) : List Tok → Nat → Int
  | [], _ => -1
  | t :: r, i => if t.num = n then i else ownGo n r (i + 1)
def ownM (l : List Tok) (n : Int) : Int := ownGo n (l.drop 3) 3
def litN (x : Sym) : Int := if x.lit then (x.name.headD 0).toNat else 0
def putM (m : Mk) (x : Sym) : Mk × Int :=
  if 0 ≤ tokM m.toks x then (m, tokM m.toks x) else
  let m1 := if x.lit = true ∧ 0 ≤ ownM m.toks (litN x) then failM m x.at_ x.name else m
  ({ m1 with toks := m.toks ++ [{ name := x.name, lit := x.lit, num := litN x }], given := m.given ++ [x.lit] }, m.toks.length)
def typGo (n : List UInt8) : List Non → Nat → Int
  | [], _ => -1
  | t :: r, i => if t.name = n then i else typGo n r (i + 1)
def leftGo (n : List UInt8) : List (List UInt8) → Nat → Int
  | [], _ => -1
  | t :: r, i => if t = n then i else leftGo n r (i + 1)
def tokD (m : Mk) (t : Int) : Tok := m.toks.getD t.toNat {}
def setT (m : Mk) (t : Int) (k : Tok) : Mk := { m with toks := m.toks.set t.toNat k }
def declA (m : Mk) (kind : Int) (x : Sym) (t : Int) : Mk :=
  if kind = 1 then m else
  let m2 := if 0 < (tokD m t).level then failM m x.at_ x.name else m
  setT m2 t { tokD m t with level := m.level, assoc := kind - 1 }
def declB2 (m : Mk) (x : Sym) (t : Int) : Mk :=
  if 0 < x.num then
    let m2 := if t = 1 ∨ m.given.getD t.toNat false = true ∨ 0 ≤ ownM m.toks x.num then failM m x.at_ x.name else m
    { setT m2 t { tokD m t with num := x.num } with given := m.given.set t.toNat true }
  else m
def declC (m : Mk) (tag : List UInt8) (x : Sym) (t : Int) : Mk :=
  if tag ≠ [] then
    let m2 := if (tokD m t).tag ≠ [] ∧ (tokD m t).tag ≠ tag then failM m x.at_ x.name else m
    setT m2 t { tokD m t with tag := tag }
  else m
def declM (m : Mk) (d : Decl) (x : Sym) : Mk :=
  if d.kind = 5 then
    (let k := typGo x.name m.types 0
     if k < 0 then { m with types := m.types ++ [{ name := x.name, tag := d.tag }] }
     else if (m.types.getD k.toNat {}).tag ≠ d.tag then failM m x.at_ x.name else m)
  else
    let p := putM m x
    declC (declB2 (declA p.1 d.kind x p.2) x p.2) d.tag x p.2
def symM (m : Mk) (x : Sym) : Mk × Int :=
  if x.lit then putM m x else
  if 0 ≤ leftGo x.name m.lefts 0 then (m, 1001 + leftGo x.name m.lefts 0)
  else if tokM m.toks x < 0 then (failM m x.at_ x.name, 0) else (m, tokM m.toks x)
def altGo : List Part → Mk × GPr → Mk × GPr
  | [], q => q
  | w :: r, (m, p) =>
    if w.code = [] then altGo r ((symM m w.sym).1, { p with right := p.right ++ [(symM m w.sym).2] })
    else if r = [] then (m, { p with code := w.code, at_ := w.at_ })
    else altGo r ({ m with inner := m.inner + 1, prods := m.prods ++ [{ left := m.lefts.length + (m.inner + 1), prec := -1, code := w.code, args := p.right, at_ := w.at_ }] },
      { p with right := p.right ++ [1000 + m.lefts.length + (m.inner + 1)] })
def precGo : List Int → Int → Int
  | [], p => p
  | x :: r, p => precGo r (if x < 1000 then x else p)
def altM (m : Mk) (left : List UInt8) (a : Alt) : Mk :=
  let q := altGo a.parts (m, { left := 1 + leftGo left m.lefts 0, prec := -1, at_ := a.at_ })
  let m1 := q.1
  let p := { q.2 with prec := precGo q.2.right (-1) }
  if a.prec.name ≠ [] then
    (if a.prec.lit = true ∨ leftGo a.prec.name m1.lefts 0 < 0 then
      { (symM m1 a.prec).1 with prods := (symM m1 a.prec).1.prods ++ [{ p with prec := (symM m1 a.prec).2, args := p.right }] }
     else { failM m1 a.prec.at_ a.prec.name with prods := m1.prods ++ [{ p with prec := -1, args := p.right }] })
  else { m1 with prods := m1.prods ++ [{ p with args := p.right }] }

/-- The symbols of the declarations: what stands for %start, too. -/
def synGo (d : Decl) : List Sym → Mk × List UInt8 → Mk × List UInt8
  | [], q => q
  | x :: r, (m, start) => if d.kind ≠ 6 then synGo d r (declM m d x, start)
    else synGo d r (if start ≠ [] then failM m x.at_ x.name else m, x.name)
def decGo : List Decl → Mk × List UInt8 → Mk × List UInt8
  | [], q => q
  | d :: r, (m, start) => decGo r (synGo d d.syms (if 2 ≤ d.kind ∧ d.kind ≤ 4 then { m with level := m.level + 1 } else m, start))
def lefGo : List Rule → Mk → Mk
  | [], m => m
  | r :: l, m =>
    let m1 := if 0 ≤ tokM m.toks { name := r.left } then failM m r.at_ r.left else m
    lefGo l (if leftGo r.left m.lefts 0 < 0 then { m1 with lefts := m.lefts ++ [r.left] } else m1)
def unkGo1 (kind : Int) : List Sym → Mk → Mk
  | [], m => m
  | x :: r, m => unkGo1 kind r (if 5 ≤ kind ∧ leftGo x.name m.lefts 0 < 0 then failM m x.at_ x.name else m)
def unkGo : List Decl → Mk → Mk
  | [], m => m
  | d :: r, m => unkGo r (unkGo1 d.kind d.syms m)
def altsGo (left : List UInt8) : List Alt → Mk → Mk
  | [], m => m
  | a :: r, m => altsGo left r (altM m left a)
def rulGo : List Rule → Mk → Mk
  | [], m => m
  | r :: l, m => rulGo l (altsGo r.left r.alts m)
def nonGo (types : List Non) : List (List UInt8) → List Non
  | [] => []
  | n :: r => { name := n, tag := if 0 ≤ typGo n types 0 then (types.getD (typGo n types 0).toNat {}).tag else [] } :: nonGo types r
def numGo : List Tok → List Bool → Int → List Tok
  | t :: r, g :: gr, next => if g then t :: numGo r gr next else { t with num := next } :: numGo r gr (next + 1)
  | l, _, _ => l
/-- What the maker has behind the rules. -/
def madeM (src : Source) : Mk :=
  let q := decGo src.decls ({}, [])
  let m := unkGo src.decls (lefGo src.rules q.1)
  let start := if q.2 = [] then (src.rules.headD {}).left else q.2
  rulGo src.rules { m with prods := [{ left := 0, right := [1001 + leftGo start m.lefts 0], prec := -1 }] }
end Go.Proofs


namespace Go.Proofs
open Go.E

@[reducible] def Mk.V (m : Mk) : V := .agg [.sl 6 false (m.toks.map Tok.V), .sl 2 false (m.nons.map Non.V), .sl 6 false (m.prods.map GPr.V), .str [], .str [], .sl 1 false (m.given.map V.bool), .sl 2 false (m.types.map Non.V), .sl 1 false (m.lefts.map V.str), vi m.e, vi m.at_, .str m.name, vi m.level, vi m.inner]

theorem yuccaref9_maker_typeOf {m : Mk} {n : List UInt8} (hl : m.types.length ≤ 1099511627776) : Pure Try.prog 45 [.iptr 13 m.V 0, .str n] (vi (typGo n m.types 0)) := by
  refine pure_intro Try.func45 e45_nm e45_ok (by show 2 ≤ 26; decide) ?_
  show ewp _ e45n20 _ _
  generalize hR : typGo n m.types 0 = R
  repeat' with_reducible first
    | refine ewp_reg_seq ?_ | refine ewp_seq ?_ | refine ewp_block ?_
    | simp -implicitDefEqProofs only [wA, Nat.reduceEqDiff, ↓reduceIte, reduceCtorEq, Nat.reduceAdd, Int.cast_ofNat_Int, Int.reduceLT, Int.reduceLE, Int.reduceEq, Int.reduceToNat, decide_true, decide_false, Bool.false_eq_true]
  refine ewp_loopN ?nx1 (fun (k : Nat) s => s.f 0 = ?v1_0 ∧ s.f 1 = ?v1_1 ∧ s.f 5 = vi k ∧ (k ≤ m.types.length) ∧ (typGo n (m.types.drop k) k = R)) (fun k => m.types.length - k) (0) (by simp -implicitDefEqProofs only [wN, Nat.reduceAdd, Nat.zero_add]; exact Nat.le_refl _) (by refine ⟨?_, ?_, ?_, (by first | omega | (simp; done) | assumption), (by exact hR)⟩ <;> first | (simp -implicitDefEqProofs only [wL, wM, wN, wX, Nat.reduceEqDiff, ↓reduceIte, reduceCtorEq, Nat.reduceAdd, Option.some.injEq] <;> first | rfl | exact ⟨_, rfl⟩ | exact ⟨_, rfl, by first | assumption | exact Gr.nil | exact Gr.tok rfl (by omega) | exact Gr.tok (by simp -implicitDefEqProofs only [wM, Nat.reduceEqDiff, ↓reduceIte, reduceCtorEq] <;> rfl) (by omega) | exact Gr.clip⟩) | rfl | exact ⟨_, rfl⟩) ?_
  intro k s hnx ⟨g0, g1, g5, k1_0, k1_1⟩
  by_cases hk : k < m.types.length
  · rw [List.drop_eq_getElem_cons hk, typGo] at k1_1
    repeat' with_reducible first
      | refine ewp_reg_seq ?_ | refine ewp_seq ?_ | refine ewp_reg ?_ | refine ewp_skip ?_ | refine ewp_ret ?_ | refine ewp_block ?_ | refine xt_n ?_ | refine xt_r ?_ | refine xb_n ?_ | refine xb_r ?_ | refine ewp_condQ ?_
      | simp -implicitDefEqProofs only [wA, Nat.reduceEqDiff, ↓reduceIte, reduceCtorEq, Nat.reduceAdd, Int.cast_ofNat_Int, Int.reduceLT, Int.reduceLE, Int.reduceEq, Int.reduceToNat, decide_true, decide_false, Bool.false_eq_true, g0, g1, g5]
      | (refine condQ_i (fun h => ?_) (fun h => ?_) <;> have h_ := h <;> (try simp only [wD, reduceCtorEq] at h_) <;> (try (exfalso; first | omega | exact bf h_ (by assumption) | exact bt h_ (by assumption) | (refine absurd ?_ h_; focus assumption) | (refine absurd h_ ?_; focus assumption))) <;> (try simp only [h]))
      | (apply ia_slQ; (focus omega); (focus (first | assumption | exact List.getElem?_eq_getElem (by omega) | rfl)))
      | (apply ld_ipQ; (focus with_unfolding_all rfl))
      | simp -implicitDefEqProofs (disch := omega) only [w64, if_neg]
    · refine post1 rfl (Or.inr rfl) ?_
      simp -implicitDefEqProofs only [wL, Nat.reduceEqDiff, ↓reduceIte, reduceCtorEq, g0, g1, g5]
      first | refine er_bool ?_ | refine er_int ?_ | refine er_str ?_ | refine er_sl_eq ?_ | refine er_asl_eq ?_
      try (with_reducible rfl)
      rw [← k1_1, if_pos h_]
    · refine ⟨(by first | assumption | omega | (simp -implicitDefEqProofs only [wN]; omega)), k + 1, (by omega), ?_⟩
      refine ⟨?_, ?_, ?_, ?_, ?_⟩
      iterate 3 (focus (first | (simp -implicitDefEqProofs only [wL, wM, wN, wX, Nat.reduceEqDiff, ↓reduceIte, reduceCtorEq, Nat.reduceAdd, Option.some.injEq, g0, g1, g5] <;> first | rfl | exact ⟨_, rfl⟩ | exact ⟨_, rfl, by first | assumption | exact Gr.nil | exact Gr.tok rfl (by omega) | exact Gr.tok (by simp -implicitDefEqProofs only [wM, Nat.reduceEqDiff, ↓reduceIte, reduceCtorEq] <;> rfl) (by omega) | exact Gr.clip⟩) | rfl | exact ⟨_, rfl⟩))
      all_goals try omega
      rw [← k1_1, if_neg h_]
  · rw [List.drop_eq_nil_of_le (by omega)] at k1_1
    repeat' with_reducible first
      | refine ewp_reg_seq ?_ | refine ewp_seq ?_ | refine ewp_ret ?_ | refine ewp_exit ?_ | refine xt_n ?_ | refine xt_e ?_ | refine xb_e ?_ | refine ewp_condQ ?_
      | simp -implicitDefEqProofs only [wA, Nat.reduceEqDiff, ↓reduceIte, reduceCtorEq, Nat.reduceAdd, Int.cast_ofNat_Int, Int.reduceLT, Int.reduceLE, Int.reduceEq, Int.reduceToNat, decide_true, decide_false, Bool.false_eq_true, g0, g1, g5]
      | (refine condQ_i (fun h => ?_) (fun h => ?_) <;> have h_ := h <;> (try simp only [wD, reduceCtorEq] at h_) <;> (try (exfalso; first | omega | exact bf h_ (by assumption) | exact bt h_ (by assumption) | (refine absurd ?_ h_; focus assumption) | (refine absurd h_ ?_; focus assumption))) <;> (try simp only [h]))
      | (apply ld_ipQ; (focus with_unfolding_all rfl))
    refine post1 rfl (Or.inr rfl) ?_
    simp -implicitDefEqProofs only [wL, Nat.reduceEqDiff, ↓reduceIte, reduceCtorEq, g0, g1, g5]
    first | refine er_bool ?_ | refine er_int ?_ | refine er_str ?_ | refine er_sl_eq ?_ | refine er_asl_eq ?_
    try (with_reducible rfl)
    rw [← k1_1]; rfl

theorem yuccaref9_maker_left {m : Mk} {n : List UInt8} (hl : m.lefts.length ≤ 1099511627776) : Pure Try.prog 43 [.iptr 13 m.V 0, .str n] (vi (leftGo n m.lefts 0)) := by
  refine pure_intro Try.func43 e43_nm e43_ok (by show 2 ≤ 25; decide) ?_
  show ewp _ e43n20 _ _
  generalize hR : leftGo n m.lefts 0 = R
  repeat' with_reducible first
    | refine ewp_reg_seq ?_ | refine ewp_seq ?_ | refine ewp_block ?_
    | simp -implicitDefEqProofs only [wA, Nat.reduceEqDiff, ↓reduceIte, reduceCtorEq, Nat.reduceAdd, Int.cast_ofNat_Int, Int.reduceLT, Int.reduceLE, Int.reduceEq, Int.reduceToNat, decide_true, decide_false, Bool.false_eq_true]
  refine ewp_loopN ?nx1 (fun (k : Nat) s => s.f 0 = ?v1_0 ∧ s.f 1 = ?v1_1 ∧ s.f 5 = vi k ∧ (k ≤ m.lefts.length) ∧ (leftGo n (m.lefts.drop k) k = R)) (fun k => m.lefts.length - k) (0) (by simp -implicitDefEqProofs only [wN, Nat.reduceAdd, Nat.zero_add]; exact Nat.le_refl _) (by refine ⟨?_, ?_, ?_, (by first | omega | (simp; done) | assumption), (by exact hR)⟩ <;> first | (simp -implicitDefEqProofs only [wL, wM, wN, wX, Nat.reduceEqDiff, ↓reduceIte, reduceCtorEq, Nat.reduceAdd, Option.some.injEq] <;> first | rfl | exact ⟨_, rfl⟩ | exact ⟨_, rfl, by first | assumption | exact Gr.nil | exact Gr.tok rfl (by omega) | exact Gr.tok (by simp -implicitDefEqProofs only [wM, Nat.reduceEqDiff, ↓reduceIte, reduceCtorEq] <;> rfl) (by omega) | exact Gr.clip⟩) | rfl | exact ⟨_, rfl⟩) ?_
  intro k s hnx ⟨g0, g1, g5, k1_0, k1_1⟩
  by_cases hk : k < m.lefts.length
  · rw [List.drop_eq_getElem_cons hk, leftGo] at k1_1
    repeat' with_reducible first
      | refine ewp_reg_seq ?_ | refine ewp_seq ?_ | refine ewp_reg ?_ | refine ewp_skip ?_ | refine ewp_ret ?_ | refine ewp_block ?_ | refine xt_n ?_ | refine xt_r ?_ | refine xb_n ?_ | refine xb_r ?_ | refine ewp_condQ ?_
      | simp -implicitDefEqProofs only [wA, Nat.reduceEqDiff, ↓reduceIte, reduceCtorEq, Nat.reduceAdd, Int.cast_ofNat_Int, Int.reduceLT, Int.reduceLE, Int.reduceEq, Int.reduceToNat, decide_true, decide_false, Bool.false_eq_true, g0, g1, g5]
      | (refine condQ_i (fun h => ?_) (fun h => ?_) <;> have h_ := h <;> (try simp only [wD, reduceCtorEq] at h_) <;> (try (exfalso; first | omega | exact bf h_ (by assumption) | exact bt h_ (by assumption) | (refine absurd ?_ h_; focus assumption) | (refine absurd h_ ?_; focus assumption))) <;> (try simp only [h]))
      | (apply ia_slQ; (focus omega); (focus (first | assumption | exact List.getElem?_eq_getElem (by omega) | rfl)))
      | (apply ld_ipQ; (focus with_unfolding_all rfl))
      | simp -implicitDefEqProofs (disch := omega) only [w64, if_neg]
    · refine post1 rfl (Or.inr rfl) ?_
      simp -implicitDefEqProofs only [wL, Nat.reduceEqDiff, ↓reduceIte, reduceCtorEq, g0, g1, g5]
      first | refine er_bool ?_ | refine er_int ?_ | refine er_str ?_ | refine er_sl_eq ?_ | refine er_asl_eq ?_
      try (with_reducible rfl)
      rw [← k1_1, if_pos h_]
    · refine ⟨(by first | assumption | omega | (simp -implicitDefEqProofs only [wN]; omega)), k + 1, (by omega), ?_⟩
      refine ⟨?_, ?_, ?_, ?_, ?_⟩
      iterate 3 (focus (first | (simp -implicitDefEqProofs only [wL, wM, wN, wX, Nat.reduceEqDiff, ↓reduceIte, reduceCtorEq, Nat.reduceAdd, Option.some.injEq, g0, g1, g5] <;> first | rfl | exact ⟨_, rfl⟩ | exact ⟨_, rfl, by first | assumption | exact Gr.nil | exact Gr.tok rfl (by omega) | exact Gr.tok (by simp -implicitDefEqProofs only [wM, Nat.reduceEqDiff, ↓reduceIte, reduceCtorEq] <;> rfl) (by omega) | exact Gr.clip⟩) | rfl | exact ⟨_, rfl⟩))
      all_goals try omega
      rw [← k1_1, if_neg h_]
  · rw [List.drop_eq_nil_of_le (by omega)] at k1_1
    repeat' with_reducible first
      | refine ewp_reg_seq ?_ | refine ewp_seq ?_ | refine ewp_ret ?_ | refine ewp_exit ?_ | refine xt_n ?_ | refine xt_e ?_ | refine xb_e ?_ | refine ewp_condQ ?_
      | simp -implicitDefEqProofs only [wA, Nat.reduceEqDiff, ↓reduceIte, reduceCtorEq, Nat.reduceAdd, Int.cast_ofNat_Int, Int.reduceLT, Int.reduceLE, Int.reduceEq, Int.reduceToNat, decide_true, decide_false, Bool.false_eq_true, g0, g1, g5]
      | (refine condQ_i (fun h => ?_) (fun h => ?_) <;> have h_ := h <;> (try simp only [wD, reduceCtorEq] at h_) <;> (try (exfalso; first | omega | exact bf h_ (by assumption) | exact bt h_ (by assumption) | (refine absurd ?_ h_; focus assumption) | (refine absurd h_ ?_; focus assumption))) <;> (try simp only [h]))
      | (apply ld_ipQ; (focus with_unfolding_all rfl))
    refine post1 rfl (Or.inr rfl) ?_
    simp -implicitDefEqProofs only [wL, Nat.reduceEqDiff, ↓reduceIte, reduceCtorEq, g0, g1, g5]
    first | refine er_bool ?_ | refine er_int ?_ | refine er_str ?_ | refine er_sl_eq ?_ | refine er_asl_eq ?_
    try (with_reducible rfl)
    rw [← k1_1]; rfl

theorem yuccaref9_maker_owner {m : Mk} {n : Int} (hl : m.toks.length ≤ 1099511627776) : Pure Try.prog 52 [.iptr 13 m.V 0, vi n] (vi (ownM m.toks n)) := by
  refine pure_intro Try.func52 e52_nm e52_ok (by show 2 ≤ 28; decide) ?_
  show ewp _ e52n20 _ _
  have e : ownM m.toks n = ownGo n (m.toks.drop 3) 3 := rfl
  rw [e]
  generalize hR : ownGo n (m.toks.drop 3) 3 = R
  repeat' with_reducible first
    | refine ewp_reg_seq ?_ | refine ewp_seq ?_ | refine ewp_block ?_
    | simp -implicitDefEqProofs only [wA, Nat.reduceEqDiff, ↓reduceIte, reduceCtorEq, Nat.reduceAdd, Int.cast_ofNat_Int, Int.reduceLT, Int.reduceLE, Int.reduceEq, Int.reduceToNat, decide_true, decide_false, Bool.false_eq_true]
  refine ewp_loopN ?nx1 (fun (k : Nat) s => s.f 0 = ?v1_0 ∧ s.f 1 = ?v1_1 ∧ s.f 5 = vi k ∧ (ownGo n (m.toks.drop k) k = R)) (fun k => m.toks.length - k) (3) (by simp -implicitDefEqProofs only [wN, Nat.reduceAdd, Nat.zero_add]; exact Nat.le_refl _) (by refine ⟨?_, ?_, ?_, (by exact hR)⟩ <;> first | (simp -implicitDefEqProofs only [wL, wM, wN, wX, Nat.reduceEqDiff, ↓reduceIte, reduceCtorEq, Nat.reduceAdd, Option.some.injEq] <;> first | rfl | exact ⟨_, rfl⟩ | exact ⟨_, rfl, by first | assumption | exact Gr.nil | exact Gr.tok rfl (by omega) | exact Gr.tok (by simp -implicitDefEqProofs only [wM, Nat.reduceEqDiff, ↓reduceIte, reduceCtorEq] <;> rfl) (by omega) | exact Gr.clip⟩) | rfl | exact ⟨_, rfl⟩) ?_
  intro k s hnx ⟨g0, g1, g5, k1_0⟩
  by_cases hk : k < m.toks.length
  · rw [List.drop_eq_getElem_cons hk, ownGo] at k1_0
    repeat' with_reducible first
      | refine ewp_reg_seq ?_ | refine ewp_seq ?_ | refine ewp_reg ?_ | refine ewp_skip ?_ | refine ewp_ret ?_ | refine ewp_block ?_ | refine xt_n ?_ | refine xt_r ?_ | refine xb_n ?_ | refine xb_r ?_ | refine ewp_condQ ?_
      | simp -implicitDefEqProofs only [wA, Nat.reduceEqDiff, ↓reduceIte, reduceCtorEq, Nat.reduceAdd, Int.cast_ofNat_Int, Int.reduceLT, Int.reduceLE, Int.reduceEq, Int.reduceToNat, decide_true, decide_false, Bool.false_eq_true, g0, g1, g5]
      | (refine condQ_i (fun h => ?_) (fun h => ?_) <;> have h_ := h <;> (try simp only [wD, reduceCtorEq] at h_) <;> (try (exfalso; first | omega | exact bf h_ (by assumption) | exact bt h_ (by assumption) | (refine absurd ?_ h_; focus assumption) | (refine absurd h_ ?_; focus assumption))) <;> (try simp only [h]))
      | (apply ia_slQ; (focus omega); (focus (first | assumption | exact List.getElem?_eq_getElem (by omega) | rfl)))
      | (apply ld_ipQ; (focus with_unfolding_all rfl))
      | simp -implicitDefEqProofs (disch := omega) only [w64, if_neg]
    · refine post1 rfl (Or.inr rfl) ?_
      simp -implicitDefEqProofs only [wL, Nat.reduceEqDiff, ↓reduceIte, reduceCtorEq, g0, g1, g5]
      first | refine er_bool ?_ | refine er_int ?_ | refine er_str ?_ | refine er_sl_eq ?_ | refine er_asl_eq ?_
      try (with_reducible rfl)
      rw [← k1_0, if_pos h_]
    · refine ⟨(by first | assumption | omega | (simp -implicitDefEqProofs only [wN]; omega)), k + 1, (by omega), ?_⟩
      refine ⟨?_, ?_, ?_, ?_⟩
      iterate 3 (focus (first | (simp -implicitDefEqProofs only [wL, wM, wN, wX, Nat.reduceEqDiff, ↓reduceIte, reduceCtorEq, Nat.reduceAdd, Option.some.injEq, g0, g1, g5] <;> first | rfl | exact ⟨_, rfl⟩ | exact ⟨_, rfl, by first | assumption | exact Gr.nil | exact Gr.tok rfl (by omega) | exact Gr.tok (by simp -implicitDefEqProofs only [wM, Nat.reduceEqDiff, ↓reduceIte, reduceCtorEq] <;> rfl) (by omega) | exact Gr.clip⟩) | rfl | exact ⟨_, rfl⟩))
      all_goals try omega
  · rw [List.drop_eq_nil_of_le (by omega)] at k1_0
    repeat' with_reducible first
      | refine ewp_reg_seq ?_ | refine ewp_seq ?_ | refine ewp_ret ?_ | refine ewp_exit ?_ | refine xt_n ?_ | refine xt_e ?_ | refine xb_e ?_ | refine ewp_condQ ?_
      | simp -implicitDefEqProofs only [wA, Nat.reduceEqDiff, ↓reduceIte, reduceCtorEq, Nat.reduceAdd, Int.cast_ofNat_Int, Int.reduceLT, Int.reduceLE, Int.reduceEq, Int.reduceToNat, decide_true, decide_false, Bool.false_eq_true, g0, g1, g5]
      | (refine condQ_i (fun h => ?_) (fun h => ?_) <;> have h_ := h <;> (try simp only [wD, reduceCtorEq] at h_) <;> (try (exfalso; first | omega | exact bf h_ (by assumption) | exact bt h_ (by assumption) | (refine absurd ?_ h_; focus assumption) | (refine absurd h_ ?_; focus assumption))) <;> (try simp only [h]))
      | (apply ld_ipQ; (focus with_unfolding_all rfl))
    refine post1 rfl (Or.inr rfl) ?_
    simp -implicitDefEqProofs only [wL, Nat.reduceEqDiff, ↓reduceIte, reduceCtorEq, g0, g1, g5]
    first | refine er_bool ?_ | refine er_int ?_ | refine er_str ?_ | refine er_sl_eq ?_ | refine er_asl_eq ?_
    try (with_reducible rfl)
    rw [← k1_0]; rfl

theorem yuccaref9_maker_tok {m : Mk} {x : Sym} (hl : m.toks.length ≤ 1099511627776) : Pure Try.prog 42 [.iptr 13 m.V 0, x.V] (vi (tokM m.toks x)) := by
  refine pure_intro Try.func42 e42_nm e42_ok (by show 2 ≤ 47; decide) ?_
  show ewp _ e42n20 _ _
  have e : tokM m.toks x = tokGo x (m.toks.drop 1) 1 := rfl
  rw [e]
  generalize hR : tokGo x (m.toks.drop 1) 1 = R
  obtain ⟨xn, xl, xu, xa⟩ := x
  repeat' with_reducible first
    | refine ewp_reg_seq ?_ | refine ewp_seq ?_ | refine ewp_block ?_
    | simp -implicitDefEqProofs only [wA, Nat.reduceEqDiff, ↓reduceIte, reduceCtorEq, Nat.reduceAdd, Int.cast_ofNat_Int, Int.reduceLT, Int.reduceLE, Int.reduceEq, Int.reduceToNat, decide_true, decide_false, Bool.false_eq_true]
    | (apply boxQ_i; (focus with_unfolding_all rfl); (focus with_unfolding_all rfl))
  refine ewp_loopN ?nx1 (fun (k : Nat) s => s.f 0 = ?v1_0 ∧ s.f 3 = ?v1_3 ∧ s.H 0 = ?o1_0 ∧ s.f 5 = vi k ∧ (tokGo ⟨xn, xl, xu, xa⟩ (m.toks.drop k) k = R)) (fun k => m.toks.length - k) (1) (by simp -implicitDefEqProofs only [wN, Nat.reduceAdd, Nat.zero_add]; exact Nat.le_refl _) (by refine ⟨?_, ?_, ?_, ?_, (by exact hR)⟩ <;> first | (simp -implicitDefEqProofs only [wL, wM, wN, wX, Nat.reduceEqDiff, ↓reduceIte, reduceCtorEq, Nat.reduceAdd, Option.some.injEq] <;> first | rfl | exact ⟨_, rfl⟩ | exact ⟨_, rfl, by first | assumption | exact Gr.nil | exact Gr.tok rfl (by omega) | exact Gr.tok (by simp -implicitDefEqProofs only [wM, Nat.reduceEqDiff, ↓reduceIte, reduceCtorEq] <;> rfl) (by omega) | exact Gr.clip⟩) | rfl | exact ⟨_, rfl⟩) ?_
  intro k s hnx ⟨g0, g3, o0, g5, k1_0⟩
  by_cases hk : k < m.toks.length
  · rw [List.drop_eq_getElem_cons hk, tokGo] at k1_0
    dsimp only at k1_0
    by_cases h1 : m.toks[k].name = xn
    · by_cases h2 : m.toks[k].lit = xl
      · by_cases h3 : k = 2
        · subst h3
          rw [if_neg (by simp)] at k1_0
          repeat' with_reducible first
            | refine ewp_reg_seq ?_ | refine ewp_seq ?_ | refine ewp_reg ?_ | refine ewp_skip ?_ | refine ewp_block ?_ | refine xt_n ?_ | refine xb_n ?_ | refine ewp_condQ ?_ | refine condQ_F ?_ | refine L_gdQ ?_ | refine gdQ_TT ?_
            | simp -implicitDefEqProofs only [wA, Nat.reduceEqDiff, ↓reduceIte, reduceCtorEq, Nat.reduceAdd, Int.cast_ofNat_Int, Int.reduceLT, Int.reduceLE, Int.reduceEq, Int.reduceToNat, decide_true, decide_false, Bool.false_eq_true, g0, g3, g5, o0, h1, h2]
            | (refine condQ_i (fun h => ?_) (fun h => ?_) <;> have h_ := h <;> (try simp only [wD, reduceCtorEq] at h_) <;> (try (exfalso; first | omega | exact bf h_ (by assumption) | exact bt h_ (by assumption) | (refine absurd ?_ h_; focus assumption) | (refine absurd h_ ?_; focus assumption))) <;> (try simp only [h]))
            | (apply ia_slQ; (focus omega); (focus (first | assumption | exact List.getElem?_eq_getElem (by omega) | rfl)))
            | (apply ldQ_cell; (focus with_unfolding_all rfl))
            | (apply ld_ipQ; (focus with_unfolding_all rfl))
            | simp -implicitDefEqProofs (disch := omega) only [w64, if_neg]
          refine ⟨(by first | assumption | omega | (simp -implicitDefEqProofs only [wN]; omega)), 3, (by omega), ?_⟩
          refine ⟨?_, ?_, ?_, ?_, ?_⟩
          iterate 4 (focus (first | (simp -implicitDefEqProofs only [wL, wM, wN, wX, Nat.reduceEqDiff, ↓reduceIte, reduceCtorEq, Nat.reduceAdd, Option.some.injEq, g0, g3, g5, o0] <;> first | rfl | exact ⟨_, rfl⟩ | exact ⟨_, rfl, by first | assumption | exact Gr.nil | exact Gr.tok rfl (by omega) | exact Gr.tok (by simp -implicitDefEqProofs only [wM, Nat.reduceEqDiff, ↓reduceIte, reduceCtorEq] <;> rfl) (by omega) | exact Gr.clip⟩) | rfl | exact ⟨_, rfl⟩))
          all_goals try omega
        · rw [if_pos ⟨h1, h2, h3⟩] at k1_0
          repeat' with_reducible first
            | refine ewp_reg_seq ?_ | refine ewp_seq ?_ | refine ewp_skip ?_ | refine ewp_ret ?_ | refine ewp_block ?_ | refine xt_n ?_ | refine xt_r ?_ | refine xb_r ?_ | refine ewp_condQ ?_ | refine L_gdQ ?_ | refine gdQ_TT ?_
            | simp -implicitDefEqProofs only [wA, Nat.reduceEqDiff, ↓reduceIte, reduceCtorEq, Nat.reduceAdd, Int.cast_ofNat_Int, Int.reduceLT, Int.reduceLE, Int.reduceEq, Int.reduceToNat, decide_true, decide_false, Bool.false_eq_true, g0, g3, g5, o0, h1, h2]
            | (refine condQ_i (fun h => ?_) (fun h => ?_) <;> have h_ := h <;> (try simp only [wD, reduceCtorEq] at h_) <;> (try (exfalso; first | omega | exact bf h_ (by assumption) | exact bt h_ (by assumption) | (refine absurd ?_ h_; focus assumption) | (refine absurd h_ ?_; focus assumption))) <;> (try simp only [h]))
            | (apply ia_slQ; (focus omega); (focus (first | assumption | exact List.getElem?_eq_getElem (by omega) | rfl)))
            | (apply ldQ_cell; (focus with_unfolding_all rfl))
            | (apply ld_ipQ; (focus with_unfolding_all rfl))
          refine post1 rfl (Or.inr rfl) ?_
          simp -implicitDefEqProofs only [wL, Nat.reduceEqDiff, ↓reduceIte, reduceCtorEq, g0, g3, g5]
          first | refine er_bool ?_ | refine er_int ?_ | refine er_str ?_ | refine er_sl_eq ?_ | refine er_asl_eq ?_
          try (with_reducible rfl)
          rw [← k1_0]
      · rw [if_neg (by simp [h2])] at k1_0
        have hb : (m.toks[k].lit == xl) = false := by simpa using h2
        repeat' with_reducible first
          | refine ewp_reg_seq ?_ | refine ewp_seq ?_ | refine ewp_reg ?_ | refine ewp_skip ?_ | refine ewp_block ?_ | refine xt_n ?_ | refine xb_n ?_ | refine ewp_condQ ?_ | refine condQ_F ?_ | refine L_gdQ ?_ | refine gdQ_TT ?_ | refine gdQ_FT ?_
          | simp -implicitDefEqProofs only [wA, Nat.reduceEqDiff, ↓reduceIte, reduceCtorEq, Nat.reduceAdd, Int.cast_ofNat_Int, Int.reduceLT, Int.reduceLE, Int.reduceEq, Int.reduceToNat, decide_true, decide_false, Bool.false_eq_true, g0, g3, g5, o0, h1, hb]
          | (refine condQ_i (fun h => ?_) (fun h => ?_) <;> have h_ := h <;> (try simp only [wD, reduceCtorEq] at h_) <;> (try (exfalso; first | omega | exact bf h_ (by assumption) | exact bt h_ (by assumption) | (refine absurd ?_ h_; focus assumption) | (refine absurd h_ ?_; focus assumption))) <;> (try simp only [h]))
          | (apply ia_slQ; (focus omega); (focus (first | assumption | exact List.getElem?_eq_getElem (by omega) | rfl)))
          | (apply ldQ_cell; (focus with_unfolding_all rfl))
          | (apply ld_ipQ; (focus with_unfolding_all rfl))
          | simp -implicitDefEqProofs (disch := omega) only [w64, if_neg]
        refine ⟨(by first | assumption | omega | (simp -implicitDefEqProofs only [wN]; omega)), k + 1, (by omega), ?_⟩
        refine ⟨?_, ?_, ?_, ?_, ?_⟩
        iterate 4 (focus (first | (simp -implicitDefEqProofs only [wL, wM, wN, wX, Nat.reduceEqDiff, ↓reduceIte, reduceCtorEq, Nat.reduceAdd, Option.some.injEq, g0, g3, g5, o0] <;> first | rfl | exact ⟨_, rfl⟩ | exact ⟨_, rfl, by first | assumption | exact Gr.nil | exact Gr.tok rfl (by omega) | exact Gr.tok (by simp -implicitDefEqProofs only [wM, Nat.reduceEqDiff, ↓reduceIte, reduceCtorEq] <;> rfl) (by omega) | exact Gr.clip⟩) | rfl | exact ⟨_, rfl⟩))
        all_goals try omega
    · rw [if_neg (by simp [h1])] at k1_0
      repeat' with_reducible first
        | refine ewp_reg_seq ?_ | refine ewp_seq ?_ | refine ewp_reg ?_ | refine ewp_skip ?_ | refine ewp_block ?_ | refine xt_n ?_ | refine xb_n ?_ | refine ewp_condQ ?_ | refine condQ_F ?_ | refine L_gdQ ?_ | refine gdQ_FT ?_
        | simp -implicitDefEqProofs only [wA, Nat.reduceEqDiff, ↓reduceIte, reduceCtorEq, Nat.reduceAdd, Int.cast_ofNat_Int, Int.reduceLT, Int.reduceLE, Int.reduceEq, Int.reduceToNat, decide_true, decide_false, Bool.false_eq_true, g0, g3, g5, o0]
        | (refine condQ_i (fun h => ?_) (fun h => ?_) <;> have h_ := h <;> (try simp only [wD, reduceCtorEq] at h_) <;> (try (exfalso; first | omega | exact bf h_ (by assumption) | exact bt h_ (by assumption) | (refine absurd ?_ h_; focus assumption) | (refine absurd h_ ?_; focus assumption))) <;> (try simp only [h]))
        | ((first | refine gdQ_iT (fun h => ?_) (fun h => ?_) | refine gdQ_iF (fun h => ?_) (fun h => ?_)) <;> have h_ := h <;> (try simp only [wD, reduceCtorEq] at h_) <;> (try (exfalso; first | omega | exact bf h_ (by assumption) | exact bt h_ (by assumption) | (refine absurd ?_ h_; focus assumption) | (refine absurd h_ ?_; focus assumption))) <;> (try simp only [h]))
        | (apply ia_slQ; (focus omega); (focus (first | assumption | exact List.getElem?_eq_getElem (by omega) | rfl)))
        | (apply ldQ_cell; (focus with_unfolding_all rfl))
        | (apply ld_ipQ; (focus with_unfolding_all rfl))
        | simp -implicitDefEqProofs (disch := omega) only [w64, if_neg]
      refine ⟨(by first | assumption | omega | (simp -implicitDefEqProofs only [wN]; omega)), k + 1, (by omega), ?_⟩
      refine ⟨?_, ?_, ?_, ?_, ?_⟩
      iterate 4 (focus (first | (simp -implicitDefEqProofs only [wL, wM, wN, wX, Nat.reduceEqDiff, ↓reduceIte, reduceCtorEq, Nat.reduceAdd, Option.some.injEq, g0, g3, g5, o0] <;> first | rfl | exact ⟨_, rfl⟩ | exact ⟨_, rfl, by first | assumption | exact Gr.nil | exact Gr.tok rfl (by omega) | exact Gr.tok (by simp -implicitDefEqProofs only [wM, Nat.reduceEqDiff, ↓reduceIte, reduceCtorEq] <;> rfl) (by omega) | exact Gr.clip⟩) | rfl | exact ⟨_, rfl⟩))
      all_goals try omega
  · rw [List.drop_eq_nil_of_le (by omega)] at k1_0
    repeat' with_reducible first
      | refine ewp_reg_seq ?_ | refine ewp_seq ?_ | refine ewp_ret ?_ | refine ewp_exit ?_ | refine xt_n ?_ | refine xt_e ?_ | refine xb_e ?_ | refine ewp_condQ ?_
      | simp -implicitDefEqProofs only [wA, Nat.reduceEqDiff, ↓reduceIte, reduceCtorEq, Nat.reduceAdd, Int.cast_ofNat_Int, Int.reduceLT, Int.reduceLE, Int.reduceEq, Int.reduceToNat, decide_true, decide_false, Bool.false_eq_true, g0, g3, g5, o0]
      | (refine condQ_i (fun h => ?_) (fun h => ?_) <;> have h_ := h <;> (try simp only [wD, reduceCtorEq] at h_) <;> (try (exfalso; first | omega | exact bf h_ (by assumption) | exact bt h_ (by assumption) | (refine absurd ?_ h_; focus assumption) | (refine absurd h_ ?_; focus assumption))) <;> (try simp only [h]))
      | (apply ld_ipQ; (focus with_unfolding_all rfl))
    refine post1 rfl (Or.inr rfl) ?_
    simp -implicitDefEqProofs only [wL, Nat.reduceEqDiff, ↓reduceIte, reduceCtorEq, g0, g3, g5]
    first | refine er_bool ?_ | refine er_int ?_ | refine er_str ?_ | refine er_sl_eq ?_ | refine er_asl_eq ?_
    try (with_reducible rfl)
    rw [← k1_0]; rfl
end Go.Proofs


namespace Go.Proofs
open Go.E

/-- The maker's cells. -/
@[reducible] def mkC (ti gi : Nat) (vN vP vT vL : V) (M : Mk) : V := .agg [.msl ti 6 0 M.toks.length, vN, vP, .str [], .str [], .msl gi 1 0 M.given.length, vT, vL, vi M.e, vi M.at_, .str M.name, vi M.level, vi M.inner]
/-- Where the maker lies. -/
structure MkAt (H : Nat → Option MObj) (next m ti gi : Nat) (vN vP vT vL : V) (M : Mk) : Prop where
  hm : H m = some (.own 13 [mkC ti gi vN vP vT vL M] false)
  ht : H ti = some (.own 6 (M.toks.map Tok.V) false)
  hg : H gi = some (.own 1 (M.given.map V.bool) false)
  eN : ErP vN (.sl 2 false (M.nons.map Non.V))
  eP : ErP vP (.sl 6 false (M.prods.map GPr.V))
  eT : ErP vT (.sl 2 false (M.types.map Non.V))
  eL : ErP vL (.sl 1 false (M.lefts.map V.str))
  lm : m < next
  lt : ti < next
  lg : gi < next
  len : M.given.length = M.toks.length
  len3 : 3 ≤ M.toks.length
theorem MkAt.mt {H : Nat → Option MObj} {next m ti gi : Nat} {vN vP vT vL : V} {M : Mk} (h : MkAt H next m ti gi vN vP vT vL M) : ti ≠ m ∧ gi ≠ m ∧ gi ≠ ti := by
  refine ⟨fun e => ?_, fun e => ?_, fun e => ?_⟩
  · have := h.ht; rw [e, h.hm] at this; cases this
  · have := h.hg; rw [e, h.hm] at this; cases this
  · have := h.hg; rw [e, h.ht] at this; cases this
theorem MkAt.er {H : Nat → Option MObj} {next m ti gi : Nat} {vN vP vT vL : V} {M : Mk} (h : MkAt H next m ti gi vN vP vT vL M) : Er true H (.ptr m 0 0) (.iptr 13 M.V 0) := by
  refine .ptr m 0 0 13 _ false _ _ rfl h.hm rfl ?_
  refine ErL.agg (.cons ?_ (.cons h.eN.er (.cons h.eP.er (.cons (.str _) (.cons (.str _) (.cons ?_ (.cons h.eT.er (.cons h.eL.er (.cons (.int _ _) (.cons (.int _ _) (.cons (.str _) (.cons (.int _ _) (.cons (.int _ _) .nil)))))))))))))
  · exact er_msl_eq h.ht (by simp) (by rw [List.drop_zero]; exact List.take_of_length_le (by simp))
  · exact er_msl_eq h.hg (by simp) (by rw [List.drop_zero]; exact List.take_of_length_le (by simp))
/-- What a maker's call leaves: objects that are none of the maker's. -/
def FrA (H H' : Nat → Option MObj) (next : Nat) : Prop := ∀ j z l ro, j < next → H j = some (.own z l ro) → z ≠ 13 → z ≠ 1 → (z ≠ 6 ∨ l.length < 3) → H' j = H j
def FrT (H H' : Nat → Option MObj) (next : Nat) : Prop := ∀ j f, j < next → H j = some (.tok f) → H' j = H j
theorem MkAt.keep {H H' : Nat → Option MObj} {next n' m ti gi : Nat} {vN vP vT vL : V} {M M' : Mk} (h : MkAt H next m ti gi vN vP vT vL M) (hn : next ≤ n') (hm : H' m = some (.own 13 [mkC ti gi vN vP vT vL M'] false))
    (hf : ∀ j, j < next → j ≠ m → H' j = H j) (e : M'.toks = M.toks ∧ M'.given = M.given ∧ M'.nons = M.nons ∧ M'.prods = M.prods ∧ M'.types = M.types ∧ M'.lefts = M.lefts) :
    next ≤ n' ∧ MkAt H' n' m ti gi vN vP vT vL M' ∧ ∀ j, j < next → j ≠ m → H' j = H j := by
  obtain ⟨e1, e2, e3, e4, e5, e6⟩ := e
  obtain ⟨n1, n2, n3⟩ := h.mt
  have := h.lm; have := h.lt; have := h.lg
  refine ⟨hn, ⟨hm, ?_, ?_, e3 ▸ h.eN, e4 ▸ h.eP, e5 ▸ h.eT, e6 ▸ h.eL, by omega, by omega, by omega, e1 ▸ e2 ▸ h.len, e1 ▸ h.len3⟩, hf⟩
  · rw [hf ti h.lt n1, e1]; exact h.ht
  · rw [hf gi h.lg n2, e2]; exact h.hg

theorem MkAt.mono {H H' : Nat → Option MObj} {next n' m ti gi : Nat} {vN vP vT vL : V} {M : Mk} (h : MkAt H next m ti gi vN vP vT vL M) (hn : next ≤ n') (hf : ∀ j, j < next → H' j = H j) : MkAt H' n' m ti gi vN vP vT vL M := by
  have := h.lm; have := h.lt; have := h.lg
  exact ⟨by rw [hf m h.lm]; exact h.hm, by rw [hf ti h.lt]; exact h.ht, by rw [hf gi h.lg]; exact h.hg, h.eN, h.eP, h.eT, h.eL, by omega, by omega, by omega, h.len, h.len3⟩
theorem appQ_msl {cls : Cls} {id : Nat} {s : St} {K : V → St → Prop} {z bytes ti n : Nat} {vy : V} {es ys : List V} (hcl : (cls == .t) = false) (hH : s.H ti = some (.own z es false)) (hn : n = es.length) (hs : SrcN s.H z ys vy)
    (hb : (es.length + ys.length) * bytes ≤ 140737488355328) (hl : es.length + ys.length ≤ maxLen)
    (hk : K (.msl id z 0 (es.length + ys.length)) ((s.setO ti none).setO id (some (.own z (es ++ ys) false)))) : appQ cls id s K true z bytes (.msl ti z 0 n) vy := by
  subst hn
  unfold appQ
  rw [hs.1 s rfl]
  refine ⟨fun e => (by subst e; cases hcl), ?_⟩
  have e : appendS id s true z (.msl ti z 0 es.length) ys = some (.msl id z 0 (es.length + ys.length), (s.setO ti none).setO id (some (.own z (es ++ ys) false)), es.length + ys.length) := by simp [appendS, hH]
  rw [e]
  exact ⟨hb, hl, hk⟩
theorem callQWc {P : Program} [Glob P] {cls : Cls} {id : Nat} {s : St} {K : V → St → Prop} {f : FuncId} {vs : List V} {H : Nat → Option MObj} {N : Nat} (hc : (cls == .w || cls == .any) = true) (hH : s.H = H) (hN : s.next = N)
    (h : ECalls P f vs H N fun v H' next' => K v { s with H := H', next := next' }) : callQ P cls id s K f vs := by
  subst hN
  subst hH
  have hk : ∀ H', keepC cls s.next s.H H' := by
    intro H'
    cases cls with
    | w => trivial
    | any => trivial
    | v z => exact absurd hc (by simp)
    | _ => cases hc
  have hw : wCls cls = true := by
    cases cls with
    | w => rfl
    | any => rfl
    | v z => exact absurd hc (by simp)
    | _ => cases hc
  refine Or.inr ⟨hw, ?_⟩
  rw [List.append_nil]
  exact h.mono fun _ _ _ h1 => ⟨hk _, h1⟩

theorem failE {H : Nat → Option MObj} {next m ti gi : Nat} {vN vP vT vL : V} {M : Mk} {a : Int} {n : List UInt8} (h : MkAt H next m ti gi vN vP vT vL M) : ECalls Try.prog 41 [.ptr m 0 0, vi a, .str n] H next (fun _ H' next' => next ≤ next' ∧ MkAt H' next' m ti gi vN vP vT vL (failM M a n) ∧ ∀ j, j < next → j ≠ m → H' j = H j) := by
  refine ecalls_intro Try.func41 e41_nm e41_ok (by show 3 ≤ 22; decide) ?_
  show ewp _ e41n3 _ _
  have hm := h.hm
  obtain ⟨n1, n2, n3⟩ := h.mt
  by_cases he : M.e = 0
  · have hz : failM M a n = { M with e := 3, at_ := a, name := n } := by unfold failM; rw [if_pos he]
    rw [hz]
    repeat' with_reducible first
      | refine ewp_reg_seq ?_ | refine ewp_reg ?_ | refine ewp_condQ ?_ | refine condQ_T ?_
      | simp -implicitDefEqProofs only [wA, Nat.reduceEqDiff, ↓reduceIte, reduceCtorEq, Nat.reduceAdd, Int.cast_ofNat_Int, Int.reduceLT, Int.reduceLE, Int.reduceEq, Int.reduceToNat, decide_true, decide_false, Bool.false_eq_true, hm, he]
      | (apply ldQ_cell; (focus with_unfolding_all rfl))
      | (apply stQ_cell; (focus with_unfolding_all rfl); (focus with_unfolding_all rfl); (focus with_unfolding_all rfl); (focus (first | assumption | omega | (simp only [wZ]; omega) | trivial)))
    refine heap0 rfl (Or.inl rfl) ?_
    refine h.keep (by simp only [wN]; omega) (by simp only [wM, ↓reduceIte]) (fun j h1 h2 => ?_) ⟨rfl, rfl, rfl, rfl, rfl, rfl⟩
    simp only [wM, if_neg h2]
  · have hz : failM M a n = M := by unfold failM; rw [if_neg he]
    rw [hz]
    repeat' with_reducible first
      | refine ewp_reg_seq ?_ | refine ewp_skip ?_ | refine ewp_condQ ?_
      | simp -implicitDefEqProofs only [wA, Nat.reduceEqDiff, ↓reduceIte, reduceCtorEq, Nat.reduceAdd, Int.cast_ofNat_Int, Int.reduceLT, Int.reduceLE, Int.reduceEq, Int.reduceToNat, decide_true, decide_false, Bool.false_eq_true, hm]
      | (refine condQ_i (fun h => ?_) (fun h => ?_) <;> have h_ := h <;> (try simp only [wD, reduceCtorEq] at h_) <;> (try (exfalso; first | omega | exact bf h_ (by assumption) | exact bt h_ (by assumption) | (refine absurd ?_ h_; focus assumption) | (refine absurd h_ ?_; focus assumption))) <;> (try simp only [h]))
      | (apply ldQ_cell; (focus with_unfolding_all rfl))
    refine heap0 rfl (Or.inl rfl) ?_
    exact MkAt.keep ‹_› (by simp only [wN]; omega) (by simp only [wM, hm]) (fun j h1 h2 => by simp only [wM]) ⟨rfl, rfl, rfl, rfl, rfl, rfl⟩
end Go.Proofs


namespace Go.Proofs
open Go.E

theorem putE {H : Nat → Option MObj} {next m ti gi : Nat} {vN vP vT vL : V} {M : Mk} {x : Sym} (hM : MkAt H next m ti gi vN vP vT vL M) (hb : M.toks.length ≤ 1099511627776) (hx : x.lit = true → x.name ≠ []) : ECalls Try.prog 51 [.ptr m 0 0, x.V] H next (fun v H' next' => next ≤ next' ∧ v = vi (putM M x).2 ∧ (∃ ti' gi', (ti' = ti ∨ next ≤ ti') ∧ (gi' = gi ∨ next ≤ gi') ∧ MkAt H' next' m ti' gi' vN vP vT vL (putM M x).1) ∧ ∀ j, j < next → j ≠ m → j ≠ ti → j ≠ gi → H' j = H j) := by
  refine ecalls_intro Try.func51 e51_nm e51_ok (by show 2 ≤ 66; decide) ?_
  show ewp _ e51n27 _ _
  have hm := hM.hm; have lm := hM.lm; have lt := hM.lt; have lg := hM.lg
  obtain ⟨n1, n2, n3⟩ := hM.mt
  generalize hR : putM M x = R
  unfold putM at hR
  by_cases ht : 0 ≤ tokM M.toks x
  · rw [if_pos ht] at hR
    subst hR
    repeat' with_reducible first
      | refine ewp_reg_seq ?_ | refine ewp_seq ?_ | refine ewp_ret ?_ | refine xt_r ?_ | refine ewp_condQ ?_
      | simp -implicitDefEqProofs only [wA, Nat.reduceEqDiff, ↓reduceIte, reduceCtorEq, Nat.reduceAdd, Int.cast_ofNat_Int, Int.reduceLT, Int.reduceLE, Int.reduceEq, Int.reduceToNat, decide_true, decide_false, Bool.false_eq_true, hm]
      | (refine condQ_i (fun h => ?_) (fun h => ?_) <;> have h_ := h <;> (try simp only [wD, reduceCtorEq] at h_) <;> (try (exfalso; first | omega | exact bf h_ (by assumption) | exact bt h_ (by assumption) | (refine absurd ?_ h_; focus assumption) | (refine absurd h_ ?_; focus assumption))) <;> (try simp only [h]))
      | (apply callQB2 (hp := yuccaref9_maker_tok ?_); (focus (refine (hM.mono (Nat.le_refl _) (fun j hj => ?_)).er; (try simp only [wM]); (repeat rw [if_neg (by omega)]))); (focus exact er_cl); (focus (with_unfolding_all rfl)); (focus exact Flat.int _ _); rotate_left; (focus (first | assumption | omega | (simp only [wZ]; omega) | trivial)))
      | (apply ldQ_whole)
      | (apply boxQ_i; (focus with_unfolding_all rfl); (focus with_unfolding_all rfl))
    refine heap1 rfl (Or.inr rfl) ?_
    simp -implicitDefEqProofs only [wL, Nat.reduceEqDiff, ↓reduceIte, reduceCtorEq]
    refine ⟨by simp only [wN]; omega, trivial, ⟨ti, gi, Or.inl rfl, Or.inl rfl, hM.mono (by simp only [wN]; omega) (fun j hj => ?_)⟩, fun j hj _ _ _ => ?_⟩
    · simp only [wM]; rw [if_neg (by omega)]
    · simp only [wM]; rw [if_neg (by omega)]
  · rw [if_neg ht] at hR
    have tail : ∀ (s : St) (M1 : Mk) (b : Nat), next < s.next → next ≤ b → b < s.next → s.f 0 = .ptr m 0 0 → s.f 3 = .ptr next 0 0 → s.f 6 = .ptr b 0 0 → s.H next = some (.own 4 [x.V] false) → s.H b = some (.own 6 [Tok.V { name := x.name, lit := x.lit, num := litN x }] false) →
        MkAt s.H s.next m ti gi vN vP vT vL M1 → M1.toks = M.toks → M1.given = M.given → (∀ j, j < next → j ≠ m → s.H j = H j) → R = ({ M1 with toks := M.toks ++ [{ name := x.name, lit := x.lit, num := litN x }], given := M.given ++ [x.lit] }, (M.toks.length : Int)) →
        ewp Try.prog e51n22 (HeapPost e51 fun v H' next' => next ≤ next' ∧ v = vi R.2 ∧ (∃ ti' gi', (ti' = ti ∨ next ≤ ti') ∧ (gi' = gi ∨ next ≤ gi') ∧ MkAt H' next' m ti' gi' vN vP vT vL R.1) ∧ ∀ j, j < next → j ≠ m → j ≠ ti → j ≠ gi → H' j = H j) s := by
      intro s M1 b l1 l2 l3 g0 g3 g6 o1 o2 hM1 e1 e2 hf eR
      have hm1 := hM1.hm; have ht1 := hM1.ht; have hg1 := hM1.hg; have lm1 := hM1.lm; have lt1 := hM1.lt; have lg1 := hM1.lg
      have hl := hM1.len
      rw [e1, e2] at hl
      repeat' with_reducible first
        | refine ewp_reg_seq ?_ | refine ewp_ret ?_
        | simp -implicitDefEqProofs only [wA, Nat.reduceEqDiff, ↓reduceIte, reduceCtorEq, Nat.reduceAdd, Int.cast_ofNat_Int, Int.reduceLT, Int.reduceLE, Int.reduceEq, Int.reduceToNat, decide_true, decide_false, Bool.false_eq_true, g0, g3, g6, o1, o2, hm1, ht1, hg1]
        | (apply appQ_msl; (focus (with_unfolding_all rfl)); (focus ((try simp only [wM]); (repeat rw [if_neg (by omega)]); exact ht1)); (focus (simp only [List.length_map])); (focus (first | exact SrcN.sl | exact SrcN.asl)); (focus (simp only [wZ, e1, e2]; omega)); (focus (unfold maxLen; simp only [wZ, e1, e2]; omega)))
        | (apply appQ_msl; (focus (with_unfolding_all rfl)); (focus ((try simp only [wM]); (repeat rw [if_neg (by omega)]); exact hg1)); (focus (simp only [List.length_map])); (focus (first | exact SrcN.sl | exact SrcN.asl)); (focus (simp only [wZ, e1, e2]; omega)); (focus (unfold maxLen; simp only [wZ, e1, e2]; omega)))
        | (apply fil_part; (focus with_unfolding_all rfl); (focus with_unfolding_all rfl); (focus with_unfolding_all rfl); (focus ((try simp -implicitDefEqProofs only [wY]); rfl)))
        | (apply ldQ_whole)
        | (apply ldQ_cell; (focus with_unfolding_all rfl))
        | (apply stQ_cell; (focus with_unfolding_all rfl); (focus with_unfolding_all rfl); (focus with_unfolding_all rfl); (focus (first | assumption | omega | (simp only [wZ]; omega) | trivial)))
        | simp -implicitDefEqProofs (disch := omega) only [w64, if_neg]
      refine heap1 rfl (Or.inr rfl) ?_
      simp -implicitDefEqProofs only [wL, Nat.reduceEqDiff, ↓reduceIte, reduceCtorEq]
      rw [eR]
      refine ⟨by simp only [wN]; omega, by rw [e1, wrap64 (by omega) (by omega)], ⟨s.next + 8, s.next + 13 + 8, Or.inr (by omega), Or.inr (by omega), ?_⟩, fun j hj h1 h2 h3 => ?_⟩
      · refine ⟨?_, ?_, ?_, hM1.eN, hM1.eP, hM1.eT, hM1.eL, by simp only [wN]; omega, by simp only [wN]; omega, by simp only [wN]; omega, by simp [hl], by have := hM.len3; simp; omega⟩
        · simp only [wM, ↓reduceIte]
          simp [e1, e2]
        · simp only [wM]
          repeat first | rw [if_pos trivial] | rw [if_pos rfl] | rw [if_neg (by omega)]
          simp [e1]
        · simp only [wM]
          repeat first | rw [if_pos trivial] | rw [if_pos rfl] | rw [if_neg (by omega)]
          simp [e2]
      · simp only [wM]
        repeat rw [if_neg (by omega)]
        exact hf j hj h1
    have show27 : ∀ Q s, ewp Try.prog (.seq (.reg e51r0) (.seq (.reg e51r1) (.seq e51n6 (.seq (.reg e51r7) (.seq e51n16 e51n22))))) Q s → ewp Try.prog e51n27 Q s := fun Q s h => h
    refine show27 _ _ ?_
    have hR2 : ∀ M1, (if x.lit = true ∧ 0 ≤ ownM M.toks (litN x) then failM M x.at_ x.name else M) = M1 → R = ({ M1 with toks := M.toks ++ [{ name := x.name, lit := x.lit, num := litN x }], given := M.given ++ [x.lit] }, (M.toks.length : Int)) := fun M1 h => by subst h; exact hR.symm
    generalize e51n22 = E at tail
    have hlit : x.lit = true → ∃ c, x.name[(0 : Int).toNat]? = some c ∧ litN x = c.toNat := fun h => by
      have := hx h
      cases hn : x.name with
      | nil => exact absurd hn this
      | cons c r => exact ⟨c, rfl, by unfold litN; rw [if_pos h, hn]; rfl⟩
    by_cases hlt : x.lit = true
    · obtain ⟨c, hc, hc2⟩ := hlit hlt
      have hcl := c.toNat_lt
      have hz : IntKind.i64.wrap (c.toNat : Int) = (c.toNat : Int) := wrap64 (by omega) (by omega)
      repeat' with_reducible first
        | refine ewp_reg_seq ?_ | refine ewp_seq ?_ | refine ewp_reg ?_ | refine ewp_skip ?_ | refine xt_n ?_ | refine ewp_condQ ?_
        | simp -implicitDefEqProofs only [wA, Nat.reduceEqDiff, ↓reduceIte, reduceCtorEq, Nat.reduceAdd, Int.cast_ofNat_Int, Int.reduceLT, Int.reduceLE, Int.reduceEq, Int.reduceToNat, decide_true, decide_false, Bool.false_eq_true, hm, hz]
        | (refine condQ_i (fun h => ?_) (fun h => ?_) <;> have h_ := h <;> (try simp only [wD, reduceCtorEq] at h_) <;> (try (exfalso; first | omega | exact bf h_ (by assumption) | exact bt h_ (by assumption) | (refine absurd ?_ h_; focus assumption) | (refine absurd h_ ?_; focus assumption))) <;> (try simp only [h]))
        | (apply callQB2 (hp := yuccaref9_maker_tok ?_); (focus (refine (hM.mono (Nat.le_refl _) (fun j hj => ?_)).er; (try simp only [wM]); (repeat rw [if_neg (by omega)]))); (focus exact er_cl); (focus (with_unfolding_all rfl)); (focus exact Flat.int _ _); rotate_left; (focus (first | assumption | omega | (simp only [wZ]; omega) | trivial)))
        | (apply callQB2 (hp := yuccaref9_maker_owner ?_); (focus (refine (hM.mono (Nat.le_refl _) (fun j hj => ?_)).er; (try simp only [wM]); (repeat rw [if_neg (by omega)]))); (focus exact er_cl); (focus (with_unfolding_all rfl)); (focus exact Flat.int _ _); rotate_left; (focus (first | assumption | omega | (simp only [wZ]; omega) | trivial)))
        | (refine callQWc rfl rfl rfl ((failE (hM.mono (by simp only [wN]; omega) (fun j hj => by (try simp only [wM]); (repeat rw [if_neg (by omega)])))).mono ?_); rintro v1 H1 n1 ⟨q1, q2, q3⟩; (try simp only [wN] at q1); (try simp only [wM] at q3))
        | (apply bld_nil)
        | (apply bld_part; (focus with_unfolding_all rfl); (focus with_unfolding_all rfl); (focus with_unfolding_all rfl); (focus ((try simp -implicitDefEqProofs only [wE, Nat.reduceAdd]); rfl)))
        | (apply ixs_1; (focus omega); (focus (first | assumption | exact List.getElem?_eq_getElem (by omega) | rfl)))
        | (apply ldQ_whole)
        | (apply ldQ_cell; (focus with_unfolding_all rfl))
        | (apply stQ_whole; (focus with_unfolding_all rfl); (focus with_unfolding_all rfl))
        | (apply stQ_cell; (focus with_unfolding_all rfl); (focus with_unfolding_all rfl); (focus with_unfolding_all rfl); (focus (first | assumption | omega | (simp only [wZ]; omega) | trivial)))
        | (apply boxQ_i; (focus with_unfolding_all rfl); (focus with_unfolding_all rfl))
        | simp -implicitDefEqProofs (disch := omega) only [w64, if_neg]
      · have hg : ∀ j, j < next + 2 + 4 + 2 + 7 → j ≠ m → H1 j = if j = next + 2 + 4 + 2 + 5 then some (.own 6 [.agg [.str x.name, .bool true, vi c.toNat, vi 0, vi 0, .str []]] false) else if j = next then some (.own 4 [x.V] false) else H j := fun j h1 h2 => by
          rw [q3 j (by (try simp only [wN]); omega) h2]
          (try simp only [wM])
          by_cases e1 : j = next + 2 + 4 + 2 + 5
          · simp only [if_pos e1]
          · simp only [if_neg e1]
        refine tail _ (failM M x.at_ x.name) (next + 2 + 4 + 2 + 5) (by show next < n1; omega) (by omega) (by show _ < n1; omega) (by simp -implicitDefEqProofs only [wL, Nat.reduceEqDiff, ↓reduceIte, reduceCtorEq]) (by simp -implicitDefEqProofs only [wL, Nat.reduceEqDiff, ↓reduceIte, reduceCtorEq]) (by simp -implicitDefEqProofs only [wL, Nat.reduceEqDiff, ↓reduceIte, reduceCtorEq]) ?_ ?_ q2 ?_ ?_ (fun j h1 h2 => ?_) ?_
        · show H1 next = _
          rw [hg next (by omega) (by omega), if_neg (by omega), if_pos rfl]
        · show H1 (next + 2 + 4 + 2 + 5) = _
          rw [hg _ (by omega) (by omega), if_pos rfl, hlt, hc2]
        · unfold failM; split <;> rfl
        · unfold failM; split <;> rfl
        · show H1 j = _
          rw [hg j (by omega) h2, if_neg (by omega), if_neg (by omega)]
        · exact hR2 _ (if_pos ⟨hlt, by rw [hc2]; exact h_⟩)
      · refine tail _ M (next + 2 + 4 + 2 + 5) (by simp only [wN]; omega) (by omega) (by simp only [wN]; omega) (by simp -implicitDefEqProofs only [wL, Nat.reduceEqDiff, ↓reduceIte, reduceCtorEq]) (by simp -implicitDefEqProofs only [wL, Nat.reduceEqDiff, ↓reduceIte, reduceCtorEq]) (by simp -implicitDefEqProofs only [wL, Nat.reduceEqDiff, ↓reduceIte, reduceCtorEq]) ?_ ?_ (hM.mono (by simp only [wN]; omega) (fun j hj => ?_)) rfl rfl (fun j h1 h2 => ?_) ?_
        · simp only [wM]
          repeat first | rw [if_pos trivial] | rw [if_pos rfl] | rw [if_neg (by omega)]
        · simp only [wM]
          repeat first | rw [if_pos trivial] | rw [if_pos rfl] | rw [if_neg (by omega)]
          rw [hlt, hc2]
        · simp only [wM]
          repeat first | rw [if_pos trivial] | rw [if_pos rfl] | rw [if_neg (by omega)]
        · simp only [wM]
          repeat first | rw [if_pos trivial] | rw [if_pos rfl] | rw [if_neg (by omega)]
        · exact hR2 _ (if_neg (fun e => by have := e.2; rw [hc2] at this; omega))
    · have hlf : x.lit = false := by simpa using hlt
      have hl0 : litN x = 0 := by unfold litN; rw [if_neg hlt]
      repeat' with_reducible first
        | refine ewp_reg_seq ?_ | refine ewp_seq ?_ | refine ewp_skip ?_ | refine xt_n ?_ | refine ewp_condQ ?_
        | simp -implicitDefEqProofs only [wA, Nat.reduceEqDiff, ↓reduceIte, reduceCtorEq, Nat.reduceAdd, Int.cast_ofNat_Int, Int.reduceLT, Int.reduceLE, Int.reduceEq, Int.reduceToNat, decide_true, decide_false, Bool.false_eq_true, hm]
        | (refine condQ_i (fun h => ?_) (fun h => ?_) <;> have h_ := h <;> (try simp only [wD, reduceCtorEq] at h_) <;> (try (exfalso; first | omega | exact bf h_ (by assumption) | exact bt h_ (by assumption) | (refine absurd ?_ h_; focus assumption) | (refine absurd h_ ?_; focus assumption))) <;> (try simp only [h]))
        | (apply callQB2 (hp := yuccaref9_maker_tok ?_); (focus (refine (hM.mono (Nat.le_refl _) (fun j hj => ?_)).er; (try simp only [wM]); (repeat rw [if_neg (by omega)]))); (focus exact er_cl); (focus (with_unfolding_all rfl)); (focus exact Flat.int _ _); rotate_left; (focus (first | assumption | omega | (simp only [wZ]; omega) | trivial)))
        | (apply bld_nil)
        | (apply bld_part; (focus with_unfolding_all rfl); (focus with_unfolding_all rfl); (focus with_unfolding_all rfl); (focus ((try simp -implicitDefEqProofs only [wE, Nat.reduceAdd]); rfl)))
        | (apply ldQ_whole)
        | (apply ldQ_cell; (focus with_unfolding_all rfl))
        | (apply stQ_whole; (focus with_unfolding_all rfl); (focus with_unfolding_all rfl))
        | (apply boxQ_i; (focus with_unfolding_all rfl); (focus with_unfolding_all rfl))
        | simp -implicitDefEqProofs (disch := omega) only [w64, if_neg]
      refine tail _ M (next + 2 + 4 + 2 + 5) (by simp only [wN]; omega) (by omega) (by simp only [wN]; omega) (by simp -implicitDefEqProofs only [wL, Nat.reduceEqDiff, ↓reduceIte, reduceCtorEq]) (by simp -implicitDefEqProofs only [wL, Nat.reduceEqDiff, ↓reduceIte, reduceCtorEq]) (by simp -implicitDefEqProofs only [wL, Nat.reduceEqDiff, ↓reduceIte, reduceCtorEq]) ?_ ?_ (hM.mono (by simp only [wN]; omega) (fun j hj => ?_)) rfl rfl (fun j h1 h2 => ?_) ?_
      · simp only [wM]
        repeat first | rw [if_pos trivial] | rw [if_pos rfl] | rw [if_neg (by omega)]
      · simp only [wM]
        repeat first | rw [if_pos trivial] | rw [if_pos rfl] | rw [if_neg (by omega)]
        rw [hlf, hl0]
      · simp only [wM]
        repeat first | rw [if_pos trivial] | rw [if_pos rfl] | rw [if_neg (by omega)]
      · simp only [wM]
        repeat first | rw [if_pos trivial] | rw [if_pos rfl] | rw [if_neg (by omega)]
      · exact hR2 _ (if_neg (fun e => hlt e.1))
end Go.Proofs


namespace Go.Proofs
open Go.E

theorem leftGo_bd (n : List UInt8) (l : List (List UInt8)) (i : Nat) : -1 ≤ leftGo n l i ∧ leftGo n l i < (i : Int) + l.length := by
  induction l generalizing i with
  | nil => simp [leftGo]; omega
  | cons a r ih =>
    have := ih (i + 1)
    unfold leftGo; split
    · simp; omega
    · simp at this ⊢; omega
theorem typGo_bd (n : List UInt8) (l : List Non) (i : Nat) : -1 ≤ typGo n l i ∧ typGo n l i < (i : Int) + l.length := by
  induction l generalizing i with
  | nil => simp [typGo]; omega
  | cons a r ih =>
    have := ih (i + 1)
    unfold typGo; split
    · simp; omega
    · simp at this ⊢; omega
theorem tokGo_bd (x : Sym) (l : List Tok) (i : Nat) : -1 ≤ tokGo x l i ∧ tokGo x l i < (i : Int) + l.length := by
  induction l generalizing i with
  | nil => simp [tokGo]; omega
  | cons a r ih =>
    have := ih (i + 1)
    unfold tokGo; split
    · simp; omega
    · simp at this ⊢; omega
theorem tokM_bd (x : Sym) (l : List Tok) (h : 1 ≤ l.length) : -1 ≤ tokM l x ∧ tokM l x < l.length := by
  have := tokGo_bd x (l.drop 1) 1
  unfold tokM
  rw [List.length_drop] at this; omega
theorem failM_f (M : Mk) (a : Int) (n : List UInt8) : (failM M a n).toks = M.toks ∧ (failM M a n).given = M.given ∧ (failM M a n).lefts = M.lefts ∧ (failM M a n).types = M.types ∧ (failM M a n).prods = M.prods ∧ (failM M a n).nons = M.nons ∧ (failM M a n).level = M.level ∧ (failM M a n).inner = M.inner := by
  unfold failM; split <;> exact ⟨rfl, rfl, rfl, rfl, rfl, rfl, rfl, rfl⟩

theorem symE {H : Nat → Option MObj} {next m ti gi : Nat} {vN vP vT vL : V} {M : Mk} {x : Sym} (hM : MkAt H next m ti gi vN vP vT vL M) (hb : M.toks.length ≤ 1099511627776) (hbl : M.lefts.length ≤ 1099511627776) (hx : x.lit = true → x.name ≠ []) : ECalls Try.prog 53 [.ptr m 0 0, x.V] H next (fun v H' next' => next ≤ next' ∧ v = vi (symM M x).2 ∧ (∃ ti' gi', (ti' = ti ∨ next ≤ ti') ∧ (gi' = gi ∨ next ≤ gi') ∧ MkAt H' next' m ti' gi' vN vP vT vL (symM M x).1) ∧ ∀ j, j < next → j ≠ m → j ≠ ti → j ≠ gi → H' j = H j) := by
  refine ecalls_intro Try.func53 e53_nm e53_ok (by show 2 ≤ 32; decide) ?_
  show ewp _ e53n27 _ _
  have hm := hM.hm; have lm := hM.lm; have lt := hM.lt; have lg := hM.lg
  obtain ⟨n1, n2, n3⟩ := hM.mt
  by_cases hl : x.lit = true
  · have e : symM M x = putM M x := by unfold symM; rw [if_pos hl]
    rw [e]
    repeat' with_reducible first
      | refine ewp_reg_seq ?_ | refine ewp_seq ?_ | refine ewp_ret ?_ | refine xt_r ?_ | refine ewp_condQ ?_
      | simp -implicitDefEqProofs only [wA, Nat.reduceEqDiff, ↓reduceIte, reduceCtorEq, Nat.reduceAdd, Int.cast_ofNat_Int, Int.reduceLT, Int.reduceLE, Int.reduceEq, Int.reduceToNat, decide_true, decide_false, Bool.false_eq_true, hm]
      | (refine condQ_i (fun h => ?_) (fun h => ?_) <;> have h_ := h <;> (try simp only [wD, reduceCtorEq] at h_) <;> (try (exfalso; first | omega | exact bf h_ (by assumption) | exact bt h_ (by assumption) | (refine absurd ?_ h_; focus assumption) | (refine absurd h_ ?_; focus assumption))) <;> (try simp only [h]))
      | (refine callQWc rfl rfl rfl ((putE (hM.mono (by simp only [wN]; omega) (fun j hj => by (try simp only [wM]); (repeat rw [if_neg (by omega)]))) hb hx).mono ?_); rintro v1 H1 n1 ⟨q1, rfl, ⟨ti', gi', q3, q4, q5⟩, q6⟩; (try simp only [wN] at q1 q3 q4); (try simp only [wM, wN] at q6))
      | (apply ldQ_whole)
      | (apply ldQ_cell; (focus with_unfolding_all rfl))
      | (apply boxQ_i; (focus with_unfolding_all rfl); (focus with_unfolding_all rfl))
    · refine heap1 rfl (Or.inr rfl) ?_
      simp -implicitDefEqProofs only [wL, Nat.reduceEqDiff, ↓reduceIte, reduceCtorEq]
      refine ⟨by simp only [wN]; omega, trivial, ⟨ti', gi', by omega, by omega, q5⟩, fun j hj h1 h2 h3 => ?_⟩
      show H1 j = H j
      rw [q6 j (by omega) h1 h2 h3, if_neg (by omega)]
  · have hb2 := leftGo_bd x.name M.lefts 0
    have ht2 := tokM_bd x M.toks (by have := hM.len3; omega)
    have hlf : x.lit = false := by simpa using hl
    by_cases h0 : 0 ≤ leftGo x.name M.lefts 0
    · have e : symM M x = (M, 1001 + leftGo x.name M.lefts 0) := by unfold symM; rw [if_neg hl, if_pos h0]
      rw [e]
      have hz : IntKind.i64.wrap (1001 + leftGo x.name M.lefts 0) = 1001 + leftGo x.name M.lefts 0 := wrap64 (by omega) (by omega)
      repeat' with_reducible first
        | refine ewp_reg_seq ?_ | refine ewp_seq ?_ | refine ewp_skip ?_ | refine ewp_ret ?_ | refine xt_n ?_ | refine xt_r ?_ | refine ewp_condQ ?_
        | simp -implicitDefEqProofs only [wA, Nat.reduceEqDiff, ↓reduceIte, reduceCtorEq, Nat.reduceAdd, Int.cast_ofNat_Int, Int.reduceLT, Int.reduceLE, Int.reduceEq, Int.reduceToNat, decide_true, decide_false, Bool.false_eq_true, hm, hz]
        | (refine condQ_i (fun h => ?_) (fun h => ?_) <;> have h_ := h <;> (try simp only [wD, reduceCtorEq] at h_) <;> (try (exfalso; first | omega | exact bf h_ (by assumption) | exact bt h_ (by assumption) | (refine absurd ?_ h_; focus assumption) | (refine absurd h_ ?_; focus assumption))) <;> (try simp only [h]))
        | (apply callQB2 (hp := yuccaref9_maker_left ?_); (focus (refine (hM.mono (Nat.le_refl _) (fun j hj => ?_)).er; (try simp only [wM]); (repeat rw [if_neg (by omega)]))); (focus exact er_cl); (focus (with_unfolding_all rfl)); (focus exact Flat.int _ _); rotate_left; (focus (first | assumption | omega | (simp only [wZ]; omega) | trivial)))
        | (apply ldQ_cell; (focus with_unfolding_all rfl))
        | (apply boxQ_i; (focus with_unfolding_all rfl); (focus with_unfolding_all rfl))
      refine heap1 rfl (Or.inr rfl) ?_
      simp -implicitDefEqProofs only [wL, Nat.reduceEqDiff, ↓reduceIte, reduceCtorEq]
      refine ⟨by simp only [wN]; omega, by first | trivial | rfl, ⟨ti, gi, Or.inl rfl, Or.inl rfl, hM.mono (by simp only [wN]; omega) (fun j hj => ?_)⟩, fun j hj h1 h2 h3 => ?_⟩
      · simp only [wM]
        repeat first | rw [if_pos trivial] | rw [if_neg (by omega)]
      · simp only [wM]
        repeat first | rw [if_pos trivial] | rw [if_neg (by omega)]
    · by_cases h1 : tokM M.toks x < 0
      · have e : symM M x = (failM M x.at_ x.name, 0) := by unfold symM; rw [if_neg hl, if_neg h0, if_pos h1]
        rw [e]
        repeat' with_reducible first
          | refine ewp_reg_seq ?_ | refine ewp_seq ?_ | refine ewp_skip ?_ | refine ewp_ret ?_ | refine xt_n ?_ | refine xt_r ?_ | refine ewp_condQ ?_
          | simp -implicitDefEqProofs only [wA, Nat.reduceEqDiff, ↓reduceIte, reduceCtorEq, Nat.reduceAdd, Int.cast_ofNat_Int, Int.reduceLT, Int.reduceLE, Int.reduceEq, Int.reduceToNat, decide_true, decide_false, Bool.false_eq_true, hm]
          | (refine condQ_i (fun h => ?_) (fun h => ?_) <;> have h_ := h <;> (try simp only [wD, reduceCtorEq] at h_) <;> (try (exfalso; first | omega | exact bf h_ (by assumption) | exact bt h_ (by assumption) | (refine absurd ?_ h_; focus assumption) | (refine absurd h_ ?_; focus assumption))) <;> (try simp only [h]))
          | (apply callQB2 (hp := yuccaref9_maker_left ?_); (focus (refine (hM.mono (Nat.le_refl _) (fun j hj => ?_)).er; (try simp only [wM]); (repeat rw [if_neg (by omega)]))); (focus exact er_cl); (focus (with_unfolding_all rfl)); (focus exact Flat.int _ _); rotate_left; (focus (first | assumption | omega | (simp only [wZ]; omega) | trivial)))
          | (apply callQB2 (hp := yuccaref9_maker_tok ?_); (focus (refine (hM.mono (Nat.le_refl _) (fun j hj => ?_)).er; (try simp only [wM]); (repeat rw [if_neg (by omega)]))); (focus exact er_cl); (focus (with_unfolding_all rfl)); (focus exact Flat.int _ _); rotate_left; (focus (first | assumption | omega | (simp only [wZ]; omega) | trivial)))
          | (refine callQWc rfl rfl rfl ((failE (hM.mono (by simp only [wN]; omega) (fun j hj => by (try simp only [wM]); (repeat rw [if_neg (by omega)])))).mono ?_); rintro v1 H1 n1 ⟨q1, q2, q3⟩; (try simp only [wN] at q1); (try simp only [wM] at q3))
          | (apply ldQ_whole)
          | (apply ldQ_cell; (focus with_unfolding_all rfl))
          | (apply boxQ_i; (focus with_unfolding_all rfl); (focus with_unfolding_all rfl))
        refine heap1 rfl (Or.inr rfl) ?_
        simp -implicitDefEqProofs only [wL, Nat.reduceEqDiff, ↓reduceIte, reduceCtorEq]
        refine ⟨by simp only [wN]; omega, by first | trivial | rfl, ⟨ti, gi, Or.inl rfl, Or.inl rfl, q2.mono (by simp only [wN]; omega) (fun j hj => by simp only [wM])⟩, fun j hj h1 h2 h3 => ?_⟩
        show H1 j = H j
        rw [q3 j (by (try simp only [wN]); omega) h1]
        (try simp only [wM])
        rw [if_neg (by omega)]
      · have e : symM M x = (M, tokM M.toks x) := by unfold symM; rw [if_neg hl, if_neg h0, if_neg h1]
        rw [e]
        repeat' with_reducible first
          | refine ewp_reg_seq ?_ | refine ewp_seq ?_ | refine ewp_skip ?_ | refine ewp_ret ?_ | refine xt_n ?_ | refine ewp_condQ ?_
          | simp -implicitDefEqProofs only [wA, Nat.reduceEqDiff, ↓reduceIte, reduceCtorEq, Nat.reduceAdd, Int.cast_ofNat_Int, Int.reduceLT, Int.reduceLE, Int.reduceEq, Int.reduceToNat, decide_true, decide_false, Bool.false_eq_true, hm]
          | (refine condQ_i (fun h => ?_) (fun h => ?_) <;> have h_ := h <;> (try simp only [wD, reduceCtorEq] at h_) <;> (try (exfalso; first | omega | exact bf h_ (by assumption) | exact bt h_ (by assumption) | (refine absurd ?_ h_; focus assumption) | (refine absurd h_ ?_; focus assumption))) <;> (try simp only [h]))
          | (apply callQB2 (hp := yuccaref9_maker_left ?_); (focus (refine (hM.mono (Nat.le_refl _) (fun j hj => ?_)).er; (try simp only [wM]); (repeat rw [if_neg (by omega)]))); (focus exact er_cl); (focus (with_unfolding_all rfl)); (focus exact Flat.int _ _); rotate_left; (focus (first | assumption | omega | (simp only [wZ]; omega) | trivial)))
          | (apply callQB2 (hp := yuccaref9_maker_tok ?_); (focus (refine (hM.mono (Nat.le_refl _) (fun j hj => ?_)).er; (try simp only [wM]); (repeat rw [if_neg (by omega)]))); (focus exact er_cl); (focus (with_unfolding_all rfl)); (focus exact Flat.int _ _); rotate_left; (focus (first | assumption | omega | (simp only [wZ]; omega) | trivial)))
          | (apply ldQ_whole)
          | (apply ldQ_cell; (focus with_unfolding_all rfl))
          | (apply boxQ_i; (focus with_unfolding_all rfl); (focus with_unfolding_all rfl))
        refine heap1 rfl (Or.inr rfl) ?_
        simp -implicitDefEqProofs only [wL, Nat.reduceEqDiff, ↓reduceIte, reduceCtorEq]
        refine ⟨by simp only [wN]; omega, by first | trivial | rfl, ⟨ti, gi, Or.inl rfl, Or.inl rfl, hM.mono (by simp only [wN]; omega) (fun j hj => ?_)⟩, fun j hj h1 h2 h3 => ?_⟩
        · simp only [wM]
          repeat first | rw [if_pos trivial] | rw [if_neg (by omega)]
        · simp only [wM]
          repeat first | rw [if_pos trivial] | rw [if_neg (by omega)]
end Go.Proofs


namespace Go.Proofs
open Go.E

/- A token among tokens. -/
abbrev tokC (x : Tok) : List V := [.str x.name, .bool x.lit, vi x.num, vi x.level, vi x.assoc, .str x.tag]
theorem ldT {K : V → Prop} {l : List Tok} {k off : Nat} {ro : Bool} {x : Tok} {c : V} (hx : l[k]? = some x) (hc : (tokC x)[off]? = some c) (hk : K c) : onS (ldQ (some (.own 6 (l.map Tok.V) ro)) false 1 k off) K :=
  ldQ_fld (f := tokC) hx hc hk
theorem stT (x' : Tok) {K : St → Prop} {s : St} {id k off : Nat} {l : List Tok} {x : Tok} {v : V} (hx : l[k]? = some x) (hv : v.cells = [v]) (hc : v.okCell = true) (ha : v.isAgg = false) (ho : off < 6) (he : (tokC x).set off v = tokC x')
    (hk : K (s.setO id (some (.own 6 ((l.set k x').map Tok.V) false)))) : onS (stQ s (some (.own 6 (l.map Tok.V) false)) 1 id k off v) K := by
  have e : storeE 1 6 (.agg (tokC x)) v off = some (.agg ((tokC x).set off v)) := by
    unfold storeE
    rw [if_neg (by rw [ha]; simp [V.isAgg])]
    cases v <;> simp_all [V.isAgg]
  have e2 : stQ s (some (.own 6 (l.map Tok.V) false)) 1 id k off v = some (s.setO id (some (.own 6 ((l.set k x').map Tok.V) false))) := by
    have e3 : (Tok.V x) = V.agg (tokC x) := rfl
    have e4 : V.agg (tokC x') = Tok.V x' := rfl
    simp only [stQ, List.getElem?_map, hx, Option.map_some, hv, hc, List.length_singleton, and_self, ↓reduceIte, e3, e, he, e4, List.map_set]
  rw [e2]; exact hk
theorem labT {l : List Tok} {ro : Bool} (h : 0 < l.length) : lab (.own 6 (l.map Tok.V) ro) = 13 := by
  cases l with
  | nil => simp at h
  | cons a r => rfl

/-- The state of a declaration, behind its token. -/
structure DAt (s : St) (H : Nat → Option MObj) (next m ti gi : Nat) (vN vP vT vL : V) (d : Decl) (x : Sym) (t ti1 gi1 : Nat) (M : Mk) : Prop where
  at_ : MkAt s.H s.next m ti1 gi1 vN vP vT vL M
  it : ti1 = ti ∨ next ≤ ti1
  ig : gi1 = gi ∨ next ≤ gi1
  f0 : s.f 0 = .ptr m 0 0
  f4 : s.f 4 = .ptr next 0 0
  f5 : s.f 5 = .ptr (next + 1) 0 0
  f7 : s.f 7 = vi t
  f8 : s.f 8 = .ptr ti1 t 0
  h4 : s.H next = some (.own 4 [d.V] false)
  h5 : s.H (next + 1) = some (.own 4 [x.V] false)
  lt : t < M.toks.length
  ln : next + 2 ≤ s.next
  fr : ∀ j, j < next → j ≠ m → j ≠ ti → j ≠ gi → s.H j = H j

theorem MkAt.setT {H H' : Nat → Option MObj} {next n' m ti gi t : Nat} {vN vP vT vL : V} {M : Mk} {k : Tok} (h : MkAt H next m ti gi vN vP vT vL M) (hn : next ≤ n') (ht : H' ti = some (.own 6 ((M.toks.set t k).map Tok.V) false))
    (hf : ∀ j, j < next → j ≠ ti → H' j = H j) : MkAt H' n' m ti gi vN vP vT vL (setT M t k) := by
  obtain ⟨n1, n2, n3⟩ := h.mt
  have := h.lm; have := h.lt; have := h.lg
  refine ⟨?_, ?_, ?_, h.eN, h.eP, h.eT, h.eL, by omega, by omega, by omega, ?_, ?_⟩
  · rw [hf m h.lm (fun e => n1 e.symm), h.hm]
    simp [Go.Proofs.setT]
  · rw [ht]; rfl
  · rw [hf gi h.lg n3]; exact h.hg
  · simp [Go.Proofs.setT, h.len]
  · simp [Go.Proofs.setT, h.len3]
theorem DAt.ap4 {s : St} {H : Nat → Option MObj} {next m ti gi t ti1 gi1 : Nat} {vN vP vT vL : V} {d : Decl} {x : Sym} {M : Mk} (h : DAt s H next m ti gi vN vP vT vL d x t ti1 gi1 M) : next ≠ m ∧ next ≠ ti1 ∧ next ≠ gi1 := by
  have hj := h.h4
  refine ⟨fun q => ?_, fun q => ?_, fun q => ?_⟩
  · rw [q, h.at_.hm] at hj; cases hj
  · rw [q, h.at_.ht] at hj; cases hj
  · rw [q, h.at_.hg] at hj; cases hj
theorem DAt.upd {s s' : St} {H : Nat → Option MObj} {next m ti gi t ti1 gi1 : Nat} {vN vP vT vL : V} {d : Decl} {x : Sym} {M M' : Mk} (h : DAt s H next m ti gi vN vP vT vL d x t ti1 gi1 M)
    (hA : MkAt s'.H s'.next m ti1 gi1 vN vP vT vL M') (hl : M'.toks.length = M.toks.length) (h0 : s'.f 0 = s.f 0) (h4 : s'.f 4 = s.f 4) (h5 : s'.f 5 = s.f 5) (h7 : s'.f 7 = s.f 7) (h8 : s'.f 8 = s.f 8) (hn : s.next ≤ s'.next)
    (hH : ∀ j, j < s.next → j ≠ m → j ≠ ti1 → j ≠ gi1 → s'.H j = s.H j) : DAt s' H next m ti gi vN vP vT vL d x t ti1 gi1 M' := by
  have ln := h.ln
  have hap : ∀ j e, s.H j = some (.own 4 e false) → j ≠ m ∧ j ≠ ti1 ∧ j ≠ gi1 := fun j e hj => by
    refine ⟨fun q => ?_, fun q => ?_, fun q => ?_⟩
    · rw [q, h.at_.hm] at hj; cases hj
    · rw [q, h.at_.ht] at hj; cases hj
    · rw [q, h.at_.hg] at hj; cases hj
  obtain ⟨a1, a2, a3⟩ := hap _ _ h.h4
  obtain ⟨b1, b2, b3⟩ := hap _ _ h.h5
  refine ⟨hA, h.it, h.ig, h0.trans h.f0, h4.trans h.f4, h5.trans h.f5, h7.trans h.f7, h8.trans h.f8, ?_, ?_, by rw [hl]; exact h.lt, by omega, fun j hj c1 c2 c3 => ?_⟩
  · rw [hH next (by omega) a1 a2 a3]; exact h.h4
  · rw [hH (next + 1) (by omega) b1 b2 b3]; exact h.h5
  · have := h.it; have := h.ig
    rw [hH j (by omega) c1 (by omega) (by omega)]; exact h.fr j hj c1 c2 c3

theorem declA_walk {s : St} {H : Nat → Option MObj} {next m ti gi t ti1 gi1 : Nat} {vN vP vT vL : V} {d : Decl} {x : Sym} {M : Mk} {E : EC} {Q : Exit → St → Prop} (h : DAt s H next m ti gi vN vP vT vL d x t ti1 gi1 M) (hk : 1 ≤ d.kind ∧ d.kind ≤ 6)
    (hQ : ∀ s', DAt s' H next m ti gi vN vP vT vL d x t ti1 gi1 (declA M d.kind x t) → ewp Try.prog E Q s') : ewp Try.prog (.seq e40n25 E) Q s := by
  have hD := h
  obtain ⟨hM, it, ig, f0, f4, f5, f7, f8, h4, h5, lt, ln, fr⟩ := h
  have hm := hM.hm; have lm := hM.lm; have ht := hM.ht; have hg := hM.hg; have lt1 := hM.lt; have lg := hM.lg
  obtain ⟨n1, n2, n3⟩ := hM.mt
  by_cases hk1 : d.kind = 1
  · have e : declA M d.kind x t = M := by unfold declA; rw [if_pos hk1]
    rw [e] at hQ
    repeat' with_reducible first
      | refine ewp_reg_seq ?_ | refine ewp_seq ?_ | refine ewp_skip ?_ | refine xt_n ?_ | refine ewp_condQ ?_ | refine condQ_F ?_
      | simp -implicitDefEqProofs only [wA, Nat.reduceEqDiff, ↓reduceIte, reduceCtorEq, Nat.reduceAdd, Int.cast_ofNat_Int, Int.reduceLT, Int.reduceLE, Int.reduceEq, Int.reduceToNat, decide_true, decide_false, Bool.false_eq_true, f0, f4, f5, f7, f8, h4, h5, hm, hk1]
      | (apply ldQ_cell; (focus with_unfolding_all rfl))
    exact hQ _ (hD.upd (hM.mono (by simp only [wN]; omega) (fun j hj => by simp only [wM])) rfl (by simp -implicitDefEqProofs only [wL, Nat.reduceEqDiff, ↓reduceIte, reduceCtorEq]) (by simp -implicitDefEqProofs only [wL, Nat.reduceEqDiff, ↓reduceIte, reduceCtorEq]) (by simp -implicitDefEqProofs only [wL, Nat.reduceEqDiff, ↓reduceIte, reduceCtorEq]) (by simp -implicitDefEqProofs only [wL, Nat.reduceEqDiff, ↓reduceIte, reduceCtorEq]) (by simp -implicitDefEqProofs only [wL, Nat.reduceEqDiff, ↓reduceIte, reduceCtorEq]) (by simp only [wN]; omega) (fun j h1 h2 h3 h4 => by simp only [wM]))
  · have hget : M.toks[t]? = some (tokD M t) := by
      unfold tokD; rw [Int.toNat_natCast, List.getElem?_eq_getElem lt]; simp [List.getD, lt]
    generalize hk0 : tokD M t = k at hget
    by_cases hl : 0 < k.level
    · have e : declA M d.kind x t = setT (failM M x.at_ x.name) t { k with level := M.level, assoc := d.kind - 1 } := by unfold declA; simp only [hk0]; rw [if_neg hk1, if_pos hl]
      rw [e] at hQ
      have hz : IntKind.i64.wrap (d.kind - 1) = d.kind - 1 := wrap64 (by omega) (by omega)
      obtain ⟨ff1, ff2, ff3, ff4, ff5, ff6, ff7, ff8⟩ := failM_f M x.at_ x.name
      repeat' with_reducible first
        | refine ewp_reg_seq ?_ | refine ewp_seq ?_ | refine ewp_reg ?_ | refine xt_n ?_ | refine ewp_condQ ?_
        | simp -implicitDefEqProofs only [wA, Nat.reduceEqDiff, ↓reduceIte, reduceCtorEq, Nat.reduceAdd, Int.cast_ofNat_Int, Int.reduceLT, Int.reduceLE, Int.reduceEq, Int.reduceToNat, decide_true, decide_false, Bool.false_eq_true, f0, f4, f5, f7, f8, h4, h5, hm, ht, hz]
        | (refine condQ_i (fun h => ?_) (fun h => ?_) <;> have h_ := h <;> (try simp only [wD, reduceCtorEq] at h_) <;> (try (exfalso; first | omega | exact bf h_ (by assumption) | exact bt h_ (by assumption) | (refine absurd ?_ h_; focus assumption) | (refine absurd h_ ?_; focus assumption))) <;> (try simp only [h]))
        | (apply ldT; (focus assumption); (focus (with_unfolding_all rfl)))
        | (refine callQWc rfl rfl rfl ((failE (hM.mono (by simp only [wN]; omega) (fun j hj => by (try simp only [wM]); (repeat rw [if_neg (by omega)])))).mono ?_); rintro v1 H1 n1 ⟨q1, q2, q3⟩; (try simp only [wN] at q1); (try simp only [wM] at q3))
        | (apply ldQ_cell; (focus with_unfolding_all rfl))
      simp only [wN] at q3
      have hm1 := q2.hm; have ht1 := q2.ht
      rw [ff1] at ht1
      obtain ⟨a1, a2, a3⟩ := hD.ap4
      have h41 : H1 next = some (.own 4 [d.V] false) := by rw [q3 next (by omega) a1]; exact h4
      have hm2 : (mkC ti1 gi1 vN vP vT vL (failM M x.at_ x.name)) = .agg [.msl ti1 6 0 (failM M x.at_ x.name).toks.length, vN, vP, .str [], .str [], .msl gi1 1 0 (failM M x.at_ x.name).given.length, vT, vL, vi (failM M x.at_ x.name).e, vi (failM M x.at_ x.name).at_, .str (failM M x.at_ x.name).name, vi M.level, vi (failM M x.at_ x.name).inner] := by rw [← ff7]
      rw [hm2] at hm1
      repeat' with_reducible first
        | refine xt_n ?_
        | simp -implicitDefEqProofs only [wA, Nat.reduceEqDiff, ↓reduceIte, reduceCtorEq, Nat.reduceAdd, Int.cast_ofNat_Int, Int.reduceLT, Int.reduceLE, Int.reduceEq, Int.reduceToNat, decide_true, decide_false, Bool.false_eq_true, f0, f4, f5, f7, f8, h41, hm1, ht1, hz]
        | (refine And.intro ?_ ?_; (focus (first | with_unfolding_all rfl | exact congrArg some (labT (by first | omega | (simp only [List.length_set]; omega))))))
        | (apply stT ({ k with level := M.level }); (focus (first | assumption | exact List.getElem?_set_self (by first | omega | (simp only [List.length_set]; omega)))); (focus (with_unfolding_all rfl)); (focus (with_unfolding_all rfl)); (focus (with_unfolding_all rfl)); (focus decide); (focus (with_unfolding_all rfl)))
        | (apply stT ({ k with level := M.level, assoc := d.kind - 1 }); (focus (first | assumption | exact List.getElem?_set_self (by first | omega | (simp only [List.length_set]; omega)))); (focus (with_unfolding_all rfl)); (focus (with_unfolding_all rfl)); (focus (with_unfolding_all rfl)); (focus decide); (focus (with_unfolding_all rfl)))
        | (apply ldQ_cell; (focus with_unfolding_all rfl))
      refine hQ _ (hD.upd (q2.setT (by simp only [wN]; omega) ?_ (fun j h1 h2 => ?_)) (by simp [setT, ff1]) (by simp -implicitDefEqProofs only [wL, Nat.reduceEqDiff, ↓reduceIte, reduceCtorEq]) (by simp -implicitDefEqProofs only [wL, Nat.reduceEqDiff, ↓reduceIte, reduceCtorEq]) (by simp -implicitDefEqProofs only [wL, Nat.reduceEqDiff, ↓reduceIte, reduceCtorEq]) (by simp -implicitDefEqProofs only [wL, Nat.reduceEqDiff, ↓reduceIte, reduceCtorEq]) (by simp -implicitDefEqProofs only [wL, Nat.reduceEqDiff, ↓reduceIte, reduceCtorEq]) (by simp only [wN]; omega) (fun j h1 h2 h3 h4 => ?_))
      · simp only [wM]
        repeat first | rw [if_pos trivial] | rw [if_pos rfl] | rw [if_neg (by omega)]
        simp [List.set_set, ff1]
      · simp only [wM]
        repeat first | rw [if_pos trivial] | rw [if_pos rfl] | rw [if_neg (by omega)]
      · simp only [wM]
        repeat first | rw [if_pos trivial] | rw [if_pos rfl] | rw [if_neg (by omega)]
        exact q3 j (by omega) h2
    · have e : declA M d.kind x t = setT M t { k with level := M.level, assoc := d.kind - 1 } := by unfold declA; simp only [hk0]; rw [if_neg hk1, if_neg hl]
      rw [e] at hQ
      have hz : IntKind.i64.wrap (d.kind - 1) = d.kind - 1 := wrap64 (by omega) (by omega)
      repeat' with_reducible first
        | refine ewp_reg_seq ?_ | refine ewp_seq ?_ | refine ewp_reg ?_ | refine ewp_skip ?_ | refine xt_n ?_ | refine ewp_condQ ?_
        | simp -implicitDefEqProofs only [wA, Nat.reduceEqDiff, ↓reduceIte, reduceCtorEq, Nat.reduceAdd, Int.cast_ofNat_Int, Int.reduceLT, Int.reduceLE, Int.reduceEq, Int.reduceToNat, decide_true, decide_false, Bool.false_eq_true, f0, f4, f5, f7, f8, h4, h5, hm, ht, hz]
        | (refine condQ_i (fun h => ?_) (fun h => ?_) <;> have h_ := h <;> (try simp only [wD, reduceCtorEq] at h_) <;> (try (exfalso; first | omega | exact bf h_ (by assumption) | exact bt h_ (by assumption) | (refine absurd ?_ h_; focus assumption) | (refine absurd h_ ?_; focus assumption))) <;> (try simp only [h]))
        | (apply ldT; (focus assumption); (focus (with_unfolding_all rfl)))
        | (refine And.intro ?_ ?_; (focus (first | with_unfolding_all rfl | exact congrArg some (labT (by first | omega | (simp only [List.length_set]; omega))))))
        | (apply stT ({ k with level := M.level }); (focus (first | assumption | exact List.getElem?_set_self (by first | omega | (simp only [List.length_set]; omega)))); (focus (with_unfolding_all rfl)); (focus (with_unfolding_all rfl)); (focus (with_unfolding_all rfl)); (focus decide); (focus (with_unfolding_all rfl)))
        | (apply stT ({ k with level := M.level, assoc := d.kind - 1 }); (focus (first | assumption | exact List.getElem?_set_self (by first | omega | (simp only [List.length_set]; omega)))); (focus (with_unfolding_all rfl)); (focus (with_unfolding_all rfl)); (focus (with_unfolding_all rfl)); (focus decide); (focus (with_unfolding_all rfl)))
        | (apply ldQ_cell; (focus with_unfolding_all rfl))
      refine hQ _ (hD.upd (hM.setT (by simp only [wN]; omega) ?_ (fun j h1 h2 => ?_)) (by simp [setT]) (by simp -implicitDefEqProofs only [wL, Nat.reduceEqDiff, ↓reduceIte, reduceCtorEq]) (by simp -implicitDefEqProofs only [wL, Nat.reduceEqDiff, ↓reduceIte, reduceCtorEq]) (by simp -implicitDefEqProofs only [wL, Nat.reduceEqDiff, ↓reduceIte, reduceCtorEq]) (by simp -implicitDefEqProofs only [wL, Nat.reduceEqDiff, ↓reduceIte, reduceCtorEq]) (by simp -implicitDefEqProofs only [wL, Nat.reduceEqDiff, ↓reduceIte, reduceCtorEq]) (by simp only [wN]; omega) (fun j h1 h2 h3 h4 => ?_))
      · simp only [wM]
        repeat first | rw [if_pos trivial] | rw [if_pos rfl] | rw [if_neg (by omega)]
        simp [List.set_set]
      · simp only [wM]
        repeat first | rw [if_pos trivial] | rw [if_pos rfl] | rw [if_neg (by omega)]
      · simp only [wM]
        repeat first | rw [if_pos trivial] | rw [if_pos rfl] | rw [if_neg (by omega)]
end Go.Proofs


namespace Go.Proofs
open Go.E

/-- A token's number is set, and told as given. -/
def setN (M : Mk) (t : Nat) (n : Int) : Mk := { setT M t { tokD M t with num := n } with given := M.given.set t true }
theorem MkAt.setN {H H' : Nat → Option MObj} {next n' m ti gi t : Nat} {n : Int} {vN vP vT vL : V} {M : Mk} (h : MkAt H next m ti gi vN vP vT vL M) (hn : next ≤ n') (ht : H' ti = some (.own 6 ((M.toks.set t { tokD M t with num := n }).map Tok.V) false))
    (hg : H' gi = some (.own 1 ((M.given.set t true).map V.bool) false)) (hf : ∀ j, j < next → j ≠ ti → j ≠ gi → H' j = H j) : MkAt H' n' m ti gi vN vP vT vL (setN M t n) := by
  obtain ⟨n1, n2, n3⟩ := h.mt
  have := h.lm; have := h.lt; have := h.lg
  refine ⟨?_, ?_, ?_, h.eN, h.eP, h.eT, h.eL, by omega, by omega, by omega, ?_, ?_⟩
  · rw [hf m h.lm (fun e => n1 e.symm) (fun e => n2 e.symm), h.hm]
    simp [Go.Proofs.setN, Go.Proofs.setT]
  · rw [ht]; rfl
  · rw [hg]; rfl
  · simp [Go.Proofs.setN, Go.Proofs.setT, h.len]
  · simp [Go.Proofs.setN, Go.Proofs.setT, h.len3]

theorem declN_walk {s : St} {H : Nat → Option MObj} {next m ti gi t ti1 gi1 : Nat} {vN vP vT vL : V} {d : Decl} {x : Sym} {M : Mk} {Q : Exit → St → Prop} (h : DAt s H next m ti gi vN vP vT vL d x t ti1 gi1 M)
    (hQ : ∀ s', DAt s' H next m ti gi vN vP vT vL d x t ti1 gi1 (setN M t x.num) → Q .normal s') : ewp Try.prog e40n33 Q s := by
  have hD := h
  obtain ⟨hM, it, ig, f0, f4, f5, f7, f8, h4, h5, lt, ln, fr⟩ := h
  have hm := hM.hm; have lm := hM.lm; have ht := hM.ht; have hg := hM.hg; have lt1 := hM.lt; have lg := hM.lg
  have hlen := hM.len
  obtain ⟨n1, n2, n3⟩ := hM.mt
  have hget : M.toks[t]? = some (tokD M t) := by
    unfold tokD; rw [Int.toNat_natCast, List.getElem?_eq_getElem lt]; simp [List.getD, lt]
  generalize hk0 : tokD M t = k at hget
  repeat' with_reducible first
    | refine ewp_reg_seq ?_ | refine ewp_reg ?_
    | simp -implicitDefEqProofs only [wA, Nat.reduceEqDiff, ↓reduceIte, reduceCtorEq, Nat.reduceAdd, Int.cast_ofNat_Int, Int.reduceLT, Int.reduceLE, Int.reduceEq, Int.reduceToNat, decide_true, decide_false, Bool.false_eq_true, f0, f4, f5, f7, f8, h4, h5, hm, ht, hg]
    | (apply stT ({ k with num := x.num }); (focus (first | assumption | exact List.getElem?_set_self (by first | omega | (simp only [List.length_set]; omega)))); (focus (with_unfolding_all rfl)); (focus (with_unfolding_all rfl)); (focus (with_unfolding_all rfl)); (focus decide); (focus (with_unfolding_all rfl)))
    | (apply ia_mslQ; (focus omega); (focus (first | assumption | omega | (simp only [wZ]; omega) | trivial)))
    | (apply ldQ_cell; (focus with_unfolding_all rfl))
    | (apply stQ_obj; (focus (first | assumption | omega | (simp only [wZ]; omega) | trivial)); (focus with_unfolding_all rfl); (focus with_unfolding_all rfl); (focus (intro _; with_unfolding_all rfl)))
    | simp -implicitDefEqProofs (disch := omega) only [w64, if_neg]
  refine hQ _ (hD.upd (hM.setN (by simp only [wN]; omega) ?_ ?_ (fun j h1 h2 h3 => ?_)) (by simp [setN, setT]) (by simp -implicitDefEqProofs only [wL, Nat.reduceEqDiff, ↓reduceIte, reduceCtorEq]) (by simp -implicitDefEqProofs only [wL, Nat.reduceEqDiff, ↓reduceIte, reduceCtorEq]) (by simp -implicitDefEqProofs only [wL, Nat.reduceEqDiff, ↓reduceIte, reduceCtorEq]) (by simp -implicitDefEqProofs only [wL, Nat.reduceEqDiff, ↓reduceIte, reduceCtorEq]) (by simp -implicitDefEqProofs only [wL, Nat.reduceEqDiff, ↓reduceIte, reduceCtorEq]) (by simp only [wN]; omega) (fun j h1 h2 h3 h4 => ?_))
  · simp only [wM]
    repeat first | rw [if_pos trivial] | rw [if_pos rfl] | rw [if_neg (by omega)]
    rw [hk0]
  · simp only [wM]
    repeat first | rw [if_pos trivial] | rw [if_pos rfl] | rw [if_neg (by omega)]
  · simp only [wM]
    repeat first | rw [if_pos trivial] | rw [if_pos rfl] | rw [if_neg (by omega)]
  · simp only [wM]
    repeat first | rw [if_pos trivial] | rw [if_pos rfl] | rw [if_neg (by omega)]

theorem declB_walk {s : St} {H : Nat → Option MObj} {next m ti gi t ti1 gi1 : Nat} {vN vP vT vL : V} {d : Decl} {x : Sym} {M : Mk} {E : EC} {Q : Exit → St → Prop} (h : DAt s H next m ti gi vN vP vT vL d x t ti1 gi1 M) (hb : M.toks.length ≤ 1099511627776)
    (hQ : ∀ s', DAt s' H next m ti gi vN vP vT vL d x t ti1 gi1 (declB2 M x t) → ewp Try.prog E Q s') : ewp Try.prog (.seq e40n36 E) Q s := by
  have hD := h
  obtain ⟨hM, it, ig, f0, f4, f5, f7, f8, h4, h5, lt, ln, fr⟩ := h
  have hm := hM.hm; have lm := hM.lm; have ht := hM.ht; have hg := hM.hg; have lt1 := hM.lt; have lg := hM.lg
  have hlen := hM.len
  obtain ⟨n1, n2, n3⟩ := hM.mt
  by_cases hn : 0 < x.num
  · have hgt : M.given[t]? = some (M.given.getD t false) := by
      rw [List.getElem?_eq_getElem (by omega)]; simp [List.getD, show t < M.given.length by omega]
    generalize hgb : M.given.getD t false = gb at hgt
    obtain ⟨ff1, ff2, ff3, ff4, ff5, ff6, ff7, ff8⟩ := failM_f M x.at_ x.name
    show ewp _ (.seq (.seq (.reg e40r26) (.cond (.t 88) (.seq e40n30 e40n33) .skip)) E) Q s
    by_cases hC : (t : Int) = 1 ∨ gb = true ∨ 0 ≤ ownM M.toks x.num
    · have e : declB2 M x t = setN (failM M x.at_ x.name) t x.num := by
        unfold declB2 setN
        simp only [if_pos hn, Int.toNat_natCast, hgb, if_pos hC, ff2, tokD, ff1]
      rw [e] at hQ
      have tail : ∀ s', DAt s' H next m ti gi vN vP vT vL d x t ti1 gi1 (failM M x.at_ x.name) → ewp Try.prog e40n33 (exThen (ewp Try.prog E Q) Q) s' := fun s' h' => declN_walk h' fun s2 h2 => hQ s2 h2
      generalize e40n33 = F at tail
      repeat' with_reducible first
        | refine ewp_reg_seq ?_ | refine ewp_seq ?_ | refine ewp_reg ?_ | refine ewp_skip ?_ | refine xt_n ?_ | refine ewp_condQ ?_ | refine condQ_T ?_ | refine L_gdQ ?_ | refine gdQ_FF ?_ | refine gdQ_TF ?_
        | simp -implicitDefEqProofs only [wA, Nat.reduceEqDiff, ↓reduceIte, reduceCtorEq, Nat.reduceAdd, Int.cast_ofNat_Int, Int.reduceLT, Int.reduceLE, Int.reduceEq, Int.reduceToNat, decide_true, decide_false, Bool.false_eq_true, f0, f4, f5, f7, f8, h4, h5, hm, ht, hg]
        | (refine condQ_i (fun h => ?_) (fun h => ?_) <;> have h_ := h <;> (try simp only [wD, reduceCtorEq] at h_) <;> (try (exfalso; first | omega | exact bf h_ (by assumption) | exact bt h_ (by assumption) | (refine absurd ?_ h_; focus assumption) | (refine absurd h_ ?_; focus assumption))) <;> (try simp only [h]))
        | ((first | refine gdQ_iT (fun h => ?_) (fun h => ?_) | refine gdQ_iF (fun h => ?_) (fun h => ?_)) <;> have h_ := h <;> (try simp only [wD, reduceCtorEq] at h_) <;> (try (exfalso; first | omega | exact bf h_ (by assumption) | exact bt h_ (by assumption) | (refine absurd ?_ h_; focus assumption) | (refine absurd h_ ?_; focus assumption))) <;> (try simp only [h]))
        | (apply callQB2 (hp := yuccaref9_maker_owner ?_); (focus (refine (hM.mono (Nat.le_refl _) (fun j hj => ?_)).er; (try simp only [wM]); (repeat rw [if_neg (by omega)]))); (focus exact er_cl); (focus (with_unfolding_all rfl)); (focus exact Flat.int _ _); rotate_left; (focus (first | assumption | omega | (simp only [wZ]; omega) | trivial)))
        | (refine callQWc rfl rfl rfl ((failE (hM.mono (by simp only [wN]; omega) (fun j hj => by (try simp only [wM]); (repeat rw [if_neg (by omega)])))).mono ?_); rintro v1 H1 n1 ⟨q1, q2, q3⟩; (try simp only [wN] at q1); (try simp only [wM] at q3))
        | (apply ia_mslQ; (focus omega); (focus (first | assumption | omega | (simp only [wZ]; omega) | trivial)))
        | (apply ldQ_obj; (focus (first | assumption | exact List.getElem?_eq_getElem (by omega) | rfl)); (focus with_unfolding_all rfl))
        | (apply ldQ_cell; (focus with_unfolding_all rfl))
      all_goals first
        | (exfalso; rcases hC with hC | hC | hC <;> first | omega | (rw [hC] at h_; cases h_) | (simp_all; done))
        | (simp only [wN] at q3; exact tail _ (hD.upd (q2.mono (by simp only [wN]; omega) (fun j hj => by simp only [wM])) (by rw [ff1]) (by simp -implicitDefEqProofs only [wL, Nat.reduceEqDiff, ↓reduceIte, reduceCtorEq]) (by simp -implicitDefEqProofs only [wL, Nat.reduceEqDiff, ↓reduceIte, reduceCtorEq]) (by simp -implicitDefEqProofs only [wL, Nat.reduceEqDiff, ↓reduceIte, reduceCtorEq]) (by simp -implicitDefEqProofs only [wL, Nat.reduceEqDiff, ↓reduceIte, reduceCtorEq]) (by simp -implicitDefEqProofs only [wL, Nat.reduceEqDiff, ↓reduceIte, reduceCtorEq]) (by simp only [wN]; omega) (fun j h1 h2 h3 h4 => (show H1 j = s.H j from q3 j (by omega) h2))))
    · have e : declB2 M x t = setN M t x.num := by
        unfold declB2 setN
        simp only [if_pos hn, Int.toNat_natCast, hgb, if_neg hC, tokD]
      rw [e] at hQ
      have tail : ∀ s', DAt s' H next m ti gi vN vP vT vL d x t ti1 gi1 M → ewp Try.prog e40n33 (exThen (ewp Try.prog E Q) Q) s' := fun s' h' => declN_walk h' fun s2 h2 => hQ s2 h2
      generalize e40n33 = F at tail
      have c1 : ¬ (t : Int) = 1 := fun e => hC (Or.inl e)
      have c2 : gb = false := by cases gb with | true => exact absurd (Or.inr (Or.inl rfl)) hC | false => rfl
      have c3 : ¬ 0 ≤ ownM M.toks x.num := fun e => hC (Or.inr (Or.inr e))
      subst c2
      repeat' with_reducible first
        | refine ewp_reg_seq ?_ | refine ewp_seq ?_ | refine ewp_skip ?_ | refine xt_n ?_ | refine ewp_condQ ?_ | refine L_gdQ ?_ | refine gdQ_FF ?_
        | simp -implicitDefEqProofs only [wA, Nat.reduceEqDiff, ↓reduceIte, reduceCtorEq, Nat.reduceAdd, Int.cast_ofNat_Int, Int.reduceLT, Int.reduceLE, Int.reduceEq, Int.reduceToNat, decide_true, decide_false, Bool.false_eq_true, f0, f4, f5, f7, f8, h4, h5, hm, ht, hg]
        | (refine condQ_i (fun h => ?_) (fun h => ?_) <;> have h_ := h <;> (try simp only [wD, reduceCtorEq] at h_) <;> (try (exfalso; first | omega | exact bf h_ (by assumption) | exact bt h_ (by assumption) | (refine absurd ?_ h_; focus assumption) | (refine absurd h_ ?_; focus assumption))) <;> (try simp only [h]))
        | ((first | refine gdQ_iT (fun h => ?_) (fun h => ?_) | refine gdQ_iF (fun h => ?_) (fun h => ?_)) <;> have h_ := h <;> (try simp only [wD, reduceCtorEq] at h_) <;> (try (exfalso; first | omega | exact bf h_ (by assumption) | exact bt h_ (by assumption) | (refine absurd ?_ h_; focus assumption) | (refine absurd h_ ?_; focus assumption))) <;> (try simp only [h]))
        | (apply callQB2 (hp := yuccaref9_maker_owner ?_); (focus (refine (hM.mono (Nat.le_refl _) (fun j hj => ?_)).er; (try simp only [wM]); (repeat rw [if_neg (by omega)]))); (focus exact er_cl); (focus (with_unfolding_all rfl)); (focus exact Flat.int _ _); rotate_left; (focus (first | assumption | omega | (simp only [wZ]; omega) | trivial)))
        | (apply ia_mslQ; (focus omega); (focus (first | assumption | omega | (simp only [wZ]; omega) | trivial)))
        | (apply ldQ_obj; (focus (first | assumption | exact List.getElem?_eq_getElem (by omega) | rfl)); (focus with_unfolding_all rfl))
        | (apply ldQ_cell; (focus with_unfolding_all rfl))
      exact tail _ (hD.upd (hM.mono (by simp only [wN]; omega) (fun j hj => by simp only [wM])) rfl (by simp -implicitDefEqProofs only [wL, Nat.reduceEqDiff, ↓reduceIte, reduceCtorEq]) (by simp -implicitDefEqProofs only [wL, Nat.reduceEqDiff, ↓reduceIte, reduceCtorEq]) (by simp -implicitDefEqProofs only [wL, Nat.reduceEqDiff, ↓reduceIte, reduceCtorEq]) (by simp -implicitDefEqProofs only [wL, Nat.reduceEqDiff, ↓reduceIte, reduceCtorEq]) (by simp -implicitDefEqProofs only [wL, Nat.reduceEqDiff, ↓reduceIte, reduceCtorEq]) (by simp only [wN]; omega) (fun j h1 h2 h3 h4 => by simp only [wM]))
  · have e : declB2 M x t = M := by unfold declB2; rw [if_neg hn]
    rw [e] at hQ
    repeat' with_reducible first
      | refine ewp_reg_seq ?_ | refine ewp_seq ?_ | refine ewp_skip ?_ | refine xt_n ?_ | refine ewp_condQ ?_
      | simp -implicitDefEqProofs only [wA, Nat.reduceEqDiff, ↓reduceIte, reduceCtorEq, Nat.reduceAdd, Int.cast_ofNat_Int, Int.reduceLT, Int.reduceLE, Int.reduceEq, Int.reduceToNat, decide_true, decide_false, Bool.false_eq_true, f0, f4, f5, f7, f8, h4, h5, hm]
      | (refine condQ_i (fun h => ?_) (fun h => ?_) <;> have h_ := h <;> (try simp only [wD, reduceCtorEq] at h_) <;> (try (exfalso; first | omega | exact bf h_ (by assumption) | exact bt h_ (by assumption) | (refine absurd ?_ h_; focus assumption) | (refine absurd h_ ?_; focus assumption))) <;> (try simp only [h]))
      | (apply ldQ_cell; (focus with_unfolding_all rfl))
    exact hQ _ (hD.upd (hM.mono (by simp only [wN]; omega) (fun j hj => by simp only [wM])) rfl (by simp -implicitDefEqProofs only [wL, Nat.reduceEqDiff, ↓reduceIte, reduceCtorEq]) (by simp -implicitDefEqProofs only [wL, Nat.reduceEqDiff, ↓reduceIte, reduceCtorEq]) (by simp -implicitDefEqProofs only [wL, Nat.reduceEqDiff, ↓reduceIte, reduceCtorEq]) (by simp -implicitDefEqProofs only [wL, Nat.reduceEqDiff, ↓reduceIte, reduceCtorEq]) (by simp -implicitDefEqProofs only [wL, Nat.reduceEqDiff, ↓reduceIte, reduceCtorEq]) (by simp only [wN]; omega) (fun j h1 h2 h3 h4 => by simp only [wM]))

theorem declC_walk {s : St} {H : Nat → Option MObj} {next m ti gi t ti1 gi1 : Nat} {vN vP vT vL : V} {d : Decl} {x : Sym} {M : Mk} {Q : Exit → St → Prop} (h : DAt s H next m ti gi vN vP vT vL d x t ti1 gi1 M)
    (hQ : ∀ s', DAt s' H next m ti gi vN vP vT vL d x t ti1 gi1 (declC M d.tag x t) → Q .normal s') : ewp Try.prog e40n45 Q s := by
  have hD := h
  obtain ⟨hM, it, ig, f0, f4, f5, f7, f8, h4, h5, lt, ln, fr⟩ := h
  have hm := hM.hm; have lm := hM.lm; have ht := hM.ht; have hg := hM.hg; have lt1 := hM.lt; have lg := hM.lg
  have hlen := hM.len
  obtain ⟨n1, n2, n3⟩ := hM.mt
  obtain ⟨ff1, ff2, ff3, ff4, ff5, ff6, ff7, ff8⟩ := failM_f M x.at_ x.name
  have hget : M.toks[t]? = some (tokD M t) := by
    unfold tokD; rw [Int.toNat_natCast, List.getElem?_eq_getElem lt]; simp [List.getD, lt]
  generalize hk0 : tokD M t = k at hget
  by_cases hg0 : d.tag = []
  · have e : declC M d.tag x t = M := by unfold declC; rw [if_neg (by simp [hg0])]
    rw [e] at hQ
    repeat' with_reducible first
      | refine ewp_reg_seq ?_ | refine ewp_skip ?_ | refine ewp_condQ ?_
      | simp -implicitDefEqProofs only [wA, Nat.reduceEqDiff, ↓reduceIte, reduceCtorEq, Nat.reduceAdd, Int.cast_ofNat_Int, Int.reduceLT, Int.reduceLE, Int.reduceEq, Int.reduceToNat, decide_true, decide_false, Bool.false_eq_true, f0, f4, f5, f7, f8, h4, h5, hm]
      | (refine condQ_i (fun h => ?_) (fun h => ?_) <;> have h_ := h <;> (try simp only [wD, reduceCtorEq] at h_) <;> (try (exfalso; first | omega | exact bf h_ (by assumption) | exact bt h_ (by assumption) | (refine absurd ?_ h_; focus assumption) | (refine absurd h_ ?_; focus assumption))) <;> (try simp only [h]))
      | (apply ldQ_cell; (focus with_unfolding_all rfl))
    exact hQ _ (hD.upd (hM.mono (by simp only [wN]; omega) (fun j hj => by simp only [wM])) rfl (by simp -implicitDefEqProofs only [wL, Nat.reduceEqDiff, ↓reduceIte, reduceCtorEq]) (by simp -implicitDefEqProofs only [wL, Nat.reduceEqDiff, ↓reduceIte, reduceCtorEq]) (by simp -implicitDefEqProofs only [wL, Nat.reduceEqDiff, ↓reduceIte, reduceCtorEq]) (by simp -implicitDefEqProofs only [wL, Nat.reduceEqDiff, ↓reduceIte, reduceCtorEq]) (by simp -implicitDefEqProofs only [wL, Nat.reduceEqDiff, ↓reduceIte, reduceCtorEq]) (by simp only [wN]; omega) (fun j h1 h2 h3 h4 => by simp only [wM]))
  · by_cases hC : k.tag ≠ [] ∧ k.tag ≠ d.tag
    · have e : declC M d.tag x t = setT (failM M x.at_ x.name) t { k with tag := d.tag } := by unfold declC; simp only [hk0]; rw [if_pos hg0, if_pos hC]
      rw [e] at hQ
      repeat' with_reducible first
        | refine ewp_reg_seq ?_ | refine ewp_seq ?_ | refine ewp_reg ?_ | refine ewp_skip ?_ | refine xt_n ?_ | refine ewp_condQ ?_ | refine condQ_F ?_ | refine L_gdQ ?_ | refine gdQ_TT ?_ | refine gdQ_FT ?_
        | simp -implicitDefEqProofs only [wA, Nat.reduceEqDiff, ↓reduceIte, reduceCtorEq, Nat.reduceAdd, Int.cast_ofNat_Int, Int.reduceLT, Int.reduceLE, Int.reduceEq, Int.reduceToNat, decide_true, decide_false, Bool.false_eq_true, f0, f4, f5, f7, f8, h4, h5, hm, ht]
        | (refine condQ_i (fun h => ?_) (fun h => ?_) <;> have h_ := h <;> (try simp only [wD, reduceCtorEq] at h_) <;> (try (exfalso; first | omega | exact bf h_ (by assumption) | exact bt h_ (by assumption) | (refine absurd ?_ h_; focus assumption) | (refine absurd h_ ?_; focus assumption))) <;> (try simp only [h]))
        | ((first | refine gdQ_iT (fun h => ?_) (fun h => ?_) | refine gdQ_iF (fun h => ?_) (fun h => ?_)) <;> have h_ := h <;> (try simp only [wD, reduceCtorEq] at h_) <;> (try (exfalso; first | omega | exact bf h_ (by assumption) | exact bt h_ (by assumption) | (refine absurd ?_ h_; focus assumption) | (refine absurd h_ ?_; focus assumption))) <;> (try simp only [h]))
        | (apply ldT; (focus assumption); (focus (with_unfolding_all rfl)))
        | (refine callQWc rfl rfl rfl ((failE (hM.mono (by simp only [wN]; omega) (fun j hj => by (try simp only [wM]); (repeat rw [if_neg (by omega)])))).mono ?_); rintro v1 H1 n1 ⟨q1, q2, q3⟩; (try simp only [wN] at q1); (try simp only [wM] at q3))
        | (apply ldQ_cell; (focus with_unfolding_all rfl))
      · simp only [wN] at q3
        have ht1 := q2.ht
        rw [ff1] at ht1
        obtain ⟨a1, a2, a3⟩ := hD.ap4
        have h41 : H1 next = some (.own 4 [d.V] false) := by rw [q3 next (by omega) a1]; exact h4
        repeat' with_reducible first
          | simp -implicitDefEqProofs only [wA, Nat.reduceEqDiff, ↓reduceIte, reduceCtorEq, Nat.reduceAdd, Int.cast_ofNat_Int, Int.reduceLT, Int.reduceLE, Int.reduceEq, Int.reduceToNat, decide_true, decide_false, Bool.false_eq_true, f0, f4, f5, f7, f8, h41, ht1]
          | (apply stT ({ k with tag := d.tag }); (focus (first | assumption | exact List.getElem?_set_self (by first | omega | (simp only [List.length_set]; omega)))); (focus (with_unfolding_all rfl)); (focus (with_unfolding_all rfl)); (focus (with_unfolding_all rfl)); (focus decide); (focus (with_unfolding_all rfl)))
          | (apply ldQ_cell; (focus with_unfolding_all rfl))
        refine hQ _ (hD.upd (q2.setT (by simp only [wN]; omega) ?_ (fun j h1 h2 => ?_)) (by simp [setT, ff1]) (by simp -implicitDefEqProofs only [wL, Nat.reduceEqDiff, ↓reduceIte, reduceCtorEq]) (by simp -implicitDefEqProofs only [wL, Nat.reduceEqDiff, ↓reduceIte, reduceCtorEq]) (by simp -implicitDefEqProofs only [wL, Nat.reduceEqDiff, ↓reduceIte, reduceCtorEq]) (by simp -implicitDefEqProofs only [wL, Nat.reduceEqDiff, ↓reduceIte, reduceCtorEq]) (by simp -implicitDefEqProofs only [wL, Nat.reduceEqDiff, ↓reduceIte, reduceCtorEq]) (by simp only [wN]; omega) (fun j h1 h2 h3 h4 => ?_))
        · simp only [wM]
          repeat first | rw [if_pos trivial] | rw [if_pos rfl] | rw [if_neg (by omega)]
          simp [ff1]
        · simp only [wM]
          repeat first | rw [if_pos trivial] | rw [if_pos rfl] | rw [if_neg (by omega)]
        · simp only [wM]
          repeat first | rw [if_pos trivial] | rw [if_pos rfl] | rw [if_neg (by omega)]
          exact q3 j (by omega) h2
      · exact absurd h_ hC.2
      · exact absurd h_ hC.1
    · have e : declC M d.tag x t = setT M t { k with tag := d.tag } := by unfold declC; simp only [hk0]; rw [if_pos hg0, if_neg hC]
      rw [e] at hQ
      repeat' with_reducible first
        | refine ewp_reg_seq ?_ | refine ewp_seq ?_ | refine ewp_reg ?_ | refine ewp_skip ?_ | refine xt_n ?_ | refine ewp_condQ ?_ | refine condQ_F ?_ | refine L_gdQ ?_ | refine gdQ_TT ?_ | refine gdQ_FT ?_
        | simp -implicitDefEqProofs only [wA, Nat.reduceEqDiff, ↓reduceIte, reduceCtorEq, Nat.reduceAdd, Int.cast_ofNat_Int, Int.reduceLT, Int.reduceLE, Int.reduceEq, Int.reduceToNat, decide_true, decide_false, Bool.false_eq_true, f0, f4, f5, f7, f8, h4, h5, hm, ht]
        | (refine condQ_i (fun h => ?_) (fun h => ?_) <;> have h_ := h <;> (try simp only [wD, reduceCtorEq] at h_) <;> (try (exfalso; first | omega | exact bf h_ (by assumption) | exact bt h_ (by assumption) | (refine absurd ?_ h_; focus assumption) | (refine absurd h_ ?_; focus assumption))) <;> (try simp only [h]))
        | ((first | refine gdQ_iT (fun h => ?_) (fun h => ?_) | refine gdQ_iF (fun h => ?_) (fun h => ?_)) <;> have h_ := h <;> (try simp only [wD, reduceCtorEq] at h_) <;> (try (exfalso; first | omega | exact bf h_ (by assumption) | exact bt h_ (by assumption) | (refine absurd ?_ h_; focus assumption) | (refine absurd h_ ?_; focus assumption))) <;> (try simp only [h]))
        | (apply ldT; (focus assumption); (focus (with_unfolding_all rfl)))
        | (apply stT ({ k with tag := d.tag }); (focus (first | assumption | exact List.getElem?_set_self (by first | omega | (simp only [List.length_set]; omega)))); (focus (with_unfolding_all rfl)); (focus (with_unfolding_all rfl)); (focus (with_unfolding_all rfl)); (focus decide); (focus (with_unfolding_all rfl)))
        | (apply ldQ_cell; (focus with_unfolding_all rfl))
      all_goals first
        | exact absurd ⟨by assumption, by assumption⟩ hC
        | (refine hQ _ (hD.upd (hM.setT (by simp only [wN]; omega) (by simp only [wM]; repeat (first | rw [if_pos trivial] | rw [if_pos rfl] | rw [if_neg (by omega)])) (fun j h1 h2 => (by simp only [wM]; repeat (first | rw [if_pos trivial] | rw [if_pos rfl] | rw [if_neg (by omega)])))) (by simp [setT]) (by simp -implicitDefEqProofs only [wL, Nat.reduceEqDiff, ↓reduceIte, reduceCtorEq]) (by simp -implicitDefEqProofs only [wL, Nat.reduceEqDiff, ↓reduceIte, reduceCtorEq]) (by simp -implicitDefEqProofs only [wL, Nat.reduceEqDiff, ↓reduceIte, reduceCtorEq]) (by simp -implicitDefEqProofs only [wL, Nat.reduceEqDiff, ↓reduceIte, reduceCtorEq]) (by simp -implicitDefEqProofs only [wL, Nat.reduceEqDiff, ↓reduceIte, reduceCtorEq]) (by simp only [wN]; omega) (fun j h1 h2 h3 h4 => (by simp only [wM]; repeat (first | rw [if_pos trivial] | rw [if_pos rfl] | rw [if_neg (by omega)])))))
end Go.Proofs
