/- Part of a proof that a law of the given program answers true. -/
import Derived.Test.YtpnfbnlhjdnnpaaWCA
import Derived.Test.YtpnfbnlhjdnnpaaWEC
set_option linter.unusedSimpArgs false
set_option linter.unusedVariables false
namespace Go.Proofs
open Go.E
structure Sym where
 name : List UInt8 := []
 lit : Bool := false
 num : Int := 0
 at_ : Int := 0
 deriving DecidableEq, Inhabited
structure Part where
 sym : Sym := {}
 code : List UInt8 := []
 at_ : Int := 0
 deriving DecidableEq, Inhabited
structure Alt where
 parts : List Part := []
 prec : Sym := {}
 at_ : Int := 0
 deriving DecidableEq, Inhabited
structure Rule where
 left : List UInt8 := []
 alts : List Alt := []
 at_ : Int := 0
 deriving DecidableEq, Inhabited
structure Decl where
 kind : Int := 0
 tag : List UInt8 := []
 syms : List Sym := []
 at_ : Int := 0
 deriving DecidableEq, Inhabited
structure Source where
 pro : List UInt8 := []
 decls : List Decl := []
 rules : List Rule := []
 tail : List UInt8 := []
 deriving DecidableEq, Inhabited
@[reducible] def Sym.V (x : Sym) : V := .agg [.str x.name, .bool x.lit, vi x.num, vi x.at_]
@[reducible] def Part.V (x : Part) : V := .agg [.str x.sym.name, .bool x.sym.lit, vi x.sym.num, vi x.sym.at_, .str x.code, vi x.at_]
@[reducible] def Alt.V (x : Alt) : V := .agg [.sl 6 false (x.parts.map Part.V), .str x.prec.name, .bool x.prec.lit, vi x.prec.num, vi x.prec.at_, vi x.at_]
@[reducible] def Rule.V (x : Rule) : V := .agg [.str x.left, .sl 6 false (x.alts.map Alt.V), vi x.at_]
@[reducible] def Decl.V (x : Decl) : V := .agg [vi x.kind, .str x.tag, .sl 4 false (x.syms.map Sym.V), vi x.at_]
@[reducible] def Source.V (x : Source) : V := .agg [.str x.pro, .sl 4 false (x.decls.map Decl.V), .sl 3 false (x.rules.map Rule.V), .str x.tail]
theorem within_arith {i n : Int} (hn : 0 < n) (h : n ≤ 4611686018427387904) : (if i.tmod n < 0 then IntKind.i64.wrap (i.tmod n + n) else i.tmod n) = i % n := by
 have h1 := Int.tmod_lt_of_pos i hn
 have h2 : - n < i.tmod n := by
  have := Int.tmod_lt_of_pos (-i) hn
  rw [Int.neg_tmod] at this; omega
 have e : i.tmod n = i % n ∨ i.tmod n + n = i % n := by
  rw [Int.tmod_eq_emod]
  have := Int.emod_lt_of_pos i hn
  have := Int.emod_nonneg i (show n ≠ 0 by omega)
  split
  · left; omega
  · right; omega
 have h3 := Int.emod_nonneg i (show n ≠ 0 by omega)
 have h4 := Int.emod_lt_of_pos i hn
 split
 · rw [wrap64 (by omega) (by omega)]; omega
 · omega
theorem yuccaref0_Within {i n : Int} (hn : 0 < n) (hm : n ≤ 4611686018427387904) : Pure Try.prog 15 [vi i, vi n] (vi (i % n)) := by
 refine pure_intro Try.func15 e15_nm e15_ok (by show 2 ≤ 15; decide) ?_
 show ewp _ e15n10 _ _
 have e := within_arith (i := i) hn hm
 by_cases h : i.tmod n < 0
 · rw [if_pos h] at e
   have hne : ¬ (n = 0) := by omega
   repeat' with_reducible first
    | refine s_ ?_
    | simp -implicitDefEqProofs only [wZZ, seval, hne, e]
    | (refine condQ_j (fun h h_ => ?_) (fun h h_ => ?_) <;> (try simp only [wD, reduceCtorEq] at h_) <;> (try exact wb_) <;> (try simp only [h]))
   refine post1 rfl (Or.inr rfl) ?_
   simp -implicitDefEqProofs only [wL, seval]
   first | refine er_bool ?_ | refine er_int ?_ | refine er_str ?_ | refine er_sl_eq ?_ | refine er_asl_eq ?_
   try (with_reducible rfl)
 · rw [if_neg h] at e
   have hne : ¬ (n = 0) := by omega
   repeat' with_reducible first
    | refine s_ ?_
    | simp -implicitDefEqProofs only [wZZ, seval, hne, e]
    | (refine condQ_j (fun h h_ => ?_) (fun h h_ => ?_) <;> (try simp only [wD, reduceCtorEq] at h_) <;> (try exact wb_) <;> (try simp only [h]))
   refine post1 rfl (Or.inr rfl) ?_
   simp -implicitDefEqProofs only [wL, seval]
   first | refine er_bool ?_ | refine er_int ?_ | refine er_str ?_ | refine er_sl_eq ?_ | refine er_asl_eq ?_
   try (with_reducible rfl)

@[reducible] def textN (s : List UInt8) (n : Int) : List UInt8 := s.take n.toNat
theorem yuccalaw0_Text {s : List UInt8} {n : Int} (hs : s.length ≤ 1099511627776) (hn : 0 ≤ n) : Pure Try.prog 22 [.str s, vi n] (.str (textN s n)) := by
 refine pure_intro Try.func22 e22_nm e22_ok (by show 2 ≤ 13; decide) ?_
 show ewp _ e22n9 _ _
 by_cases h : n < s.length
 · repeat' with_reducible first
    | refine s_ ?_
    | simp -implicitDefEqProofs only [wZZ, seval]
    | (refine condQ_j (fun h h_ => ?_) (fun h h_ => ?_) <;> (try simp only [wD, reduceCtorEq] at h_) <;> (try exact wb_) <;> (try simp only [h]))
    | (apply sls_hi; (focus omega); (focus omega))
   refine post1 rfl (Or.inr rfl) ?_
   simp -implicitDefEqProofs only [wL, seval]
   first | refine er_bool ?_ | refine er_int ?_ | refine er_str ?_ | refine er_sl_eq ?_ | refine er_asl_eq ?_
   try (with_reducible rfl)
 · have e : textN s n = s := List.take_of_length_le (by omega)
   rw [e]
   repeat' with_reducible first
    | refine s_ ?_
    | simp -implicitDefEqProofs only [wZZ, seval]
    | (refine condQ_j (fun h h_ => ?_) (fun h h_ => ?_) <;> (try simp only [wD, reduceCtorEq] at h_) <;> (try exact wb_) <;> (try simp only [h]))
   refine post1 rfl (Or.inr rfl) ?_
   simp -implicitDefEqProofs only [wL, seval]
   first | refine er_bool ?_ | refine er_int ?_ | refine er_str ?_ | refine er_sl_eq ?_ | refine er_asl_eq ?_
   try (with_reducible rfl)
@[reducible] def cutSymS (x : Sym) : Sym := ⟨textN x.name 25, x.lit, x.num, x.at_⟩
theorem yuccalaw0_cutSym {x : Sym} (hs : x.name.length ≤ 1099511627776) : Pure Try.prog 23 [x.V] ((cutSymS x).V) := by
 refine pure_intro Try.func23 e23_nm e23_ok (by show 1 ≤ 13; decide) ?_
 show ewp _ e23n3 _ _
 repeat' with_reducible first
  | refine s_ ?_
  | simp -implicitDefEqProofs only [wZZ, seval]
  | (apply bld_nil)
  | (apply bld_part; (exact wu_); (exact wu_); (exact wu_); (focus ((try simp -implicitDefEqProofs only [wE, Nat.reduceAdd]); rfl)))
  | (apply ldQ_cell; (exact wu_))
  | (apply stQ_whole; (exact wu_); (exact wu_))
  | (apply boxQ_i; (exact wu_); (exact wu_))
  | (apply callQ2 (hp := yuccalaw0_Text ?_ ?_); (exact we_); (exact we_); rotate_left; (exact wf_); (exact wf_))
 apply postM (t := 2) rfl (Or.inr rfl); (focus (first | rfl | ((try simp -implicitDefEqProofs only [wL, wM, wN, seval]); rfl))); (focus (first | rfl | ((try simp -implicitDefEqProofs only [wL, wM, wN, seval]); rfl))); (exact wu_); (try exact er_cl)
def letterB (c : UInt8) : Bool := (decide (97 ≤ c.toNat) && decide (c.toNat ≤ 122)) || (decide (65 ≤ c.toNat) && decide (c.toNat ≤ 90)) || decide (c.toNat = 95)
def digitB (c : UInt8) : Bool := decide (48 ≤ c.toNat) && decide (c.toNat ≤ 57)
theorem yuccaref1_letter {c : UInt8}  : Pure Try.prog 59 [.int .u8 c.toNat] (.bool (letterB c)) := by
 refine pure_intro Try.func59 e59_nm e59_ok (by show 1 ≤ 21; decide) ?_
 show ewp _ e59n3 _ _
 repeat' with_reducible first
  | refine s_ ?_
  | simp -implicitDefEqProofs only [wZZ, seval]
  | ((first | refine gdQ_iT (fun h => ?_) (fun h => ?_) | refine gdQ_iF (fun h => ?_) (fun h => ?_)) <;> have h_ := h <;> (try simp only [wD, reduceCtorEq] at h_) <;> (try exact wb_) <;> (try simp only [h]))
 all_goals refine post1 rfl (Or.inr rfl) ?_
 all_goals (try simp -implicitDefEqProofs only [wL, seval])
 all_goals (first | refine er_bool ?_ | refine er_int ?_ | refine er_str ?_ | refine er_sl_eq ?_ | refine er_asl_eq ?_)
 all_goals (try (with_reducible rfl))
 all_goals (rw [Bool.eq_iff_iff]; simp [letterB]; omega)
theorem yuccaref1_digit {c : UInt8}  : Pure Try.prog 60 [.int .u8 c.toNat] (.bool (digitB c)) := by
 refine pure_intro Try.func60 e60_nm e60_ok (by show 1 ≤ 9; decide) ?_
 show ewp _ e60n3 _ _
 repeat' with_reducible first
  | refine s_ ?_
  | simp -implicitDefEqProofs only [wZZ, seval]
  | ((first | refine gdQ_iT (fun h => ?_) (fun h => ?_) | refine gdQ_iF (fun h => ?_) (fun h => ?_)) <;> have h_ := h <;> (try simp only [wD, reduceCtorEq] at h_) <;> (try exact wb_) <;> (try simp only [h]))
 all_goals refine post1 rfl (Or.inr rfl) ?_
 all_goals (try simp -implicitDefEqProofs only [wL, seval])
 all_goals (first | refine er_bool ?_ | refine er_int ?_ | refine er_str ?_ | refine er_sl_eq ?_ | refine er_asl_eq ?_)
 all_goals (try (with_reducible rfl))
 all_goals (rw [Bool.eq_iff_iff]; simp [digitB]; omega)
def lettersS : List UInt8 := [112, 113, 114, 115]
def beginsS (s : List UInt8) (at_ : Int) (w : List UInt8) : Bool := decide (at_ + w.length ≤ s.length) && decide ((s.take (at_ + w.length).toNat).drop at_.toNat = w)
theorem yuccaref1_begins {s w : List UInt8} {at_ : Int} (hs : s.length ≤ 1099511627776) (hw : w.length ≤ 1099511627776) (ha : 0 ≤ at_) (hb : at_ ≤ 1099511627776) : Pure Try.prog 62 [.str s, vi at_, .str w] (.bool (beginsS s at_ w)) := by
 refine pure_intro Try.func62 e62_nm e62_ok (by show 3 ≤ 25; decide) ?_
 show ewp _ e62n3 _ _
 have h1 : IntKind.i64.wrap ((s.length : Int) - at_) = (s.length : Int) - at_ := wrap64 (by omega) (by omega)
 repeat' with_reducible first
  | refine s_ ?_
  | simp -implicitDefEqProofs only [wZZ, seval, h1]
  | ((first | refine gdQ_iT (fun h => ?_) (fun h => ?_) | refine gdQ_iF (fun h => ?_) (fun h => ?_)) <;> have h_ := h <;> (try simp only [wD, reduceCtorEq] at h_) <;> (try exact wb_) <;> (try simp only [h]))
  | (apply sls_lohi; (focus omega); (focus omega); (focus omega))
  | simp -implicitDefEqProofs (disch := omega) only [w64, if_neg]
 all_goals refine post1 rfl (Or.inr rfl) ?_
 all_goals (try simp -implicitDefEqProofs only [wL, seval])
 all_goals (first | refine er_bool ?_ | refine er_int ?_ | refine er_str ?_ | refine er_sl_eq ?_ | refine er_asl_eq ?_)
 all_goals (try (with_reducible rfl))
 · unfold beginsS
   have e : decide (at_ + (w.length : Int) ≤ (s.length : Int)) = true := by rw [decide_eq_true_eq]; omega
   rw [e]; rfl
 · unfold beginsS
   have e : decide (at_ + (w.length : Int) ≤ (s.length : Int)) = false := by rw [decide_eq_false_iff_not]; omega
   rw [e]; rfl
def quotedS (c : UInt8) : Bool := decide (c.toNat = 10) || decide (c.toNat = 9) || decide (c.toNat = 13) || decide (c.toNat = 92) || decide (c.toNat = 39) || (decide (32 ≤ c.toNat) && decide (c.toNat ≤ 126))
def quoteS (c : UInt8) : UInt8 := if c.toNat = 10 then 110 else if c.toNat = 9 then 116 else if c.toNat = 13 then 114 else if c.toNat = 92 then c else if c.toNat = 39 then c else 0
theorem yuccaref1_Quoted {c : UInt8}  : Pure Try.prog 58 [.int .u8 c.toNat] (.tup [.int .u8 (quoteS c).toNat, .bool (quotedS c)]) := by
 refine pure_intro Try.func58 e58_nm e58_ok (by show 1 ≤ 21; decide) ?_
 show ewp _ e58n30 _ _
 repeat' with_reducible first
  | refine s_ ?_
  | simp -implicitDefEqProofs only [wZZ, seval]
  | (refine condQ_j (fun h h_ => ?_) (fun h h_ => ?_) <;> (try simp only [wD, reduceCtorEq] at h_) <;> (try exact wb_) <;> (try simp only [h]))
  | ((first | refine gdQ_iT (fun h => ?_) (fun h => ?_) | refine gdQ_iF (fun h => ?_) (fun h => ?_)) <;> have h_ := h <;> (try simp only [wD, reduceCtorEq] at h_) <;> (try exact wb_) <;> (try simp only [h]))
 all_goals refine post2 rfl (Or.inr rfl) ?_
 all_goals (try simp -implicitDefEqProofs only [wL, seval])
 all_goals (refine er_tup2 ?_ ?_ <;> (first | refine er_bool ?_ | refine er_int ?_ | refine er_str ?_ | refine er_sl_eq ?_ | refine er_asl_eq ?_) <;> (try (with_reducible rfl)))
 all_goals first
  | (unfold quoteS; (repeat' split) <;> first | (exfalso; omega) | rfl)
  | (rw [Bool.eq_iff_iff]; simp [quotedS]; omega)
@[reducible] def nonS (k : Int) : List UInt8 := [UInt8.ofNat (97 + k).toNat]
@[reducible] def litS (k : Int) : Sym := { name := (lettersS.take (k % 4 + 1).toNat).drop (k % 4).toNat, lit := true }

def nameGo : List UInt8 → Bool → Nat
 | [], _ => 0
 | c :: r, more => if letterB c || (more && (digitB c || decide (c.toNat = 46))) then nameGo r true + 1 else 0
theorem nameGo_cons (c : UInt8) (r : List UInt8) (more : Bool) : nameGo (c :: r) more = if letterB c || (more && (digitB c || decide (c.toNat = 46))) then nameGo r true + 1 else 0 := rfl
theorem yuccaref1_NameAt {tx : List UInt8} (hs : tx.length ≤ 1099511627776) : Pure Try.prog 55 [.str tx, vi 0] (vi (nameGo tx false)) := by
 refine pure_intro Try.func55 e55_nm e55_ok (by show 2 ≤ 43; decide) ?_
 show ewp _ e55n14 _ _
 repeat' with_reducible first
  | refine s_ ?_
  | simp -implicitDefEqProofs only [wZZ, seval]
 refine ewp_loopN ?nx1 (fun (n : Nat) s => s.f 0 = ?v1_0 ∧ s.f 1 = ?v1_1 ∧ s.f 5 = vi n ∧ (n ≤ tx.length) ∧ (nameGo tx false = n + nameGo (tx.drop n) (decide (0 < n)))) (fun n => tx.length - n) (0) wj_ (by refine ⟨?_, ?_, ?_, (by first | omega | (simp; done) | assumption), (by first | omega | (simp; done) | assumption)⟩ <;> first | (simp -implicitDefEqProofs only [wL, wM, wN, wX, seval, Option.some.injEq] <;> exact wt_) | rfl | exact ⟨_, rfl⟩) ?_
 intro n s hnx ⟨g0, g1, g5, k1_0, k1_1⟩
 have hz : IntKind.i64.wrap (0 + (n : Int)) = n := by rw [Int.zero_add]; exact wrap64 (by omega) (by omega)
 by_cases hn : n < tx.length
 · have hd : tx.drop n = tx[n] :: tx.drop (n + 1) := List.drop_eq_getElem_cons hn
   rw [hd, nameGo_cons] at k1_1
   have h0 : decide (0 < n + 1) = true := by simp
   repeat' with_reducible first
    | refine s_ ?_
    | simp -implicitDefEqProofs only [wZZ, seval, g0, g1, g5, hz]
    | (refine condQ_j (fun h h_ => ?_) (fun h h_ => ?_) <;> (try simp only [wD, reduceCtorEq] at h_) <;> (try exact wb_) <;> (try simp only [h]))
    | ((first | refine gdQ_iT (fun h => ?_) (fun h => ?_) | refine gdQ_iF (fun h => ?_) (fun h => ?_)) <;> have h_ := h <;> (try simp only [wD, reduceCtorEq] at h_) <;> (try exact wb_) <;> (try simp only [h]))
    | (apply ixs_1; (focus omega); (exact wd_))
    | (apply callQ1 (hp := yuccaref1_letter); (exact we_))
    | (apply callQ1 (hp := yuccaref1_digit); (exact we_))
    | simp -implicitDefEqProofs (disch := omega) only [w64, if_neg]
   · refine ⟨wk_, n + 1, (by omega), ?_⟩
     refine ⟨?_, ?_, ?_, ?_, ?_⟩
     iterate 3 (focus (first | (simp -implicitDefEqProofs only [wL, wM, wN, wX, seval, Option.some.injEq, g0, g1, g5] <;> exact wt_) | rfl | exact ⟨_, rfl⟩))
     all_goals try omega
     rw [k1_1, h0, if_pos (by rw [Bool.or_eq_true, Bool.and_eq_true, Bool.or_eq_true, decide_eq_true_eq, decide_eq_true_eq]; first | exact Or.inl (by assumption) | exact Or.inr ⟨by omega, Or.inl (by assumption)⟩ | exact Or.inr ⟨by omega, Or.inr (by omega)⟩)]; omega
   · refine post1 rfl (Or.inr rfl) ?_
     simp -implicitDefEqProofs only [wL, seval, g0, g1, g5]
     first | refine er_bool ?_ | refine er_int ?_ | refine er_str ?_ | refine er_sl_eq ?_ | refine er_asl_eq ?_
     try (with_reducible rfl)
     rw [k1_1, if_neg (by rw [Bool.or_eq_true, Bool.and_eq_true, Bool.or_eq_true, decide_eq_true_eq, decide_eq_true_eq]; rintro (h | ⟨h, h | h⟩) <;> first | omega | simp_all)]; rfl
   · refine ⟨wk_, n + 1, (by omega), ?_⟩
     refine ⟨?_, ?_, ?_, ?_, ?_⟩
     iterate 3 (focus (first | (simp -implicitDefEqProofs only [wL, wM, wN, wX, seval, Option.some.injEq, g0, g1, g5] <;> exact wt_) | rfl | exact ⟨_, rfl⟩))
     all_goals try omega
     rw [k1_1, h0, if_pos (by rw [Bool.or_eq_true, Bool.and_eq_true, Bool.or_eq_true, decide_eq_true_eq, decide_eq_true_eq]; first | exact Or.inl (by assumption) | exact Or.inr ⟨by omega, Or.inl (by assumption)⟩ | exact Or.inr ⟨by omega, Or.inr (by omega)⟩)]; omega
   · refine post1 rfl (Or.inr rfl) ?_
     simp -implicitDefEqProofs only [wL, seval, g0, g1, g5]
     first | refine er_bool ?_ | refine er_int ?_ | refine er_str ?_ | refine er_sl_eq ?_ | refine er_asl_eq ?_
     try (with_reducible rfl)
     rw [k1_1, if_neg (by rw [Bool.or_eq_true, Bool.and_eq_true, Bool.or_eq_true, decide_eq_true_eq, decide_eq_true_eq]; rintro (h | ⟨h, h | h⟩) <;> first | omega | simp_all)]; rfl
   · refine ⟨wk_, n + 1, (by omega), ?_⟩
     refine ⟨?_, ?_, ?_, ?_, ?_⟩
     iterate 3 (focus (first | (simp -implicitDefEqProofs only [wL, wM, wN, wX, seval, Option.some.injEq, g0, g1, g5] <;> exact wt_) | rfl | exact ⟨_, rfl⟩))
     all_goals try omega
     rw [k1_1, h0, if_pos (by rw [Bool.or_eq_true, Bool.and_eq_true, Bool.or_eq_true, decide_eq_true_eq, decide_eq_true_eq]; first | exact Or.inl (by assumption) | exact Or.inr ⟨by omega, Or.inl (by assumption)⟩ | exact Or.inr ⟨by omega, Or.inr (by omega)⟩)]; omega
 · repeat' with_reducible first
    | refine s_ ?_
    | simp -implicitDefEqProofs only [wZZ, seval, g0, g1, g5, hz]
    | ((first | refine gdQ_iT (fun h => ?_) (fun h => ?_) | refine gdQ_iF (fun h => ?_) (fun h => ?_)) <;> have h_ := h <;> (try simp only [wD, reduceCtorEq] at h_) <;> (try exact wb_) <;> (try simp only [h]))
   refine post1 rfl (Or.inr rfl) ?_
   simp -implicitDefEqProofs only [wL, seval, g0, g1, g5]
   first | refine er_bool ?_ | refine er_int ?_ | refine er_str ?_ | refine er_sl_eq ?_ | refine er_asl_eq ?_
   try (with_reducible rfl)
   rw [List.drop_eq_nil_of_le (by omega)] at k1_1
   rw [k1_1]; simp [nameGo]
def nameS (tx : List UInt8) : Bool := decide (1 ≤ tx.length) && decide (tx.length ≤ 20) && decide (nameGo tx false = tx.length)
theorem yuccaref1_Name {tx : List UInt8} (hs : tx.length ≤ 1099511627776) : Pure Try.prog 49 [.str tx] (.bool (nameS tx)) := by
 refine pure_intro Try.func49 e49_nm e49_ok (by show 1 ≤ 18; decide) ?_
 show ewp _ e49n3 _ _
 repeat' with_reducible first
  | refine s_ ?_
  | simp -implicitDefEqProofs only [wZZ, seval]
  | ((first | refine gdQ_iT (fun h => ?_) (fun h => ?_) | refine gdQ_iF (fun h => ?_) (fun h => ?_)) <;> have h_ := h <;> (try simp only [wD, reduceCtorEq] at h_) <;> (try exact wb_) <;> (try simp only [h]))
  | (apply callQ2 (hp := yuccaref1_NameAt ?_); (exact we_); (exact we_); rotate_left; (exact wf_))
 all_goals refine post1 rfl (Or.inr rfl) ?_
 all_goals (try simp -implicitDefEqProofs only [wL, seval])
 all_goals (first | refine er_bool ?_ | refine er_int ?_ | refine er_str ?_ | refine er_sl_eq ?_ | refine er_asl_eq ?_)
 all_goals (try (with_reducible rfl))
 all_goals (rw [Bool.eq_iff_iff]; simp [nameS]; omega)
@[reducible] def Sym.none (x : Sym) : Bool := decide (x.name = []) && !x.lit && decide (x.num = 0)
theorem yuccaref7_none {x : Sym}  : Pure Try.prog 56 [x.V] (.bool x.none) := by
 refine pure_intro Try.func56 e56_nm e56_ok (by show 1 ≤ 16; decide) ?_
 show ewp _ e56n3 _ _
 obtain ⟨nm, lt, nu, at_⟩ := x
 repeat' with_reducible first
  | refine s_ ?_
  | simp -implicitDefEqProofs only [wZZ, seval]
  | ((first | refine gdQ_iT (fun h => ?_) (fun h => ?_) | refine gdQ_iF (fun h => ?_) (fun h => ?_)) <;> have h_ := h <;> (try simp only [wD, reduceCtorEq] at h_) <;> (try exact wb_) <;> (try simp only [h]))
  | (apply ldQ_cell; (exact wu_))
  | (apply boxQ_i; (exact wu_); (exact wu_))
 all_goals refine post1 rfl (Or.inr rfl) ?_
 all_goals (try simp -implicitDefEqProofs only [wL, seval])
 all_goals (first | refine er_bool ?_ | refine er_int ?_ | refine er_str ?_ | refine er_sl_eq ?_ | refine er_asl_eq ?_)
 all_goals (try (with_reducible rfl))
 all_goals (simp_all [Sym.none])

def symB (x : Sym) (num lit : Bool) : Bool := if x.lit then lit && decide (x.name.length = 1) && quotedS (x.name.headD 0) && decide (x.num = 0) else nameS x.name && (decide (x.num = 0) || (num && decide (1 ≤ x.num) && decide (x.num ≤ 50000)))
theorem yuccaref7_symbol {x : Sym} {num lit : Bool} (hs : x.name.length ≤ 1099511627776) : Pure Try.prog 54 [x.V, .bool num, .bool lit] (.bool (symB x num lit)) := by
 refine pure_intro Try.func54 e54_nm e54_ok (by show 3 ≤ 53; decide) ?_
 show ewp _ e54n17 _ _
 obtain ⟨nm, lt, nu, at_⟩ := x
 repeat' with_reducible first
  | refine s_ ?_
  | simp -implicitDefEqProofs only [wZZ, seval]
  | (refine condQ_j (fun h h_ => ?_) (fun h h_ => ?_) <;> (try simp only [wD, reduceCtorEq] at h_) <;> (try exact wb_) <;> (try simp only [h]))
  | ((first | refine gdQ_iT (fun h => ?_) (fun h => ?_) | refine gdQ_iF (fun h => ?_) (fun h => ?_)) <;> have h_ := h <;> (try simp only [wD, reduceCtorEq] at h_) <;> (try exact wb_) <;> (try simp only [h]))
  | (apply ixs_1; (focus omega); (exact wd_))
  | (apply ldQ_cell; (exact wu_))
  | (apply boxQ_i; (exact wu_); (exact wu_))
  | (apply callQ1 (hp := yuccaref1_Quoted); (exact we_))
  | (apply callQ1 (hp := yuccaref1_Name ?_); (exact we_); rotate_left; (exact wf_))
 all_goals refine post1 rfl (Or.inr rfl) ?_
 all_goals (try simp -implicitDefEqProofs only [wL, seval])
 all_goals (first | refine er_bool ?_ | refine er_int ?_ | refine er_str ?_ | refine er_sl_eq ?_ | refine er_asl_eq ?_)
 all_goals (try (with_reducible rfl))
 all_goals first
  | (simp_all [symB]; done)
  | (simp_all [symB]; omega)
  | (obtain ⟨c, hc⟩ : ∃ c, nm = [c] := List.length_eq_one_iff.1 (by omega)
     subst hc
     simp_all [symB])

def Sym.Fits (x : Sym) : Prop := x.name.length ≤ 1099511627776
def badB (d : Decl) : Bool := decide (d.kind < 1) || decide (6 < d.kind) || decide ((d.syms.length : Int) = 0) || (decide (d.kind = 6) && (!decide ((d.syms.length : Int) = 1) || !decide (d.tag = []))) || (decide (d.kind = 5) && decide (d.tag = [])) || (!decide (d.tag = []) && !nameS d.tag)
def declB (d : Decl) : Bool := !badB d && d.syms.all fun x => symB x (decide (d.kind = 1)) (decide (d.kind < 5))
theorem yuccaref7_mayDecl {d : Decl} (ht : d.tag.length ≤ 1099511627776) (hl : d.syms.length ≤ 1099511627776) (hs : ∀ x ∈ d.syms, x.name.length ≤ 1099511627776) : Pure Try.prog 48 [d.V] (.bool (declB d)) := by
 refine pure_intro Try.func48 e48_nm e48_ok (by show 1 ≤ 75; decide) ?_
 show ewp _ e48n26 _ _
 obtain ⟨kd, tg, sy, at_⟩ := d
 dsimp only at ht hl hs
 refine ewp_seq_mid (fun s => s.f 1 = .ptr 0 0 0 ∧ s.H 0 = some (.own 4 [Decl.V ⟨kd, tg, sy, at_⟩] false) ∧ 1 ≤ s.next) ?_ ?_
 · repeat' with_reducible first
    | refine s_ ?_
    | simp -implicitDefEqProofs only [wZZ, seval]
    | (apply boxQ_i; (exact wu_); (exact wu_))
   all_goals (refine ⟨?_, ?_, ?_⟩)
   all_goals ((try simp -implicitDefEqProofs only [wL, wM, wN, seval]); try (first | rfl | omega))
 intro s ⟨g1, o0, hnx⟩
 refine ewp_assoc ?_
 refine ewp_seq_mid (fun s => s.f 1 = .ptr 0 0 0 ∧ s.f 54 = .bool (badB ⟨kd, tg, sy, at_⟩) ∧ s.H 0 = some (.own 4 [Decl.V ⟨kd, tg, sy, at_⟩] false) ∧ 1 ≤ s.next) ?_ ?_
 · repeat' with_reducible first
    | refine s_ ?_
    | simp -implicitDefEqProofs only [wZZ, seval, g1, o0]
    | ((first | refine gdQ_iT (fun h => ?_) (fun h => ?_) | refine gdQ_iF (fun h => ?_) (fun h => ?_)) <;> have h_ := h <;> (try simp only [wD, reduceCtorEq] at h_) <;> (try exact wb_) <;> (try simp only [h]))
    | (apply ldQ_cell; (exact wu_))
    | (apply callQ1 (hp := yuccaref1_Name ?_); (exact we_); rotate_left; (exact wf_))
   all_goals (refine ⟨?_, ?_, ?_, ?_⟩)
   all_goals ((try simp -implicitDefEqProofs only [wL, wM, wN, seval, g1, o0]); try (first | rfl | omega))
   all_goals (refine congrArg V.bool ?_; simp only [badB, *]; rfl)
 intro s ⟨g1, g54, o0, hnx⟩
 by_cases hb : badB ⟨kd, tg, sy, at_⟩ = true
 · have e : declB ⟨kd, tg, sy, at_⟩ = false := by unfold declB; rw [hb]; rfl
   rw [e]
   repeat' with_reducible first
    | refine s_ ?_
    | simp -implicitDefEqProofs only [wZZ, seval, g1, g54, o0, hb]
   refine post1 rfl (Or.inr rfl) ?_
   simp -implicitDefEqProofs only [wL, seval, g1, g54]
   first | refine er_bool ?_ | refine er_int ?_ | refine er_str ?_ | refine er_sl_eq ?_ | refine er_asl_eq ?_
   try (with_reducible rfl)
 · have hb2 : badB ⟨kd, tg, sy, at_⟩ = false := by simpa using hb
   have e : declB ⟨kd, tg, sy, at_⟩ = sy.all fun x => symB x (decide (kd = 1)) (decide (kd < 5)) := by unfold declB; rw [hb2]; rfl
   rw [e]
   repeat' with_reducible first
    | refine s_ ?_
    | simp -implicitDefEqProofs only [wZZ, seval, g1, g54, o0, hb2]
   refine ewp_loopN ?nx1 (fun (k : Nat) s => s.f 1 = ?v1_1 ∧ s.H 0 = ?o1_0 ∧ s.f 3 = vi k ∧ (k ≤ sy.length) ∧ (∀ x ∈ sy.take k, symB x (decide (kd = 1)) (decide (kd < 5)) = true)) (fun k => sy.length - k) (0) wj_ (by refine ⟨?_, ?_, ?_, (by first | omega | (simp; done) | assumption), (by first | omega | (simp; done) | assumption)⟩ <;> first | (simp -implicitDefEqProofs only [wL, wM, wN, wX, seval, Option.some.injEq, g1, g54, o0] <;> exact wt_) | rfl | exact ⟨_, rfl⟩) ?_
   intro k s hnx ⟨g1, o0, g3, k1_0, k1_1⟩
   by_cases hk : k < sy.length
   · have hx := hs sy[k] (List.getElem_mem hk)
     have ht2 : sy.take (k + 1) = sy.take k ++ [sy[k]] := by rw [List.take_add_one, List.getElem?_eq_getElem hk]; rfl
     repeat' with_reducible first
      | refine s_ ?_
      | simp -implicitDefEqProofs only [wZZ, seval, g1, g3, o0]
      | (refine condQ_j (fun h h_ => ?_) (fun h h_ => ?_) <;> (try simp only [wD, reduceCtorEq] at h_) <;> (try exact wb_) <;> (try simp only [h]))
      | (apply ia_slQ; (focus omega); (exact wd_))
      | (apply ldQ_cell; (exact wu_))
      | (apply callQ3 (hp := yuccaref7_symbol ?_); (exact we_); (exact we_); (exact we_); rotate_left; (exact wf_))
      | simp -implicitDefEqProofs (disch := omega) only [w64, if_neg]
     · refine post1 rfl (Or.inr rfl) ?_
       simp -implicitDefEqProofs only [wL, seval, g1, g3]
       first | refine er_bool ?_ | refine er_int ?_ | refine er_str ?_ | refine er_sl_eq ?_ | refine er_asl_eq ?_
       try (with_reducible rfl)
       refine (List.all_eq_false.2 ⟨sy[k], List.getElem_mem hk, ?_⟩).symm
       rw [h_]; exact Bool.false_ne_true
     · refine ⟨wk_, k + 1, (by omega), ?_⟩
       refine ⟨?_, ?_, ?_, ?_, ?_⟩
       iterate 3 (focus (first | (simp -implicitDefEqProofs only [wL, wM, wN, wX, seval, Option.some.injEq, g1, g3, o0] <;> exact wt_) | rfl | exact ⟨_, rfl⟩))
       all_goals try omega
       rw [ht2]
       intro x hx2
       rcases List.mem_append.1 hx2 with hx2 | hx2
       · exact k1_1 x hx2
       · obtain rfl := List.mem_singleton.1 hx2
         exact h_
   · repeat' with_reducible first
      | refine s_ ?_
      | simp -implicitDefEqProofs only [wZZ, seval, g1, g3, o0]
      | (refine condQ_j (fun h h_ => ?_) (fun h h_ => ?_) <;> (try simp only [wD, reduceCtorEq] at h_) <;> (try exact wb_) <;> (try simp only [h]))
      | (apply ldQ_cell; (exact wu_))
     refine post1 rfl (Or.inr rfl) ?_
     simp -implicitDefEqProofs only [wL, seval, g1, g3]
     first | refine er_bool ?_ | refine er_int ?_ | refine er_str ?_ | refine er_sl_eq ?_ | refine er_asl_eq ?_
     try (with_reducible rfl)
     rw [List.take_of_length_le (by omega)] at k1_1
     exact (List.all_eq_true.2 k1_1).symm

def quoGo (q : UInt8) : List UInt8 → Int → Int
 | [], _ => -1
 | [c], i => if c.toNat = 10 then -1 else if c.toNat = q.toNat then i + 1 else -1
 | c :: d :: r, i => if c.toNat = 10 then -1 else if c.toNat = q.toNat then i + 1 else if c.toNat = 92 then (if d.toNat = 10 then -1 else quoGo q r (i + 2)) else quoGo q (d :: r) (i + 1)
theorem quoGo_cons (q c : UInt8) (r : List UInt8) (i : Int) : quoGo q (c :: r) i = if c.toNat = 10 then -1 else if c.toNat = q.toNat then i + 1 else if c.toNat = 92 then (if (r.headD 10).toNat = 10 then -1 else quoGo q r.tail (i + 2)) else quoGo q r (i + 1) := by
 cases r with
 | nil => simp [quoGo]
 | cons d r => simp [quoGo]
def backGo : List UInt8 → Int → Int
 | [], _ => -1
 | c :: r, i => if c.toNat = 96 then i + 1 else backGo r (i + 1)
def lineGo : List UInt8 → Int → Int
 | [], i => i
 | c :: r, i => if c.toNat = 10 then i else lineGo r (i + 1)
def starGo (tx : List UInt8) : Nat → Int → Int
 | 0, _ => -1
 | n + 1, i => if beginsS tx i [42, 47] then i + 2 else starGo tx n (i + 1)
def overS (tx : List UInt8) (at_ : Nat) : Int :=
 let c := tx.getD at_ 0
 if c.toNat = 34 ∨ c.toNat = 39 then quoGo c (tx.drop (at_ + 1)) (at_ + 1) else if c.toNat = 96 then backGo (tx.drop (at_ + 1)) (at_ + 1)
 else if beginsS tx at_ [47, 47] then lineGo (tx.drop at_) at_ else if beginsS tx at_ [47, 42] then starGo tx (tx.length - (at_ + 2)) (at_ + 2) else at_
theorem yuccaref1_Over {tx : List UInt8} {at_ : Nat} (hs : tx.length ≤ 1099511627776) (ha : at_ < tx.length) : Pure Try.prog 61 [.str tx, vi at_] (vi (overS tx at_)) := by
 refine pure_intro Try.func61 e61_nm e61_ok (by show 2 ≤ 114; decide) ?_
 show ewp _ e61n98 _ _
 have hg : tx.getD at_ 0 = tx[at_] := by simp [List.getD, ha]
 have he : overS tx at_ = if tx[at_].toNat = 34 ∨ tx[at_].toNat = 39 then quoGo tx[at_] (tx.drop (at_ + 1)) (at_ + 1) else if tx[at_].toNat = 96 then backGo (tx.drop (at_ + 1)) (at_ + 1)
  else if beginsS tx at_ [47, 47] then lineGo (tx.drop at_) at_ else if beginsS tx at_ [47, 42] then starGo tx (tx.length - (at_ + 2)) (at_ + 2) else at_ := by unfold overS; rw [hg]
 refine ewp_seq_mid (fun s => s.f 0 = .str tx ∧ s.f 1 = vi at_ ∧ 0 ≤ s.next) ?_ ?_
 · repeat' with_reducible first
    | refine s_ ?_
    | simp -implicitDefEqProofs only [wZZ, seval]
   all_goals (refine ⟨?_, ?_, ?_⟩)
   all_goals ((try simp -implicitDefEqProofs only [wL, wM, wN, seval]); try (first | rfl | omega))
 intro s ⟨g0, g1, hnx⟩
 refine ewp_seq ?_
 refine ewp_block ?_
 refine ewp_seq_mid (fun s => s.f 0 = .str tx ∧ s.f 1 = vi at_ ∧ s.f 9 = .bool (decide (tx[at_].toNat = 34) || decide (tx[at_].toNat = 39)) ∧ 0 ≤ s.next) ?_ ?_
 · repeat' with_reducible first
    | refine s_ ?_
    | simp -implicitDefEqProofs only [wZZ, seval, g0, g1]
    | ((first | refine gdQ_iT (fun h => ?_) (fun h => ?_) | refine gdQ_iF (fun h => ?_) (fun h => ?_)) <;> have h_ := h <;> (try simp only [wD, reduceCtorEq] at h_) <;> (try exact wb_) <;> (try simp only [h]))
    | (apply ixs_1; (focus omega); (exact wd_))
   all_goals (refine ⟨?_, ?_, ?_, ?_⟩)
   all_goals ((try simp -implicitDefEqProofs only [wL, wM, wN, seval, g0, g1]); try (first | rfl | omega))
   all_goals (refine congrArg V.bool ?_; rw [Bool.eq_iff_iff]; simp; omega)
 intro s ⟨g0, g1, g9, hnx⟩
 by_cases h1 : tx[at_].toNat = 34 ∨ tx[at_].toNat = 39
 · rw [if_pos h1] at he
   rw [he]
   generalize hR : quoGo tx[at_] (tx.drop (at_ + 1)) ((at_ : Int) + 1) = R
   have hb : (decide (tx[at_].toNat = 34) || decide (tx[at_].toNat = 39)) = true := by simpa using h1
   repeat' with_reducible first
    | refine s_ ?_
    | simp -implicitDefEqProofs only [wZZ, seval, g0, g1, g9, hb]
    | simp -implicitDefEqProofs (disch := omega) only [w64, if_neg]
   refine ewp_loopN ?nx1 (fun (k : Nat) s => s.f 0 = ?v1_0 ∧ s.f 1 = ?v1_1 ∧ s.f 5 = vi k ∧ (k ≤ tx.length + 1) ∧ (quoGo tx[at_] (tx.drop k) k = R)) (fun k => tx.length + 1 - k) (at_ + 1) wj_ (by refine ⟨?_, ?_, ?_, (by first | omega | (simp; done) | assumption), (by rw [← hR]; rfl)⟩ <;> first | (simp -implicitDefEqProofs only [wL, wM, wN, wX, seval, Option.some.injEq, g0, g1, g9] <;> exact wt_) | rfl | exact ⟨_, rfl⟩) ?_
   intro k s hnx ⟨g0, g1, g5, k1_0, k1_1⟩
   by_cases hk : k < tx.length
   · have hd : tx.drop k = tx[k] :: tx.drop (k + 1) := List.drop_eq_getElem_cons hk
     have hz : IntKind.i64.wrap ((k + 1 : Nat) : Int) = ((k + 1 : Nat) : Int) := wrap64 (by omega) (by omega)
     rw [hd, quoGo_cons] at k1_1
     repeat' with_reducible first
      | refine s_ ?_
      | simp -implicitDefEqProofs only [wZZ, seval, g0, g1, g5, hz]
      | (refine condQ_j (fun h h_ => ?_) (fun h h_ => ?_) <;> (try simp only [wD, reduceCtorEq] at h_) <;> (try exact wb_) <;> (try simp only [h]))
      | ((first | refine gdQ_iT (fun h => ?_) (fun h => ?_) | refine gdQ_iF (fun h => ?_) (fun h => ?_)) <;> have h_ := h <;> (try simp only [wD, reduceCtorEq] at h_) <;> (try exact wb_) <;> (try simp only [h]))
      | (apply ixs_1; (focus omega); (exact wd_))
      | simp -implicitDefEqProofs (disch := omega) only [w64, if_neg]
     · refine post1 rfl (Or.inr rfl) ?_
       simp -implicitDefEqProofs only [wL, seval, g0, g1, g5]
       first | refine er_bool ?_ | refine er_int ?_ | refine er_str ?_ | refine er_sl_eq ?_ | refine er_asl_eq ?_
       try (with_reducible rfl)
       rw [← k1_1, if_neg (by omega), if_pos (by omega)]; rfl
     · refine post1 rfl (Or.inr rfl) ?_
       simp -implicitDefEqProofs only [wL, seval, g0, g1, g5]
       first | refine er_bool ?_ | refine er_int ?_ | refine er_str ?_ | refine er_sl_eq ?_ | refine er_asl_eq ?_
       try (with_reducible rfl)
       rw [← k1_1, if_neg (by omega), if_neg (by omega), if_pos (by omega), List.drop_eq_getElem_cons (show k + 1 < tx.length by omega), List.headD_cons, if_pos (by omega)]
     · refine ⟨wk_, k + 2, (by omega), ?_⟩
       refine ⟨?_, ?_, ?_, ?_, ?_⟩
       iterate 3 (focus (first | (simp -implicitDefEqProofs only [wL, wM, wN, wX, seval, Option.some.injEq, g0, g1, g5] <;> exact wt_) | rfl | exact ⟨_, rfl⟩))
       all_goals try omega
       rw [← k1_1, if_neg (by omega), if_neg (by omega), if_pos (by omega), List.drop_eq_getElem_cons (show k + 1 < tx.length by omega), List.headD_cons, if_neg (by omega)]; rfl
     · refine ⟨wk_, k + 2, (by omega), ?_⟩
       refine ⟨?_, ?_, ?_, ?_, ?_⟩
       iterate 3 (focus (first | (simp -implicitDefEqProofs only [wL, wM, wN, wX, seval, Option.some.injEq, g0, g1, g5] <;> exact wt_) | rfl | exact ⟨_, rfl⟩))
       all_goals try omega
       rw [← k1_1, if_neg (by omega), if_neg (by omega), if_pos (by omega), List.drop_eq_nil_of_le (show tx.length ≤ k + 1 by omega), List.drop_eq_nil_of_le (show tx.length ≤ k + 2 by omega)]; rfl
     · refine ⟨wk_, k + 1, (by omega), ?_⟩
       refine ⟨?_, ?_, ?_, ?_, ?_⟩
       iterate 3 (focus (first | (simp -implicitDefEqProofs only [wL, wM, wN, wX, seval, Option.some.injEq, g0, g1, g5] <;> exact wt_) | rfl | exact ⟨_, rfl⟩))
       all_goals try omega
       rw [← k1_1, if_neg (by omega), if_neg (by omega), if_neg (by omega)]; rfl
     · refine post1 rfl (Or.inr rfl) ?_
       simp -implicitDefEqProofs only [wL, seval, g0, g1, g5]
       first | refine er_bool ?_ | refine er_int ?_ | refine er_str ?_ | refine er_sl_eq ?_ | refine er_asl_eq ?_
       try (with_reducible rfl)
       rw [← k1_1, if_pos (by omega)]
   · rw [List.drop_eq_nil_of_le (by omega)] at k1_1
     repeat' with_reducible first
      | refine s_ ?_
      | simp -implicitDefEqProofs only [wZZ, seval, g0, g1, g5]
      | ((first | refine gdQ_iT (fun h => ?_) (fun h => ?_) | refine gdQ_iF (fun h => ?_) (fun h => ?_)) <;> have h_ := h <;> (try simp only [wD, reduceCtorEq] at h_) <;> (try exact wb_) <;> (try simp only [h]))
     refine post1 rfl (Or.inr rfl) ?_
     simp -implicitDefEqProofs only [wL, seval, g0, g1, g5]
     first | refine er_bool ?_ | refine er_int ?_ | refine er_str ?_ | refine er_sl_eq ?_ | refine er_asl_eq ?_
     try (with_reducible rfl)
     rw [← k1_1]; rfl
 · skip
   rw [if_neg h1] at he
   have hb : (decide (tx[at_].toNat = 34) || decide (tx[at_].toNat = 39)) = false := by simpa using h1
   by_cases h2 : tx[at_].toNat = 96
   · rw [if_pos h2] at he
     rw [he]
     generalize hR : backGo (tx.drop (at_ + 1)) ((at_ : Int) + 1) = R
     repeat' with_reducible first
      | refine s_ ?_
      | simp -implicitDefEqProofs only [wZZ, seval, g0, g1, g9, hb]
      | (refine condQ_j (fun h h_ => ?_) (fun h h_ => ?_) <;> (try simp only [wD, reduceCtorEq] at h_) <;> (try exact wb_) <;> (try simp only [h]))
      | (apply ixs_1; (focus omega); (exact wd_))
      | simp -implicitDefEqProofs (disch := omega) only [w64, if_neg]
     refine ewp_loopN ?nx2 (fun (k : Nat) s => s.f 0 = ?v2_0 ∧ s.f 6 = vi k ∧ (k ≤ tx.length) ∧ (backGo (tx.drop k) k = R)) (fun k => tx.length - k) (at_ + 1) wj_ (by refine ⟨?_, ?_, (by first | omega | (simp; done) | assumption), (by rw [← hR]; rfl)⟩ <;> first | (simp -implicitDefEqProofs only [wL, wM, wN, wX, seval, Option.some.injEq, g0, g1, g9] <;> exact wt_) | rfl | exact ⟨_, rfl⟩) ?_
     intro k s hnx ⟨g0, g6, k2_0, k2_1⟩
     by_cases hk : k < tx.length
     · rw [List.drop_eq_getElem_cons hk, backGo] at k2_1
       repeat' with_reducible first
        | refine s_ ?_
        | simp -implicitDefEqProofs only [wZZ, seval, g0, g6]
        | (refine condQ_j (fun h h_ => ?_) (fun h h_ => ?_) <;> (try simp only [wD, reduceCtorEq] at h_) <;> (try exact wb_) <;> (try simp only [h]))
        | (apply ixs_1; (focus omega); (exact wd_))
        | simp -implicitDefEqProofs (disch := omega) only [w64, if_neg]
       · refine post1 rfl (Or.inr rfl) ?_
         simp -implicitDefEqProofs only [wL, seval, g0, g6]
         first | refine er_bool ?_ | refine er_int ?_ | refine er_str ?_ | refine er_sl_eq ?_ | refine er_asl_eq ?_
         try (with_reducible rfl)
         rw [← k2_1, if_pos (by omega)]; rfl
       · refine ⟨wk_, k + 1, (by omega), ?_⟩
         refine ⟨?_, ?_, ?_, ?_⟩
         iterate 2 (focus (first | (simp -implicitDefEqProofs only [wL, wM, wN, wX, seval, Option.some.injEq, g0, g6] <;> exact wt_) | rfl | exact ⟨_, rfl⟩))
         all_goals try omega
         rw [← k2_1, if_neg (by omega)]; rfl
     · rw [List.drop_eq_nil_of_le (by omega)] at k2_1
       repeat' with_reducible first
        | refine s_ ?_
        | simp -implicitDefEqProofs only [wZZ, seval, g0, g6]
        | (refine condQ_j (fun h h_ => ?_) (fun h h_ => ?_) <;> (try simp only [wD, reduceCtorEq] at h_) <;> (try exact wb_) <;> (try simp only [h]))
       refine post1 rfl (Or.inr rfl) ?_
       simp -implicitDefEqProofs only [wL, seval, g0, g6]
       first | refine er_bool ?_ | refine er_int ?_ | refine er_str ?_ | refine er_sl_eq ?_ | refine er_asl_eq ?_
       try (with_reducible rfl)
       rw [← k2_1]; rfl
   · skip
     rw [if_neg h2] at he
     by_cases h3 : beginsS tx at_ [47, 47] = true
     · rw [if_pos h3] at he
       rw [he]
       generalize hR : lineGo (tx.drop at_) at_ = R
       repeat' with_reducible first
        | refine s_ ?_
        | simp -implicitDefEqProofs only [wZZ, seval, g0, g1, g9, hb, h3]
        | (refine condQ_j (fun h h_ => ?_) (fun h h_ => ?_) <;> (try simp only [wD, reduceCtorEq] at h_) <;> (try exact wb_) <;> (try simp only [h]))
        | (apply ixs_1; (focus omega); (exact wd_))
        | (apply callQ3 (hp := yuccaref1_begins ?_ ?_ ?_ ?_); (exact we_); (exact we_); (exact we_); rotate_left; (exact wf_); (exact wf_); (exact wf_); (exact wf_))
       refine ewp_loopN ?nx3 (fun (k : Nat) s => s.f 0 = ?v3_0 ∧ s.f 7 = vi k ∧ (k ≤ tx.length) ∧ (lineGo (tx.drop k) k = R)) (fun k => tx.length - k) (at_) wj_ (by refine ⟨?_, ?_, (by first | omega | (simp; done) | assumption), (by rw [← hR])⟩ <;> first | (simp -implicitDefEqProofs only [wL, wM, wN, wX, seval, Option.some.injEq, g0, g1, g9] <;> exact wt_) | rfl | exact ⟨_, rfl⟩) ?_
       intro k s hnx ⟨g0, g7, k3_0, k3_1⟩
       by_cases hk : k < tx.length
       · rw [List.drop_eq_getElem_cons hk, lineGo] at k3_1
         repeat' with_reducible first
          | refine s_ ?_
          | simp -implicitDefEqProofs only [wZZ, seval, g0, g7]
          | (refine condQ_j (fun h h_ => ?_) (fun h h_ => ?_) <;> (try simp only [wD, reduceCtorEq] at h_) <;> (try exact wb_) <;> (try simp only [h]))
          | ((first | refine gdQ_iT (fun h => ?_) (fun h => ?_) | refine gdQ_iF (fun h => ?_) (fun h => ?_)) <;> have h_ := h <;> (try simp only [wD, reduceCtorEq] at h_) <;> (try exact wb_) <;> (try simp only [h]))
          | (apply ixs_1; (focus omega); (exact wd_))
          | simp -implicitDefEqProofs (disch := omega) only [w64, if_neg]
         · refine ⟨wk_, k + 1, (by omega), ?_⟩
           refine ⟨?_, ?_, ?_, ?_⟩
           iterate 2 (focus (first | (simp -implicitDefEqProofs only [wL, wM, wN, wX, seval, Option.some.injEq, g0, g7] <;> exact wt_) | rfl | exact ⟨_, rfl⟩))
           all_goals try omega
           rw [← k3_1, if_neg (by omega)]; rfl
         · refine post1 rfl (Or.inr rfl) ?_
           simp -implicitDefEqProofs only [wL, seval, g0, g7]
           first | refine er_bool ?_ | refine er_int ?_ | refine er_str ?_ | refine er_sl_eq ?_ | refine er_asl_eq ?_
           try (with_reducible rfl)
           rw [← k3_1, if_pos (by omega)]
       · rw [List.drop_eq_nil_of_le (by omega)] at k3_1
         repeat' with_reducible first
          | refine s_ ?_
          | simp -implicitDefEqProofs only [wZZ, seval, g0, g7]
          | ((first | refine gdQ_iT (fun h => ?_) (fun h => ?_) | refine gdQ_iF (fun h => ?_) (fun h => ?_)) <;> have h_ := h <;> (try simp only [wD, reduceCtorEq] at h_) <;> (try exact wb_) <;> (try simp only [h]))
         refine post1 rfl (Or.inr rfl) ?_
         simp -implicitDefEqProofs only [wL, seval, g0, g7]
         first | refine er_bool ?_ | refine er_int ?_ | refine er_str ?_ | refine er_sl_eq ?_ | refine er_asl_eq ?_
         try (with_reducible rfl)
         rw [← k3_1]; rfl
     · skip
       rw [if_neg h3] at he
       have h3b : beginsS tx at_ [47, 47] = false := by simpa using h3
       by_cases h4 : beginsS tx at_ [47, 42] = true
       · rw [if_pos h4] at he
         rw [he]
         generalize hR : starGo tx (tx.length - (at_ + 2)) ((at_ : Int) + 2) = R
         repeat' with_reducible first
          | refine s_ ?_
          | simp -implicitDefEqProofs only [wZZ, seval, g0, g1, g9, hb, h3b, h4]
          | (refine condQ_j (fun h h_ => ?_) (fun h h_ => ?_) <;> (try simp only [wD, reduceCtorEq] at h_) <;> (try exact wb_) <;> (try simp only [h]))
          | (apply ixs_1; (focus omega); (exact wd_))
          | (apply callQ3 (hp := yuccaref1_begins ?_ ?_ ?_ ?_); (exact we_); (exact we_); (exact we_); rotate_left; (exact wf_); (exact wf_); (exact wf_); (exact wf_))
          | simp -implicitDefEqProofs (disch := omega) only [w64, if_neg]
         refine ewp_loopN ?nx4 (fun (k : Nat) s => s.f 0 = ?v4_0 ∧ s.f 8 = vi k ∧ (starGo tx (tx.length - k) k = R)) (fun k => tx.length - k) (at_ + 2) wj_ (by refine ⟨?_, ?_, (by rw [← hR]; rfl)⟩ <;> first | (simp -implicitDefEqProofs only [wL, wM, wN, wX, seval, Option.some.injEq, g0, g1, g9] <;> exact wt_) | rfl | exact ⟨_, rfl⟩) ?_
         intro k s hnx ⟨g0, g8, k4_0⟩
         by_cases hk : k < tx.length
         · rw [show tx.length - k = (tx.length - (k + 1)) + 1 by omega, starGo] at k4_0
           repeat' with_reducible first
            | refine s_ ?_
            | simp -implicitDefEqProofs only [wZZ, seval, g0, g8]
            | (refine condQ_j (fun h h_ => ?_) (fun h h_ => ?_) <;> (try simp only [wD, reduceCtorEq] at h_) <;> (try exact wb_) <;> (try simp only [h]))
            | (apply callQ3 (hp := yuccaref1_begins ?_ ?_ ?_ ?_); (exact we_); (exact we_); (exact we_); rotate_left; (exact wf_); (exact wf_); (exact wf_); (exact wf_))
            | simp -implicitDefEqProofs (disch := omega) only [w64, if_neg]
           · refine post1 rfl (Or.inr rfl) ?_
             simp -implicitDefEqProofs only [wL, seval, g0, g8]
             first | refine er_bool ?_ | refine er_int ?_ | refine er_str ?_ | refine er_sl_eq ?_ | refine er_asl_eq ?_
             try (with_reducible rfl)
             rw [← k4_0, if_pos (by assumption)]
           · refine ⟨wk_, k + 1, (by omega), ?_⟩
             refine ⟨?_, ?_, ?_⟩
             iterate 2 (focus (first | (simp -implicitDefEqProofs only [wL, wM, wN, wX, seval, Option.some.injEq, g0, g8] <;> exact wt_) | rfl | exact ⟨_, rfl⟩))
             all_goals try omega
             rw [← k4_0, if_neg (by simp_all)]; rfl
         · rw [show tx.length - k = 0 by omega, starGo] at k4_0
           repeat' with_reducible first
            | refine s_ ?_
            | simp -implicitDefEqProofs only [wZZ, seval, g0, g8]
            | (refine condQ_j (fun h h_ => ?_) (fun h h_ => ?_) <;> (try simp only [wD, reduceCtorEq] at h_) <;> (try exact wb_) <;> (try simp only [h]))
           refine post1 rfl (Or.inr rfl) ?_
           simp -implicitDefEqProofs only [wL, seval, g0, g8]
           first | refine er_bool ?_ | refine er_int ?_ | refine er_str ?_ | refine er_sl_eq ?_ | refine er_asl_eq ?_
           try (with_reducible rfl)
           exact k4_0
       · skip
         rw [if_neg h4] at he
         have h4b : beginsS tx at_ [47, 42] = false := by simpa using h4
         rw [he]
         repeat' with_reducible first
          | refine s_ ?_
          | simp -implicitDefEqProofs only [wZZ, seval, g0, g1, g9, hb, h3b, h4b]
          | (refine condQ_j (fun h h_ => ?_) (fun h h_ => ?_) <;> (try simp only [wD, reduceCtorEq] at h_) <;> (try exact wb_) <;> (try simp only [h]))
          | (apply ixs_1; (focus omega); (exact wd_))
          | (apply callQ3 (hp := yuccaref1_begins ?_ ?_ ?_ ?_); (exact we_); (exact we_); (exact we_); rotate_left; (exact wf_); (exact wf_); (exact wf_); (exact wf_))
         refine post1 rfl (Or.inr rfl) ?_
         simp -implicitDefEqProofs only [wL, seval, g0, g1, g9]
         first | refine er_bool ?_ | refine er_int ?_ | refine er_str ?_ | refine er_sl_eq ?_ | refine er_asl_eq ?_
         try (with_reducible rfl)
end Go.Proofs
