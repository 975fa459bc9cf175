/-
  Part of a proof that a law of the given program answers true: contracts of its functions, and the law. Holds for inputs of at most 1048576 values and letters in all.
-/
import Derived.Test.YtkcegflhobejmaaGreatDoorXEB
import Derived.ReadAgain
import Derived.ChangeSame
import Derived.Deep.Slices
import Derived.Deep.DeepHandedRow
set_option linter.unusedSimpArgs false
set_option linter.unusedVariables false
namespace Go.E
theorem ewp_seq {P : Program} [Glob P] {a b : EC} {Q : Exit → St → Prop} {s : St} (h : ewp P a (exThen (ewp P b Q) Q) s) : ewp P (.seq a b) Q s := h
theorem ewp_reg {P : Program} [Glob P] {ops : List Ins} {Q : Exit → St → Prop} {s : St} (h : ewpL P s.next (Q .normal) 0 ops (s.bump ops.length)) : ewp P (.reg ops) Q s := h
theorem ewp_reg_seq {P : Program} [Glob P] {ops : List Ins} {b : EC} {Q : Exit → St → Prop} {s : St} (h : ewpL P s.next (ewp P b Q) 0 ops (s.bump ops.length)) : ewp P (.seq (.reg ops) b) Q s := h
theorem ewp_block {P : Program} [Glob P] {id : Nat} {b : EC} {Q : Exit → St → Prop} {s : St} (h : ewp P b (exBlock id Q) s) : ewp P (.block id b) Q s := h
theorem ewp_skip {P : Program} [Glob P] {Q : Exit → St → Prop} {s : St} (h : Q .normal s) : ewp P .skip Q s := h
theorem ewp_ret {P : Program} [Glob P] {Q : Exit → St → Prop} {s : St} (h : Q .ret s) : ewp P .ret Q s := h
theorem ewp_mono {P : Program} [Glob P] : ∀ {ec : EC} {Q Q' : Exit → St → Prop} {s : St}, (∀ e s, Q e s → Q' e s) → ewp P ec Q s → ewp P ec Q' s := by
 have hL : ∀ {l : List Ins} {b0 i : Nat} {K K' : St → Prop} {s : St}, (∀ s, K s → K' s) → ewpL P b0 K i l s → ewpL P b0 K' i l s := by
  intro l
  induction l with
  | nil => intro b0 i K K' s h hh; exact h _ hh
  | cons o r ih =>
    intro b0 i K K' s h hh
    rw [ewpL_cons] at hh ⊢
    exact insStep_mono (fun s' hs => ih h hs) hh
 intro ec
 induction ec with
 | skip => intro Q Q' s h hh; exact h _ _ hh
 | reg ops => intro Q Q' s h hh; exact hL (fun s' hs => h _ _ hs) hh
 | seq a b iha ihb =>
   intro Q Q' s h hh
   refine iha (fun e s' he => ?_) hh
   cases e with
   | normal => exact ihb h he
   | _ => exact h _ _ he
 | cond c a b iha ihb =>
   intro Q Q' s h hh
   simp only [ewp] at hh ⊢
   split at hh
   · exact ⟨fun e => iha h (hh.1 e), fun e => ihb h (hh.2 e)⟩
   · exact hh.elim
 | block id b ih =>
   intro Q Q' s h hh
   refine ih (fun e s' he => ?_) hh
   cases e with
   | exit id' => simp only [exBlock] at he ⊢; split at he <;> rename_i e1
                 · rw [if_pos e1]; exact h _ _ he
                 · rw [if_neg e1]; exact h _ _ he
   | _ => exact h _ _ he
 | loop b ih =>
   intro Q Q' s h hh
   obtain ⟨I, μ, h0, hr⟩ := hh
   refine ⟨I, μ, h0, fun s' hs => ih (fun e s2 he => ?_) (hr s' hs)⟩
   cases e with
   | normal => exact he
   | _ => exact h _ _ he
 | exit id => intro Q Q' s h hh; exact h _ _ hh
 | ret => intro Q Q' s h hh; exact h _ _ hh
 | stop => intro Q Q' s h hh; exact hh.elim
theorem put_f (s : St) (d i : Nat) (v : V) : (s.put (some d) v).f i = if i = d then v else s.f i := rfl
theorem put_none (s : St) (v : V) : s.put none v = s := rfl
theorem putH (s : St) (d : Option Nat) (v : V) : (s.put d v).H = s.H := put_H s d v
theorem putN (s : St) (d : Option Nat) (v : V) : (s.put d v).next = s.next := put_next s d v
theorem bump_f (s : St) (n : Nat) : (s.bump n).f = s.f := rfl
theorem bump_H (s : St) (n : Nat) : (s.bump n).H = s.H := rfl
theorem bump_N (s : St) (n : Nat) : (s.bump n).next = s.next + n := rfl
theorem setO_N (s : St) (id : Nat) (ob : Option MObj) : (s.setO id ob).next = s.next := rfl
theorem setO_F (s : St) (id : Nat) (ob : Option MObj) : (s.setO id ob).f = s.f := rfl
theorem wrap64 {x : Int} (h1 : -9223372036854775808 ≤ x) (h2 : x ≤ 9223372036854775807) : IntKind.i64.wrap x = x := by
 unfold IntKind.wrap
 have e1 : ((2 : Int) ^ IntKind.bits .i64) = 18446744073709551616 := by decide
 have e2 : ((2 : Int) ^ (IntKind.bits .i64 - 1)) = 9223372036854775808 := by decide
 have e3 : IntKind.signed .i64 = true := rfl
 simp only [e1, e2, e3, Bool.true_and, decide_eq_true_eq]
 split <;> omega
def lenI (v : V) : Option V := match lenV v with | some n => some (.int .i64 (n : Int)) | none => none
section
variable {P : Program} [Glob P] {cls : Cls} {id : Nat} {s : St} {K : V → St → Prop}
theorem st_mov (x : Opd) : stepOp P cls id s K (.mov x) = K (ev s x) s := rfl
theorem st_pick (c a b : Opd) : stepOp P cls id s K (.pick c a b) = onS (match ev s c with | .bool t => some (if t then ev s a else ev s b) | _ => none) fun v => K v s := rfl
theorem st_build (z : List V) (ps : List (Nat × Nat × Opd)) : stepOp P cls id s K (.build z ps) = onS ((fillV z (ps.map fun (o, n, x) => (o, n, ev s x))).map .agg) fun v => K v s := rfl
theorem st_load (a : Bool) (n : Nat) (p : Opd) : stepOp P cls id s K (.load a n p) = labC cls.ldz s (ev s p) (onS (loadV s a n (ev s p)) fun v => K v s) := rfl
theorem st_bin (op : BinOp) (x y : Opd) : stepOp P cls id s K (.bin op x y) = onS (binV op (ev s x) (ev s y)) fun v => K v s := rfl
theorem st_eqb (n : Bool) (x y : Opd) : stepOp P cls id s K (.eqb n x y) = onS (eqbV n (ev s x) (ev s y)) fun v => K v s := rfl
theorem st_un (op : UnOp) (x : Opd) : stepOp P cls id s K (.un op x) = onS (unV op (ev s x)) fun v => K v s := rfl
theorem st_conv (k : IntKind) (x : Opd) : stepOp P cls id s K (.conv k x) = onS (match ev s x with | .int _ n => some (.int k (k.wrap n)) | _ => none) fun v => K v s := rfl
theorem st_mkfn (f : FuncId) (l : List Opd) : stepOp P cls id s K (.mkfn f l) = K (.fn f (l.map (ev s))) s := rfl
theorem st_mkifc (t : TypeId) (x : Opd) : stepOp P cls id s K (.mkifc t x) = K (.ifc t (ev s x)) s := rfl
theorem st_slc (z : Nat) (x : Opd) (a b c : Option Opd) : stepOp P cls id s K (.slc z x a b c) = onS (sliceV z (ev s x) (a.map (ev s)) (b.map (ev s)) (c.map (ev s))) fun v => K v s := rfl
theorem st_slcS (x : Opd) (a b : Option Opd) : stepOp P cls id s K (.slcS x a b) = onS (sliceSV (ev s x) (a.map (ev s)) (b.map (ev s))) fun v => K v s := rfl
theorem st_fld (a : Bool) (o n : Nat) (x : Opd) : stepOp P cls id s K (.fld a o n x) = onS (match ev s x with | .agg cs => partC a n cs o | _ => none) fun v => K v s := rfl
theorem st_ext (x : Opd) (i : Nat) : stepOp P cls id s K (.ext x i) = onS (match ev s x with | .tup vs => vs[i]? | _ => none) fun v => K v s := rfl
theorem st_len (x : Opd) : stepOp P cls id s K (.len x) = onS (lenI (ev s x)) fun v => K v s := by
 have e : evalN s (.len x) = lenI (ev s x) := by
  unfold lenI
  show ((lenV (ev s x)).map fun n => V.int .i64 n) = _
  cases lenV (ev s x) <;> rfl
 show onS (evalN s (.len x)) _ = _
 rw [e]
theorem st_lenS (x : Opd) : stepOp P cls id s K (.lenS x) = onS (match ev s x with | .str l => some (.int .i64 l.length) | _ => none) fun v => K v s := rfl
theorem st_lenc (n : Nat) : stepOp P cls id s K (.lenc n) = K (.int .i64 n) s := rfl
theorem st_nilck (x : Opd) : stepOp P cls id s K (.nilck x) = onS (evalN s (.nilck x)) fun v => K v s := rfl
theorem st_eqagg (m : Bool) (t : List Nat) (x y : Opd) : stepOp P cls id s K (.eqagg m t x y) = onS (evalN s (.eqagg m t x y)) fun v => K v s := rfl
end
theorem L_nil {P : Program} [Glob P] {b i : Nat} {K : St → Prop} {s : St} : ewpL P b K i [] s = K s := rfl
theorem L_none {P : Program} [Glob P] {b i : Nat} {K : St → Prop} {s : St} {d : Option Nat} {op : EOp} {c : Cls} {r : List Ins} :
 ewpL P b K i (⟨d, none, op, c⟩ :: r) s = stepOp P c (b + i) s (fun v s' => ewpL P b K (i + 1) r (s'.put d v)) op := rfl
theorem ev_t (s : St) (n : Nat) : ev s (.t n) = s.f n := rfl
theorem ev_c (s : St) (v : V) : ev s (.c v) = v := rfl
theorem entry_H (args : List V) (H : Nat → Option MObj) (n : Nat) : (entry args H n).H = H := rfl
theorem entry_N (args : List V) (H : Nat → Option MObj) (n : Nat) : (entry args H n).next = n := rfl
theorem entry0 (a : V) (l : List V) (H : Nat → Option MObj) (n : Nat) : (entry (a :: l) H n).f 0 = a := rfl
theorem entry1 (a b : V) (l : List V) (H : Nat → Option MObj) (n : Nat) : (entry (a :: b :: l) H n).f 1 = b := rfl
theorem entry2 (a b c : V) (l : List V) (H : Nat → Option MObj) (n : Nat) : (entry (a :: b :: c :: l) H n).f 2 = c := rfl
theorem entry3 (a b c d : V) (l : List V) (H : Nat → Option MObj) (n : Nat) : (entry (a :: b :: c :: d :: l) H n).f 3 = d := rfl
theorem entry4 (a b c d e : V) (l : List V) (H : Nat → Option MObj) (n : Nat) : (entry (a :: b :: c :: d :: e :: l) H n).f 4 = e := rfl
theorem entry5 (a b c d e f : V) (l : List V) (H : Nat → Option MObj) (n : Nat) : (entry (a :: b :: c :: d :: e :: f :: l) H n).f 5 = f := rfl
theorem ewp_if {P : Program} [Glob P] {c : Opd} {a b : EC} {Q : Exit → St → Prop} {s : St} {x : Bool} (hc : ev s c = .bool x) (h1 : x = true → ewp P a Q s) (h2 : x = false → ewp P b Q s) : ewp P (.cond c a b) Q s := by
 simp only [ewp, hc]; exact ⟨h1, h2⟩
theorem xt_n {M : St → Prop} {Q : Exit → St → Prop} {s : St} (h : M s) : exThen M Q .normal s := h
theorem er_int {b : Bool} {H : Nat → Option MObj} {k : IntKind} {x y : Int} (h : x = y) : Er b H (.int k x) (.int k y) := by subst h; exact .int k x
theorem er_bool {b : Bool} {H : Nat → Option MObj} {x y : Bool} (h : x = y) : Er b H (.bool x) (.bool y) := by subst h; exact .bool x
theorem er_str {b : Bool} {H : Nat → Option MObj} {x y : List UInt8} (h : x = y) : Er b H (.str x) (.str y) := by subst h; exact .str x
theorem post1 {ef : EF} {t : Nat} {res : V} {e : Exit} {s : St} (he : ef.res = [.inl t]) (hx : e = .normal ∨ e = .ret) (h : Er true s.H (s.f t) res) : PurePost ef res e s :=
 ⟨hx, s.f t, by rw [he]; rfl, h⟩
theorem b_add (k : IntKind) (a b : Int) : binV .add (.int k a) (.int k b) = some (.int k (k.wrap (a + b))) := by simp [binV, isShift, intBin]
theorem b_sub (k : IntKind) (a b : Int) : binV .sub (.int k a) (.int k b) = some (.int k (k.wrap (a - b))) := by simp [binV, isShift, intBin]
theorem b_mul (k : IntKind) (a b : Int) : binV .mul (.int k a) (.int k b) = some (.int k (k.wrap (a * b))) := by simp [binV, isShift, intBin]
theorem b_quo (k : IntKind) (a b : Int) : binV .quo (.int k a) (.int k b) = (if b = 0 then none else some (.int k (k.wrap (a.tdiv b)))) := by simp [binV, isShift, intBin]
theorem b_rem (k : IntKind) (a b : Int) : binV .rem (.int k a) (.int k b) = (if b = 0 then none else some (.int k (a.tmod b))) := by simp [binV, isShift, intBin]
theorem b_eql (k : IntKind) (a b : Int) : binV .eql (.int k a) (.int k b) = some (.bool (decide (a = b))) := by simp [binV, isShift, intBin]
theorem b_neq (k : IntKind) (a b : Int) : binV .neq (.int k a) (.int k b) = some (.bool (!decide (a = b))) := by simp [binV, isShift, intBin]
theorem b_lss (k : IntKind) (a b : Int) : binV .lss (.int k a) (.int k b) = some (.bool (decide (a < b))) := by simp [binV, isShift, intBin]
theorem b_leq (k : IntKind) (a b : Int) : binV .leq (.int k a) (.int k b) = some (.bool (decide (a ≤ b))) := by simp [binV, isShift, intBin]
theorem b_gtr (k : IntKind) (a b : Int) : binV .gtr (.int k a) (.int k b) = some (.bool (decide (b < a))) := by simp [binV, isShift, intBin]
theorem b_geq (k : IntKind) (a b : Int) : binV .geq (.int k a) (.int k b) = some (.bool (decide (b ≤ a))) := by simp [binV, isShift, intBin]
theorem u_not (b : Bool) : unV .not (.bool b) = some (.bool !b) := rfl
theorem eqb_b (n a b : Bool) : eqbV n (.bool a) (.bool b) = some (.bool ((a == b) != n)) := rfl
theorem len_sl (z : Nat) (b : Bool) (es : List V) : lenI (.sl z b es) = some (.int .i64 (es.length : Int)) := rfl
theorem len_asl (i f z : Nat) (es : List V) : lenI (.asl i f z es) = some (.int .i64 (es.length : Int)) := rfl
theorem len_msl (i f z n : Nat) : lenI (.msl i f z n) = some (.int .i64 (n : Int)) := rfl
end Go.E

namespace Go.E
theorem onS_det {α : Type} {o : Option α} {K : α → Prop} (h : onS o K) : ∃ v, K v ∧ o = some v := by
 obtain ⟨v, h1, h2⟩ := (onS_iff o K).1 h
 exact ⟨v, h2, h1⟩
theorem labC_in {want : Option Nat} {s : St} {p : V} {X Y : Prop} (h : labC want s p X) (y : Y) : labC want s p Y := by
 unfold labC at h ⊢
 split at h
 · exact ⟨h.1, y⟩
 · exact y
theorem stepOp_det {P : Program} [Glob P] {cls : Cls} {id : Nat} {s : St} {K : V → St → Prop} {op : EOp} (h : stepOp P cls id s K op) :
 ∃ v s', K v s' ∧ stepOp P cls id s (fun v1 s1 => v1 = v ∧ s1 = s') op := by
 cases op with
 | alloc n z => exact ⟨_, _, h, rfl, rfl⟩
 | box n x => exact ⟨_, _, h.2.2, h.1, h.2.1, rfl, rfl⟩
 | lit mu size agg zero len parts =>
   simp only [stepOp] at h ⊢
   obtain ⟨es, h1, h2⟩ := onS_det h
   rw [h2]; simp only [onS_some]
   cases mu
   · exact ⟨_, _, h1, rfl, rfl⟩
   · exact ⟨_, _, h1, rfl, rfl⟩
 | mksl mu size bytes zero l c =>
   simp only [stepOp] at h ⊢
   obtain ⟨n, h1, h2⟩ := onS_det h
   obtain ⟨m, h3, h4⟩ := onS_det h1
   rw [h2, h4]; simp only [onS_some]
   obtain ⟨a1, a2, a3, a4⟩ := h3
   cases mu
   · exact ⟨_, _, a4.2, a1, a2, a3, a4.1, rfl, rfl⟩
   · exact ⟨_, _, a4.2, a1, a2, a3, a4.1, rfl, rfl⟩
 | append mu size bytes x y =>
   simp only [stepOp] at h ⊢
   obtain ⟨ys, ⟨h1, h1'⟩, h2⟩ := onS_det h
   obtain ⟨⟨v, s', n⟩, h3, h4⟩ := onS_det h1'
   rw [h2]; simp only [onS_some]; rw [h4]; simp only [onS_some]
   exact ⟨_, _, h3.2.2, h1, h3.1, h3.2.1, rfl, rfl⟩
 | load agg n p =>
   simp only [stepOp] at h ⊢
   obtain ⟨v, h1, h2⟩ := onS_det (labC_out h)
   exact ⟨_, _, h1, labC_in h (by rw [h2]; exact ⟨rfl, rfl⟩)⟩
 | store n p x =>
   simp only [stepOp] at h ⊢
   obtain ⟨s', h1, h2⟩ := onS_det (labC_out h)
   refine ⟨_, _, labC_out h1, labC_in h ?_⟩
   rw [h2]; exact labC_in h1 ⟨rfl, rfl⟩
 | call f args =>
   simp only [stepOp] at h ⊢
   split at h
   · rcases h with ⟨bor, as', res, a1, a2, a3, a4, a5⟩ | ⟨a1, v, H', n', a2, a3⟩
     · exact ⟨_, _, a5, .inl ⟨bor, as', res, a1, a2, a3, a4, rfl, rfl⟩⟩
     · exact ⟨_, _, a2.2, .inr ⟨a1, v, H', n', ⟨a2.1, rfl, rfl⟩, a3⟩⟩
   · exact h.elim
 | mkmap => exact ⟨_, _, h, rfl, rfl⟩
 | mset x k v =>
   simp only [stepOp] at h ⊢
   obtain ⟨s', h1, h2⟩ := onS_det h
   exact ⟨_, _, h1, by rw [h2]; exact ⟨rfl, rfl⟩⟩
 | _ =>
   simp only [stepOp] at h ⊢
   obtain ⟨v, h1, h2⟩ := onS_det h
   exact ⟨_, _, h1, by rw [h2]; exact ⟨rfl, rfl⟩⟩
theorem ewpL_det {P : Program} [Glob P] {base : Nat} {Q : St → Prop} : ∀ {l : List Ins} {i : Nat} {s : St}, ewpL P base Q i l s → ∃ s', Q s' ∧ ewpL P base (· = s') i l s := by
 intro l
 induction l with
 | nil => intro i s h; exact ⟨s, h, rfl⟩
 | cons o r ih =>
   intro i s h
   simp only [ewpL] at h ⊢
   cases hg : o.gd with
   | none =>
     rw [hg] at h
     simp only at h ⊢
     obtain ⟨v, s1, h1, h2⟩ := stepOp_det h
     obtain ⟨s', h3, h4⟩ := ih h1
     refine ⟨s', h3, ewpL_R.stepOp_mono ?_ h2⟩
     rintro v1 s2 ⟨rfl, rfl⟩; exact h4
   | some p =>
     obtain ⟨t, want⟩ := p
     rw [hg] at h
     simp only at h ⊢
     cases hf : s.f t with
     | bool b =>
       rw [hf] at h
       simp only at h ⊢
       by_cases e : b = want
       · obtain ⟨v, s1, h1, h2⟩ := stepOp_det (h.1 e)
         obtain ⟨s', h3, h4⟩ := ih h1
         refine ⟨s', h3, fun _ => ewpL_R.stepOp_mono ?_ h2, fun c => absurd e c⟩
         rintro v1 s2 ⟨rfl, rfl⟩; exact h4
       · obtain ⟨s', h3, h4⟩ := ih (h.2 e)
         exact ⟨s', h3, fun c => absurd c e, fun _ => h4⟩
     | undef => rw [hf] at h; exact ih h
     | _ => rw [hf] at h; exact h.elim
theorem ewp_det {P : Program} [Glob P] : ∀ {ec : EC} {Q : Exit → St → Prop} {s : St}, ewp P ec Q s → ∃ e s', Q e s' ∧ ewp P ec (fun e1 s1 => e1 = e ∧ s1 = s') s := by
 intro ec
 induction ec with
 | skip => intro Q s h; exact ⟨_, _, h, rfl, rfl⟩
 | reg ops =>
   intro Q s h
   obtain ⟨s', h1, h2⟩ := ewpL_det h
   refine ⟨.normal, s', h1, ?_⟩
   have : ewpL P s.next (fun x => Exit.normal = Exit.normal ∧ x = s') 0 ops (s.bump ops.length) := by simpa using h2
   exact this
 | seq a b iha ihb =>
   intro Q s h
   obtain ⟨e, s1, h1, h2⟩ := iha h
   cases e with
   | normal =>
     obtain ⟨e', s', h3, h4⟩ := ihb h1
     refine ⟨e', s', h3, ewp_seq (ewp_mono ?_ h2)⟩
     rintro e1 s2 ⟨rfl, rfl⟩; exact h4
   | _ =>
     refine ⟨_, _, h1, ewp_seq (ewp_mono ?_ h2)⟩
     rintro e1 s2 ⟨rfl, rfl⟩; exact ⟨rfl, rfl⟩
 | cond c a b iha ihb =>
   intro Q s h
   simp only [ewp] at h ⊢
   cases hc : ev s c with
   | bool t =>
     rw [hc] at h
     simp only at h ⊢
     cases t with
     | true =>
       obtain ⟨e, s', h1, h2⟩ := iha (h.1 rfl)
       exact ⟨e, s', h1, fun _ => h2, fun c => Bool.noConfusion c⟩
     | false =>
       obtain ⟨e, s', h1, h2⟩ := ihb (h.2 rfl)
       exact ⟨e, s', h1, fun c => Bool.noConfusion c, fun _ => h2⟩
   | _ => rw [hc] at h; exact h.elim
 | block id b ih =>
   intro Q s h
   obtain ⟨e, s', h1, h2⟩ := ih h
   cases e with
   | exit id' =>
     simp only [exBlock] at h1
     by_cases e1 : id' = id
     · rw [if_pos e1] at h1
       refine ⟨_, _, h1, ewp_block (ewp_mono ?_ h2)⟩
       rintro e2 s2 ⟨rfl, rfl⟩; simp only [exBlock]; rw [if_pos e1]; simp
     · rw [if_neg e1] at h1
       refine ⟨_, _, h1, ewp_block (ewp_mono ?_ h2)⟩
       rintro e2 s2 ⟨rfl, rfl⟩; simp only [exBlock]; rw [if_neg e1]; simp
   | _ =>
     refine ⟨_, _, h1, ewp_block (ewp_mono ?_ h2)⟩
     rintro e1 s2 ⟨rfl, rfl⟩; exact ⟨rfl, rfl⟩
 | loop b ih =>
   intro Q s h
   obtain ⟨I, μ, h0, hr⟩ := h
   have key : ∀ (n : Nat) (s : St), I s → μ s = n → ∃ e s', Q e s' ∧ ewp P (.loop b) (fun e1 s1 => e1 = e ∧ s1 = s') s := by
    intro n
    induction n using Nat.strongRecOn with
    | _ n ihn =>
      intro s hI hn
      obtain ⟨e, s', h1, h2⟩ := ih (hr s hI)
      cases e with
      | normal =>
        obtain ⟨h1a, h1b⟩ := h1
        obtain ⟨e', s'', h3, I1, μ1, h4, h5⟩ := ihn (μ s') (hn ▸ h1b) s' h1a rfl
        refine ⟨e', s'', h3, ?_⟩
        classical
        by_cases hs : I1 s
        · exact ⟨I1, μ1, hs, h5⟩
        · refine ⟨fun x => x = s ∨ I1 x, fun x => if I1 x then μ1 x else μ1 s' + 1, .inl rfl, ?_⟩
          intro x hx
          by_cases hx1 : I1 x
          · refine ewp_mono ?_ (h5 x hx1)
            intro e2 s2 he
            cases e2 with
            | normal => exact ⟨.inr he.1, by simp only [if_pos he.1, if_pos hx1]; exact he.2⟩
            | _ => exact he
          · rcases hx with rfl | hx
            · refine ewp_mono ?_ h2
              rintro e2 s2 ⟨rfl, rfl⟩
              exact ⟨.inr h4, by simp only [if_pos h4, if_neg hs]; omega⟩
            · exact absurd hx hx1
      | _ =>
        refine ⟨_, _, h1, fun x => x = s, fun _ => 0, rfl, ?_⟩
        rintro x rfl
        refine ewp_mono ?_ h2
        rintro e2 s2 ⟨rfl, rfl⟩; exact ⟨rfl, rfl⟩
   exact key _ s h0 rfl
 | exit id => intro Q s h; exact ⟨_, _, h, rfl, rfl⟩
 | ret => intro Q s h; exact ⟨_, _, h, rfl, rfl⟩
 | stop => intro Q s h; exact h.elim
variable {P : Program} [Glob P] {pol : Pol}
theorem ecalls_intro {f : FuncId} {fn : Func} {ef : EF} {args : List V} {H : Nat → Option MObj} {next : Nat} {Q : V → (Nat → Option MObj) → Nat → Prop} (hf : P.funcs[f]? = some fn)
 (hname : (fn.name == "runtime.NumGoroutine") = false) (hc : compFn P pol fn = some ef) (hlen : args.length ≤ ef.n) (h : ewp P ef.body (HeapPost ef Q) (entry args H next)) : ECalls P f args H next Q := by
 obtain ⟨e, s', ⟨h1, v, h2, h3⟩, h4⟩ := ewp_det h
 refine ⟨v, s'.H, s'.next, h3, ecallsQ_intro hf hname hc hlen (ewp_mono ?_ h4)⟩
 rintro e1 s1 ⟨rfl, rfl⟩
 exact ⟨h1, v, h2, rfl, rfl, rfl⟩
end Go.E

namespace Go.E
def iaddrV (size : Nat) (x i : V) : Option V := match idxOf i with
 | none => none
 | some i => match x with
   | .sl sz _ es => if sz = size then es[i]?.map fun e => V.iptr sz e 0 else none
   | .asl _ _ sz es => if sz = size then es[i]?.map fun e => V.iptr sz e 0 else none
   | .msl id sz off len => if sz = size ∧ i < len then some (.ptr id (off + i) 0) else none
   | _ => none
theorem st_ia {P : Program} [Glob P] {cls : Cls} {id : Nat} {s : St} {K : V → St → Prop} (z : Nat) (x i : Opd) : stepOp P cls id s K (.iaddr z x i) = onS (iaddrV z (ev s x) (ev s i)) fun v => K v s := rfl
theorem ld_i1 {s : St} {k : IntKind} {n : Int} : loadV s false 1 (.iptr 1 (.int k n) 0) = some (.int k n) := by simp [loadV, partE, V.isAgg]
theorem ld_b1 {s : St} {b : Bool} : loadV s false 1 (.iptr 1 (.bool b) 0) = some (.bool b) := by simp [loadV, partE, V.isAgg]
theorem ld_s1 {s : St} {b : List UInt8} : loadV s false 1 (.iptr 1 (.str b) 0) = some (.str b) := by simp [loadV, partE, V.isAgg]
theorem ld_l1 {s : St} {z : Nat} {b : Bool} {es : List V} : loadV s false 1 (.iptr 1 (.sl z b es) 0) = some (.sl z b es) := by simp [loadV, partE, V.isAgg]
theorem ld_ag {s : St} {z : Nat} {cs : List V} : loadV s true z (.iptr z (.agg cs) 0) = some (.agg cs) := by simp [loadV, partE, V.isAgg]
abbrev vi (n : Int) : V := .int .i64 n
abbrev ints (l : List Int) : V := .sl 1 false (l.map (V.int .i64))
end Go.E

namespace Go.E
theorem setO_H (s : St) (id j : Nat) (ob : Option MObj) : (s.setO id ob).H j = if j = id then ob else s.H j := rfl
theorem st_alloc {P : Program} [Glob P] {cls : Cls} {id : Nat} {s : St} {K : V → St → Prop} (n : Nat) (z : V) : stepOp P cls id s K (.alloc n z) = K (.ptr id 0 0) (s.setO id (some (.own n [z] false))) := rfl
theorem st_store {P : Program} [Glob P] {cls : Cls} {id : Nat} {s : St} {K : V → St → Prop} (n : Nat) (p x : Opd) : stepOp P cls id s K (.store n p x) = labC cls.stz s (ev s p) (onS (storeS s n (ev s p) (ev s x)) fun s' => labC cls.stz s' (ev s p) (K .undef s')) := rfl
def faddrV (off : Nat) (p : V) : Option V := match p with | .ptr id i o => some (.ptr id i (o + off)) | .iptr sz e o => some (.iptr sz e (o + off)) | _ => none
theorem st_fa {P : Program} [Glob P] {cls : Cls} {id : Nat} {s : St} {K : V → St → Prop} (z : Nat) (x : Opd) : stepOp P cls id s K (.faddr z x) = onS (faddrV z (ev s x)) fun v => K v s := rfl
theorem fa_ptr {off id i o : Nat} : faddrV off (.ptr id i o) = some (.ptr id i (o + off)) := rfl
theorem fa_iptr {off z o : Nat} {e : V} : faddrV off (.iptr z e o) = some (.iptr z e (o + off)) := rfl
def iaddrAV (len size : Nat) (x i : V) : Option V := match idxOf i with
 | none => none
 | some i => if i < len then (match x with | .ptr id k o => some (.ptr id k (o + i * size)) | .iptr sz e o => some (.iptr sz e (o + i * size)) | _ => none) else none
theorem st_iaA {P : Program} [Glob P] {cls : Cls} {id : Nat} {s : St} {K : V → St → Prop} (l z : Nat) (x i : Opd) : stepOp P cls id s K (.iaddrA l z x i) = onS (iaddrAV l z (ev s x) (ev s i)) fun v => K v s := rfl
def idxAV (agg : Bool) (len size : Nat) (x i : V) : Option V := match idxOf i with
 | none => none
 | some i => if i < len then (match x with | .agg cs => partC agg size cs (i * size) | _ => none) else none
theorem st_ixA {P : Program} [Glob P] {cls : Cls} {id : Nat} {s : St} {K : V → St → Prop} (a : Bool) (l z : Nat) (x i : Opd) : stepOp P cls id s K (.idxA a l z x i) = onS (idxAV a l z (ev s x) (ev s i)) fun v => K v s := rfl
end Go.E

namespace Go.E
theorem castS (n : Nat) : (n : Int) + 1 = ((n + 1 : Nat) : Int) := rfl
theorem subS (n : Nat) : ((n + 1 : Nat) : Int) - 1 = (n : Int) := by omega
class Cl (v : V) : Prop where
 er : ∀ b H, Er b H v v
instance (k : IntKind) (n : Int) : Cl (.int k n) := ⟨fun _ _ => .int k n⟩
instance (x : Bool) : Cl (.bool x) := ⟨fun _ _ => .bool x⟩
instance (s : List UInt8) : Cl (.str s) := ⟨fun _ _ => .str s⟩
instance : Cl .nilp := ⟨fun _ _ => .nilp⟩
theorem er_list {b : Bool} {H : Nat → Option MObj} {l : List V} (h : ∀ x ∈ l, Er b H x x) : ∀ (i : Nat) c c', l[i]? = some c → l[i]? = some c' → Er b H c c' := by
 intro i c c' h1 h2
 rw [h1] at h2; cases h2
 exact h c (List.mem_of_getElem? h1)
instance {α : Type} (f : α → V) (z : Nat) (l : List α) [h : ∀ x, Cl (f x)] : Cl (.sl z false (l.map f)) :=
 ⟨fun b H => .sl z false _ _ rfl (er_list fun x hx => by obtain ⟨a, _, rfl⟩ := List.mem_map.1 hx; exact (h a).er b H)⟩
instance Cl.sl0 (z : Nat) : Cl (.sl z false []) := ⟨fun b H => .sl z false _ _ rfl (by simp)⟩
class Cls' (l : List V) : Prop where
 er : ∀ b H, ∀ x ∈ l, Er b H x x
instance : Cls' [] := ⟨fun _ _ => by simp⟩
instance (x : V) (l : List V) [h : Cl x] [hl : Cls' l] : Cls' (x :: l) := ⟨fun b H y hy => by
 cases List.mem_cons.1 hy with
 | inl e => subst e; exact h.er b H
 | inr e => exact hl.er b H y e⟩
instance {α : Type} (f : α → V) (l : List α) [h : ∀ x, Cl (f x)] : Cls' (l.map f) := ⟨fun b H y hy => by obtain ⟨a, _, rfl⟩ := List.mem_map.1 hy; exact (h a).er b H⟩
instance (x y : List V) [h : Cls' x] [hl : Cls' y] : Cls' (x ++ y) := ⟨fun b H z hz => by
 cases List.mem_append.1 hz with
 | inl e => exact h.er b H z e
 | inr e => exact hl.er b H z e⟩
instance (l : List V) [h : Cls' l] : Cl (.agg l) := ⟨fun b H => .agg _ _ rfl (er_list (h.er b H))⟩
instance (l : List V) [h : Cls' l] : Cl (.tup l) := ⟨fun b H => .tup _ _ rfl (er_list (h.er b H))⟩
instance (z : Nat) (l : List V) [h : Cls' l] : Cl (.sl z false l) := ⟨fun b H => .sl z false _ _ rfl (er_list (h.er b H))⟩
theorem er_sl {b : Bool} {H : Nat → Option MObj} {z : Nat} {c : Bool} {l : List V} [h : Cls' l] : Er b H (.sl z c l) (.sl z false l) := .sl z c _ _ rfl (er_list (h.er b H))
theorem er_asl {b : Bool} {H : Nat → Option MObj} {id fin z : Nat} {l : List V} [h : Cls' l] : Er b H (.asl id fin z l) (.sl z false l) := .asl id fin z _ _ rfl (er_list (h.er b H))
theorem er_sl_eq {b : Bool} {H : Nat → Option MObj} {z : Nat} {c : Bool} {l m : List V} [h : Cls' m] (e : l = m) : Er b H (.sl z c l) (.sl z false m) := by subst e; exact er_sl
theorem er_asl_eq {b : Bool} {H : Nat → Option MObj} {id fin z : Nat} {l m : List V} [h : Cls' m] (e : l = m) : Er b H (.asl id fin z l) (.sl z false m) := by subst e; exact er_asl
theorem er_msl_eq {H : Nat → Option MObj} {id z off len : Nat} {es : List V} {ro : Bool} {m : List V} [h : Cls' m] (hH : H id = some (.own z es ro)) (hl : off + len ≤ es.length) (e : (es.drop off).take len = m) : Er true H (.msl id z off len) (.sl z false m) := by
 subst e
 refine .msl id z off len es ro _ rfl hH hl (by simp; omega) fun i c c' h1 h2 => ?_
 have hi : i < len := by have := (List.getElem?_eq_some_iff.1 h2).1; simp at this; omega
 have h2' := h2
 rw [List.getElem?_take_of_lt hi, List.getElem?_drop, h1] at h2'
 cases h2'
 exact h.er true H c (List.mem_of_getElem? h2)
def gid : V → Option Nat
 | .asl id _ _ _ => some id
 | _ => none
def Gr (H : Nat → Option MObj) (next z : Nat) (es : List V) (v : V) : Prop := v = .sl z true es ∨ ∃ id fin, v = .asl id fin z es ∧ H id = some (.tok fin) ∧ id < next
theorem Gr.nil {H : Nat → Option MObj} {next z : Nat} : Gr H next z [] (.sl z true []) := Or.inl rfl
theorem Gr.clip {H : Nat → Option MObj} {next z : Nat} {es : List V} : Gr H next z es (.sl z true es) := Or.inl rfl
theorem Gr.tok {H : Nat → Option MObj} {next z id fin : Nat} {es : List V} (h : H id = some (.tok fin)) (hn : id < next) : Gr H next z es (.asl id fin z es) := Or.inr ⟨id, fin, rfl, h, hn⟩
theorem Gr.len {H : Nat → Option MObj} {next z : Nat} {es : List V} {v : V} (h : Gr H next z es v) : lenI v = some (.int .i64 (es.length : Int)) := by
 rcases h with rfl | ⟨id, fin, rfl, _⟩ <;> rfl
theorem Gr.er {b : Bool} {H H' : Nat → Option MObj} {next z : Nat} {es m : List V} {v : V} (h : Gr H' next z es v) [hc : Cls' m] (e : es = m) : Er b H v (.sl z false m) := by
 subst e
 rcases h with rfl | ⟨id, fin, rfl, _⟩
 · exact er_sl
 · exact er_asl
def dropG (H : Nat → Option MObj) (g : Option Nat) : Nat → Option MObj := fun i => if g = some i then none else H i
theorem Gr.mono {H H' : Nat → Option MObj} {next next' z : Nat} {es : List V} {v : V} (h : Gr H next z es v) (hn : next ≤ next') (hH : ∀ id, gid v = some id → id < next → H' id = H id) : Gr H' next' z es v := by
 rcases h with rfl | ⟨id, fin, rfl, h1, h2⟩
 · exact Or.inl rfl
 · exact Or.inr ⟨id, fin, rfl, by rw [hH id rfl h2]; exact h1, by omega⟩
theorem Gr.to {H H' : Nat → Option MObj} {next next' z : Nat} {es es' : List V} {v : V} (h : Gr H next z es v) (e : es = es') (hn : next ≤ next') (hH : H' = H) : Gr H' next' z es' v := by
 subst e hH; exact h.mono hn fun _ _ _ => rfl
def Src (H : Nat → Option MObj) (z : Nat) (ys : List V) (v : V) : Prop := ∀ s : St, s.H = H → srcV s z v = some ys
theorem Src.sl {H : Nat → Option MObj} {z : Nat} {c : Bool} {ys : List V} : Src H z ys (.sl z c ys) := fun s _ => by simp [srcV]
theorem Src.asl {H : Nat → Option MObj} {z id fin : Nat} {ys : List V} : Src H z ys (.asl id fin z ys) := fun s _ => by simp [srcV]
theorem Src.str {H : Nat → Option MObj} {l : List UInt8} : Src H 1 (l.map fun c => V.int .u8 c.toNat) (.str l) := fun s _ => by simp [srcV]
theorem Gr.src {H H' : Nat → Option MObj} {next z : Nat} {es : List V} {v : V} (h : Gr H next z es v) : Src H' z es v := by
 rcases h with rfl | ⟨id, fin, rfl, _⟩
 · exact Src.sl
 · exact Src.asl
def appQ (cls : Cls) (id : Nat) (s : St) (K : V → St → Prop) (mu : Bool) (size bytes : Nat) (x y : V) : Prop := onS (srcV s size y) fun ys => (cls = .t → isMsl x = false ∧ isMsl y = false ∧ mu = false) ∧
 onS (appendS id s mu size x ys) fun (v, s', n) => n * bytes ≤ 140737488355328 ∧ n ≤ maxLen ∧ K v s'
theorem st_app {P : Program} [Glob P] {cls : Cls} {id : Nat} {s : St} {K : V → St → Prop} (mu : Bool) (z bytes : Nat) (x y : Opd) : stepOp P cls id s K (.append mu z bytes x y) = appQ cls id s K mu z bytes (ev s x) (ev s y) := rfl
def SrcN (H : Nat → Option MObj) (z : Nat) (ys : List V) (v : V) : Prop := Src H z ys v ∧ isMsl v = false
theorem SrcN.sl {H : Nat → Option MObj} {z : Nat} {c : Bool} {ys : List V} : SrcN H z ys (.sl z c ys) := ⟨Src.sl, rfl⟩
theorem SrcN.asl {H : Nat → Option MObj} {z id fin : Nat} {ys : List V} : SrcN H z ys (.asl id fin z ys) := ⟨Src.asl, rfl⟩
theorem SrcN.str {H : Nat → Option MObj} {l : List UInt8} : SrcN H 1 (l.map fun c => V.int .u8 c.toNat) (.str l) := ⟨Src.str, rfl⟩
theorem app_map {α : Type} (f : α → V) (l m : List α) : l.map f ++ m.map f = (l ++ m).map f := by simp
theorem snoc_map {α : Type} (f : α → V) (l : List α) (x : α) : l.map f ++ [f x] = (l ++ [x]).map f := by simp
class IntsOf (l : List V) (m : outParam (List Int)) : Prop where
 eq : l = m.map (V.int .i64)
instance : IntsOf [] [] := ⟨rfl⟩
instance (x : Int) (l : List V) (m : List Int) [h : IntsOf l m] : IntsOf (.int .i64 x :: l) (x :: m) := ⟨by rw [h.eq]; rfl⟩
instance (priority := low) (m : List Int) : IntsOf (m.map (V.int .i64)) m := ⟨rfl⟩
theorem st_litQ {P : Program} [Glob P] {cls : Cls} {id : Nat} {s : St} {K : V → St → Prop} (z : Nat) (ag : Bool) (zero : V) (n : Nat) (ps : List (Nat × Opd)) : stepOp P cls id s K (.lit false z ag zero n ps) =
 onS (fillE z ag (List.replicate n zero) (ps.map fun (i, x) => (i, ev s x))) fun es => K (.sl z true es) s := rfl
theorem fill_nil (z : Nat) (ag : Bool) (es : List V) : fillE z ag es [] = some es := rfl
theorem fill_int (es : List V) (i : Nat) (k : IntKind) (n : Int) (r : List (Nat × V)) : fillE 1 false es ((i, .int k n) :: r) = fillE 1 false (es.set i (.int k n)) r := by simp [fillE, V.cells, V.okCell, V.isAgg]
section
variable {K : V → Prop}
end
end Go.E

namespace Go.E
section
variable {P : Program} [Glob P]
def condQ (v : V) (A B : Prop) : Prop := match v with
 | .bool t => (t = true → A) ∧ (t = false → B)
 | _ => False
theorem ewp_condQ {c : Opd} {a b : EC} {Q : Exit → St → Prop} {s : St} (h : condQ (ev s c) (ewp P a Q s) (ewp P b Q s)) : ewp P (.cond c a b) Q s := h
theorem condQ_i {t : Bool} {A B : Prop} (h1 : t = true → A) (h2 : t = false → B) : condQ (.bool t) A B := ⟨h1, h2⟩
def gdQ (v : V) (w : Bool) (A B : Prop) : Prop := match v with
 | .bool x => (x = w → A) ∧ (x ≠ w → B)
 | .undef => B
 | _ => False
def callQ (P : Program) [Glob P] (cls : Cls) (id : Nat) (s : St) (K : V → St → Prop) (f : FuncId) (vs : List V) : Prop :=
 (∃ bor as' res, (cls = .r → bor = false) ∧ Ers bor s.H (vs ++ []) as' ∧ Pure P f as' res ∧ (bor = true → Flat res) ∧ K res s) ∨
 (wCls cls = true ∧ ECalls P f (vs ++ []) s.H s.next fun v H' next' => keepC cls s.next s.H H' next' ∧ K v { s with H := H', next := next' })
theorem st_callQ {cls : Cls} {id : Nat} {s : St} {K : V → St → Prop} (f : FuncId) (as : List Opd) : stepOp P cls id s K (.call (.c (.fn f [])) as) = callQ P cls id s K f (as.map (ev s)) := rfl
def boxQ (id : Nat) (s : St) (K : V → St → Prop) (n : Nat) (v : V) : Prop := v.cells.length = n ∧ v.okCell = true ∧ K (.ptr id 0 0) (s.setO id (some (.own n [v] false)))
theorem st_boxQ {cls : Cls} {id : Nat} {s : St} {K : V → St → Prop} (n : Nat) (x : Opd) : stepOp P cls id s K (.box n x) = boxQ id s K n (ev s x) := rfl
def eqaggQ (neg : Bool) (tags : List Nat) (x y : V) (K : V → Prop) : Prop := match x, y with
 | .agg a, .agg b => onS ((eqCellsT tags a b).map fun t => V.bool (t != neg)) K
 | _, _ => False
theorem st_eqaggQ {cls : Cls} {id : Nat} {s : St} {K : V → St → Prop} (neg : Bool) (tags : List Nat) (x y : Opd) : stepOp P cls id s K (.eqagg neg tags x y) = eqaggQ neg tags (ev s x) (ev s y) fun v => K v s := by
 rw [st_eqagg]
 have e : evalN s (.eqagg neg tags x y) = (match ev s x, ev s y with | .agg a, .agg b => (eqCellsT tags a b).map fun t => V.bool (t != neg) | _, _ => none) := rfl
 rw [e]
 unfold eqaggQ
 cases ev s x <;> cases ev s y <;> simp
def ldQ (o : Option MObj) (ag : Bool) (n k off : Nat) : Option V := match o with
 | some (.own sz es _) => (match es[k]? with | some e => partE ag n sz e off | none => none)
 | _ => none
theorem ld_ptrQ {s : St} {ag : Bool} {n id k off : Nat} : loadV s ag n (.ptr id k off) = ldQ (s.H id) ag n k off := rfl
def stQ (s : St) (o : Option MObj) (n id k off : Nat) (v : V) : Option St := match o with
 | some (.own sz es false) => (match es[k]? with
   | some e => if v.cells.length = n ∧ v.okCell = true then (storeE n sz e v off).map fun e' => s.setO id (some (.own sz (es.set k e') false)) else none
   | none => none)
 | _ => none
theorem st_ptrQ {s : St} {n id k off : Nat} {v : V} : storeS s n (.ptr id k off) v = stQ s (s.H id) n id k off v := rfl
def appT (o : Option MObj) (cls : Cls) (id : Nat) (s : St) (K : V → St → Prop) (z bytes i f : Nat) (xs : List V) (y : V) : Prop := o = s.H i → appQ cls id s K false z bytes (.asl i f z xs) y
def mkQ (cls : Cls) (id : Nat) (s : St) (K : V → St → Prop) (mu : Bool) (z bytes : Nat) (zero l c : V) : Prop := onS (idxOf l) fun n => onS (idxOf c) fun m => n ≤ m ∧ m * bytes ≤ 140737488355328 ∧ m ≤ maxLen ∧
 if mu then m = n ∧ K (.msl id z 0 n) (s.setO id (some (.own z (List.replicate n zero) false))) else n = 0 ∧ K (.asl id 0 z []) (s.setO id (some (.tok 0)))
theorem st_mkQ {cls : Cls} {id : Nat} {s : St} {K : V → St → Prop} (mu : Bool) (z bytes : Nat) (zero : V) (l c : Opd) : stepOp P cls id s K (.mksl mu z bytes zero l c) = mkQ cls id s K mu z bytes zero (ev s l) (ev s c) := rfl
end
theorem wL : (∀ (s : St) (v : V), s.put none v = s) ∧ (∀ (s : St) (d i : Nat) (v : V), (s.put (some d) v).f i = if i = d then v else s.f i) ∧ (∀ (s : St) (n : Nat), (s.bump n).f = s.f) ∧ (∀ (s : St) (id : Nat) (ob : Option MObj), (s.setO id ob).f = s.f) ∧
 (∀ (a : V) (l : List V) (H : Nat → Option MObj) (n : Nat), (entry (a :: l) H n).f 0 = a) ∧ (∀ (a b : V) (l : List V) (H : Nat → Option MObj) (n : Nat), (entry (a :: b :: l) H n).f 1 = b) ∧
 (∀ (a b c : V) (l : List V) (H : Nat → Option MObj) (n : Nat), (entry (a :: b :: c :: l) H n).f 2 = c) ∧ (∀ (a b c d : V) (l : List V) (H : Nat → Option MObj) (n : Nat), (entry (a :: b :: c :: d :: l) H n).f 3 = d) ∧
 (∀ (a b c d e : V) (l : List V) (H : Nat → Option MObj) (n : Nat), (entry (a :: b :: c :: d :: e :: l) H n).f 4 = e) ∧ (∀ (a b c d e f : V) (l : List V) (H : Nat → Option MObj) (n : Nat), (entry (a :: b :: c :: d :: e :: f :: l) H n).f 5 = f) :=
 ⟨put_none, put_f, bump_f, setO_F, entry0, entry1, entry2, entry3, entry4, entry5⟩
theorem wN : (∀ (s : St) (d : Option Nat) (v : V), (s.put d v).next = s.next) ∧ (∀ (s : St) (n : Nat), (s.bump n).next = s.next + n) ∧ (∀ (s : St) (id : Nat) (ob : Option MObj), (s.setO id ob).next = s.next) ∧ (∀ (args : List V) (H : Nat → Option MObj) (n : Nat), (entry args H n).next = n) := ⟨putN, bump_N, setO_N, entry_N⟩
theorem wM : (∀ (s : St) (d : Option Nat) (v : V), (s.put d v).H = s.H) ∧ (∀ (s : St) (n : Nat), (s.bump n).H = s.H) ∧ (∀ (s : St) (id j : Nat) (ob : Option MObj), (s.setO id ob).H j = if j = id then ob else s.H j) ∧ (∀ (args : List V) (H : Nat → Option MObj) (n : Nat), (entry args H n).H = H) := ⟨putH, bump_H, setO_H, entry_H⟩
theorem wD : (∀ (p : Prop) [Decidable p], (decide p = true) = p) ∧ (∀ (p : Prop) [Decidable p], (decide p = false) = ¬p) ∧ ((!true) = false) ∧ ((!false) = true) ∧ (∀ b : Bool, ((!b) = true) = (b = false)) ∧ (∀ b : Bool, ((!b) = false) = (b = true)) ∧ ((true = false) = False) ∧ ((false = true) = False) ∧
 (∀ a b : Bool, ((a && b) = true) = (a = true ∧ b = true)) ∧ (∀ a b : Bool, ((a || b) = true) = (a = true ∨ b = true)) ∧ (∀ a b : Int, (¬a < b) = (b ≤ a)) ∧ (∀ a b : Int, (¬a ≤ b) = (b < a)) :=
 ⟨fun p _ => decide_eq_true_eq, fun p _ => propext decide_eq_false_iff_not, rfl, rfl, fun b => by cases b <;> simp, fun b => by cases b <;> simp, by simp, by simp, fun a b => by cases a <;> cases b <;> simp, fun a b => by cases a <;> cases b <;> simp, fun a b => propext Int.not_lt, fun a b => propext Int.not_le⟩
section
theorem wS : (∀ {P : Program} [Glob P] {b i : Nat} {K : St → Prop} {s : St}, ewpL P b K i [] s = K s) ∧
 (∀ {P : Program} [Glob P] {b i : Nat} {K : St → Prop} {s : St} {d : Option Nat} {op : EOp} {c : Cls} {r : List Ins}, ewpL P b K i (⟨d, none, op, c⟩ :: r) s = stepOp P c (b + i) s (fun v s' => ewpL P b K (i + 1) r (s'.put d v)) op) ∧
 (∀ {P : Program} [Glob P] {cls : Cls} {id : Nat} {s : St} {K : V → St → Prop} (x : Opd), stepOp P cls id s K (.mov x) = K (ev s x) s) ∧
 (∀ {P : Program} [Glob P] {cls : Cls} {id : Nat} {s : St} {K : V → St → Prop} (op : BinOp) (x y : Opd), stepOp P cls id s K (.bin op x y) = onS (binV op (ev s x) (ev s y)) fun v => K v s) ∧
 (∀ {P : Program} [Glob P] {cls : Cls} {id : Nat} {s : St} {K : V → St → Prop} (c a b : Opd), stepOp P cls id s K (.pick c a b) = onS (match ev s c with | .bool t => some (if t then ev s a else ev s b) | _ => none) fun v => K v s) ∧
 (∀ {P : Program} [Glob P] {cls : Cls} {id : Nat} {s : St} {K : V → St → Prop} (x : Opd) (i : Nat), stepOp P cls id s K (.ext x i) = onS (match ev s x with | .tup vs => vs[i]? | _ => none) fun v => K v s) ∧
 (∀ {P : Program} [Glob P] {cls : Cls} {id : Nat} {s : St} {K : V → St → Prop} (x : Opd), stepOp P cls id s K (.len x) = onS (lenI (ev s x)) fun v => K v s) ∧
 (∀ {P : Program} [Glob P] {cls : Cls} {id : Nat} {s : St} {K : V → St → Prop} (x : Opd), stepOp P cls id s K (.lenS x) = onS (match ev s x with | .str l => some (.int .i64 l.length) | _ => none) fun v => K v s) ∧
 (∀ {P : Program} [Glob P] {cls : Cls} {id : Nat} {s : St} {K : V → St → Prop} (n : Nat), stepOp P cls id s K (.lenc n) = K (.int .i64 n) s) ∧
 (∀ {P : Program} [Glob P] {cls : Cls} {id : Nat} {s : St} {K : V → St → Prop} (op : UnOp) (x : Opd), stepOp P cls id s K (.un op x) = onS (unV op (ev s x)) fun v => K v s) ∧
 (∀ {P : Program} [Glob P] {cls : Cls} {id : Nat} {s : St} {K : V → St → Prop} (n : Bool) (x y : Opd), stepOp P cls id s K (.eqb n x y) = onS (eqbV n (ev s x) (ev s y)) fun v => K v s) ∧
 (∀ {P : Program} [Glob P] {cls : Cls} {id : Nat} {s : St} {K : V → St → Prop} (k : IntKind) (x : Opd), stepOp P cls id s K (.conv k x) = onS (match ev s x with | .int _ n => some (.int k (k.wrap n)) | _ => none) fun v => K v s) :=
 ⟨L_nil, L_none, st_mov, st_bin, st_pick, st_ext, st_len, st_lenS, st_lenc, st_un, st_eqb, st_conv⟩
theorem wT : (∀ {P : Program} [Glob P] {cls : Cls} {id : Nat} {s : St} {K : V → St → Prop} (f : FuncId) (l : List Opd), stepOp P cls id s K (.mkfn f l) = K (.fn f (l.map (ev s))) s) ∧
 (∀ {P : Program} [Glob P] {cls : Cls} {id : Nat} {s : St} {K : V → St → Prop} (z : List V) (ps : List (Nat × Nat × Opd)), stepOp P cls id s K (.build z ps) = onS ((fillV z (ps.map fun (o, n, x) => (o, n, ev s x))).map .agg) fun v => K v s) ∧
 (∀ {P : Program} [Glob P] {cls : Cls} {id : Nat} {s : St} {K : V → St → Prop} (a : Bool) (o n : Nat) (x : Opd), stepOp P cls id s K (.fld a o n x) = onS (match ev s x with | .agg cs => partC a n cs o | _ => none) fun v => K v s) ∧
 (∀ {P : Program} [Glob P] {cls : Cls} {id : Nat} {s : St} {K : V → St → Prop} (z : Nat) (x i : Opd), stepOp P cls id s K (.iaddr z x i) = onS (iaddrV z (ev s x) (ev s i)) fun v => K v s) ∧
 (∀ {P : Program} [Glob P] {cls : Cls} {id : Nat} {s : St} {K : V → St → Prop} (a : Bool) (n : Nat) (p : Opd), stepOp P cls id s K (.load a n p) = labC cls.ldz s (ev s p) (onS (loadV s a n (ev s p)) fun v => K v s)) ∧
 (∀ {P : Program} [Glob P] {cls : Cls} {id : Nat} {s : St} {K : V → St → Prop} (z : Nat) (x : Opd), stepOp P cls id s K (.faddr z x) = onS (faddrV z (ev s x)) fun v => K v s) ∧
 (∀ {P : Program} [Glob P] {cls : Cls} {id : Nat} {s : St} {K : V → St → Prop} (l z : Nat) (x i : Opd), stepOp P cls id s K (.iaddrA l z x i) = onS (iaddrAV l z (ev s x) (ev s i)) fun v => K v s) ∧
 (∀ {P : Program} [Glob P] {cls : Cls} {id : Nat} {s : St} {K : V → St → Prop} (a : Bool) (l z : Nat) (x i : Opd), stepOp P cls id s K (.idxA a l z x i) = onS (idxAV a l z (ev s x) (ev s i)) fun v => K v s) ∧
 (∀ {P : Program} [Glob P] {cls : Cls} {id : Nat} {s : St} {K : V → St → Prop} (n : Nat) (p x : Opd), stepOp P cls id s K (.store n p x) = labC cls.stz s (ev s p) (onS (storeS s n (ev s p) (ev s x)) fun s' => labC cls.stz s' (ev s p) (K .undef s'))) ∧
 (∀ {P : Program} [Glob P] {cls : Cls} {id : Nat} {s : St} {K : V → St → Prop} (n : Nat) (z : V), stepOp P cls id s K (.alloc n z) = K (.ptr id 0 0) (s.setO id (some (.own n [z] false)))) ∧
 (∀ {P : Program} [Glob P] {cls : Cls} {id : Nat} {s : St} {K : V → St → Prop} (z : Nat) (x : Opd) (a b c : Option Opd), stepOp P cls id s K (.slc z x a b c) = onS (sliceV z (ev s x) (a.map (ev s)) (b.map (ev s)) (c.map (ev s))) fun v => K v s) ∧
 (∀ {P : Program} [Glob P] {cls : Cls} {id : Nat} {s : St} {K : V → St → Prop} (x : Opd) (a b : Option Opd), stepOp P cls id s K (.slcS x a b) = onS (sliceSV (ev s x) (a.map (ev s)) (b.map (ev s))) fun v => K v s) :=
 ⟨st_mkfn, st_build, st_fld, st_ia, st_load, st_fa, st_iaA, st_ixA, st_store, st_alloc, st_slc, st_slcS⟩
theorem wU : (∀ {P : Program} [Glob P] {cls : Cls} {id : Nat} {s : St} {K : V → St → Prop} (t : TypeId) (x : Opd), stepOp P cls id s K (.mkifc t x) = K (.ifc t (ev s x)) s) ∧
 (∀ {P : Program} [Glob P] {cls : Cls} {id : Nat} {s : St} {K : V → St → Prop} (z : Nat) (ag : Bool) (zero : V) (n : Nat) (ps : List (Nat × Opd)), stepOp P cls id s K (.lit false z ag zero n ps) = onS (fillE z ag (List.replicate n zero) (ps.map fun (i, x) => (i, ev s x))) fun es => K (.sl z true es) s) ∧
 (∀ {P : Program} [Glob P] {cls : Cls} {id : Nat} {s : St} {K : V → St → Prop} (mu : Bool) (z bytes : Nat) (x y : Opd), stepOp P cls id s K (.append mu z bytes x y) = appQ cls id s K mu z bytes (ev s x) (ev s y)) ∧
 (∀ {P : Program} [Glob P] {cls : Cls} {id : Nat} {s : St} {K : V → St → Prop} (f : FuncId) (as : List Opd), stepOp P cls id s K (.call (.c (.fn f [])) as) = callQ P cls id s K f (as.map (ev s))) ∧
 (∀ {P : Program} [Glob P] {cls : Cls} {id : Nat} {s : St} {K : V → St → Prop} (n : Nat) (x : Opd), stepOp P cls id s K (.box n x) = boxQ id s K n (ev s x)) ∧
 (∀ {P : Program} [Glob P] {cls : Cls} {id : Nat} {s : St} {K : V → St → Prop} (neg : Bool) (tags : List Nat) (x y : Opd), stepOp P cls id s K (.eqagg neg tags x y) = eqaggQ neg tags (ev s x) (ev s y) fun v => K v s) ∧
 (∀ {P : Program} [Glob P] {cls : Cls} {id : Nat} {s : St} {K : V → St → Prop} (mu : Bool) (z bytes : Nat) (zero : V) (l c : Opd), stepOp P cls id s K (.mksl mu z bytes zero l c) = mkQ cls id s K mu z bytes zero (ev s l) (ev s c)) ∧
 (∀ {s : St} {ag : Bool} {n id k off : Nat}, loadV s ag n (.ptr id k off) = ldQ (s.H id) ag n k off) ∧ (∀ {s : St} {n id k off : Nat} {v : V}, storeS s n (.ptr id k off) v = stQ s (s.H id) n id k off v) ∧
 (∀ (s : St) (n : Nat), ev s (.t n) = s.f n) ∧ (∀ (s : St) (v : V), ev s (.c v) = v) :=
 ⟨st_mkifc, st_litQ, st_app, st_callQ, st_boxQ, st_eqaggQ, st_mkQ, ld_ptrQ, st_ptrQ, ev_t, ev_c⟩
end
theorem wV : (∀ (k : IntKind) (a b : Int), binV .lss (.int k a) (.int k b) = some (.bool (decide (a < b)))) ∧ (∀ (k : IntKind) (a b : Int), binV .leq (.int k a) (.int k b) = some (.bool (decide (a ≤ b)))) ∧
 (∀ (k : IntKind) (a b : Int), binV .gtr (.int k a) (.int k b) = some (.bool (decide (b < a)))) ∧ (∀ (k : IntKind) (a b : Int), binV .geq (.int k a) (.int k b) = some (.bool (decide (b ≤ a)))) ∧
 (∀ (k : IntKind) (a b : Int), binV .eql (.int k a) (.int k b) = some (.bool (decide (a = b)))) ∧ (∀ (k : IntKind) (a b : Int), binV .neq (.int k a) (.int k b) = some (.bool (!decide (a = b)))) ∧
 (∀ (k : IntKind) (a b : Int), binV .add (.int k a) (.int k b) = some (.int k (k.wrap (a + b)))) ∧ (∀ (k : IntKind) (a b : Int), binV .sub (.int k a) (.int k b) = some (.int k (k.wrap (a - b)))) ∧
 (∀ (k : IntKind) (a b : Int), binV .mul (.int k a) (.int k b) = some (.int k (k.wrap (a * b)))) ∧ (∀ (k : IntKind) (a b : Int), binV .quo (.int k a) (.int k b) = (if b = 0 then none else some (.int k (k.wrap (a.tdiv b))))) ∧
 (∀ (k : IntKind) (a b : Int), binV .rem (.int k a) (.int k b) = (if b = 0 then none else some (.int k (a.tmod b)))) ∧ (∀ b : Bool, unV .not (.bool b) = some (.bool !b)) ∧ (∀ n a b : Bool, eqbV n (.bool a) (.bool b) = some (.bool ((a == b) != n))) :=
 ⟨b_lss, b_leq, b_gtr, b_geq, b_eql, b_neq, b_add, b_sub, b_mul, b_quo, b_rem, u_not, eqb_b⟩
theorem wW : (∀ (z : Nat) (b : Bool) (es : List V), lenI (.sl z b es) = some (.int .i64 (es.length : Int))) ∧ (∀ (i f z : Nat) (es : List V), lenI (.asl i f z es) = some (.int .i64 (es.length : Int))) ∧ (∀ (i f z n : Nat), lenI (.msl i f z n) = some (.int .i64 (n : Int))) ∧
 (∀ {off id i o : Nat}, faddrV off (.ptr id i o) = some (.ptr id i (o + off))) ∧ (∀ {off z o : Nat} {e : V}, faddrV off (.iptr z e o) = some (.iptr z e (o + off))) ∧
 (∀ {s : St} {k : IntKind} {n : Int}, loadV s false 1 (.iptr 1 (.int k n) 0) = some (.int k n)) ∧ (∀ {s : St} {b : Bool}, loadV s false 1 (.iptr 1 (.bool b) 0) = some (.bool b)) ∧ (∀ {s : St} {b : List UInt8}, loadV s false 1 (.iptr 1 (.str b) 0) = some (.str b)) ∧
 (∀ {s : St} {z : Nat} {b : Bool} {es : List V}, loadV s false 1 (.iptr 1 (.sl z b es) 0) = some (.sl z b es)) ∧ (∀ {s : St} {z : Nat} {cs : List V}, loadV s true z (.iptr z (.agg cs) 0) = some (.agg cs)) ∧
 (∀ {α : Type} (v : α) (K : α → Prop), onS (some v) K = K v) ∧ (∀ (z : Nat) (ag : Bool) (es : List V), fillE z ag es [] = some es) ∧ (∀ (es : List V) (i : Nat) (k : IntKind) (n : Int) (r : List (Nat × V)), fillE 1 false es ((i, .int k n) :: r) = fillE 1 false (es.set i (.int k n)) r) :=
 ⟨len_sl, len_asl, len_msl, fa_ptr, fa_iptr, ld_i1, ld_b1, ld_s1, ld_l1, ld_ag, onS_some, fill_nil, fill_int⟩
theorem wX : (∀ {α β : Type} (f : α → β), Option.map f none = none) ∧ (∀ {α β : Type} (a : α) (f : α → β), Option.map f (some a) = some (f a)) ∧ (∀ {α : Type} (a : α) (l : List α), (a :: l).length = l.length + 1) ∧ (∀ {α : Type}, ([] : List α).length = 0) ∧
 (∀ n : Nat, 0 + n = n) ∧ (∀ n : Nat, n + 0 = n) ∧ (∀ n : Nat, n * 1 = n) ∧ (∀ {α β : Type} (f : α → β) (l : List α), (l.map f).length = l.length) ∧ (∀ n : Nat, ((n : Int)).toNat = n) ∧ (∀ n : Nat, (n : Int) + 1 = ((n + 1 : Nat) : Int)) ∧ (∀ n : Nat, ((n + 1 : Nat) : Int) - 1 = (n : Int)) ∧
 (∀ {α : Type} (f : α → V) (l m : List α), l.map f ++ m.map f = (l ++ m).map f) ∧ (∀ {α : Type} (f : α → V) (l : List α) (x : α), l.map f ++ [f x] = (l ++ [x]).map f) ∧ (∀ {α : Type} (l : List α), [] ++ l = l) :=
 ⟨fun f => rfl, fun a f => rfl, fun a l => rfl, rfl, Nat.zero_add, Nat.add_zero, Nat.mul_one, fun f l => List.length_map f, Int.toNat_natCast, castS, subS, app_map, snoc_map, fun l => rfl⟩
theorem wY : (∀ {α β : Type} (f : α → β) (a : α) (l : List α), (a :: l).map f = f a :: l.map f) ∧ (∀ {α β : Type} (f : α → β), ([] : List α).map f = []) ∧ (∀ {α : Type} (a : α) (l : List α), (a :: l)[0]? = some a) ∧ (∀ {α : Type} (a : α) (l : List α) (i : Nat), (a :: l)[i + 1]? = l[i]?) ∧
 (∀ {α : Type} (a : α) (n : Nat), List.replicate (n + 1) a = a :: List.replicate n a) ∧ (∀ {α : Type} (a : α), List.replicate 0 a = []) ∧ (∀ {α : Type} (a b : α) (l : List α), (a :: l).set 0 b = b :: l) ∧ (∀ {α : Type} (a b : α) (l : List α) (i : Nat), (a :: l).set (i + 1) b = a :: l.set i b) ∧
 (∀ b : Bool, (true && b) = b) ∧ (∀ b : Bool, (b && true) = b) ∧ (∀ b : Bool, (false && b) = false) ∧ (∀ b : Bool, (b && false) = false) ∧ (∀ b : Bool, (b != false) = b) ∧ (∀ b : Bool, (b == b) = true) ∧ ((!true) = false) ∧ ((!false) = true) ∧ (∀ a : Int, (a < a) = False) ∧ (∀ {α : Type} (a : α), (a = a) = True) ∧ (∀ b : Bool, (b != b) = false) :=
 ⟨fun f a l => rfl, fun f => rfl, fun a l => rfl, fun a l i => rfl, fun a n => rfl, fun a => rfl, fun a b l => rfl, fun a b l i => rfl, Bool.true_and, Bool.and_true, Bool.false_and, Bool.and_false, fun b => by simp, fun b => by simp, rfl, rfl, fun a => by simp, fun a => by simp, fun b => by simp⟩
def idxsV (x i : V) : Option V := match idxOf i, x with
 | some i, .str l => l[i]?.map fun c => V.int .u8 c.toNat
 | _, _ => none
theorem wC : (∀ {s : St} {p : V} {X : Prop}, labC (Cls.ldz .any) s p X = X) ∧ (∀ {s : St} {p : V} {X : Prop}, labC (Cls.ldz .r) s p X = X) ∧ (∀ {s : St} {p : V} {X : Prop}, labC (Cls.stz .any) s p X = X) ∧ (∀ {s : St} {p : V} {X : Prop}, labC (Cls.stz .w) s p X = X) ∧
 (∀ {s : St} {z id k o : Nat} {X : Prop}, labC (Cls.ldz (.l z)) s (.ptr id k o) X = ((s.H id).map lab = some z ∧ X)) ∧ (∀ {s : St} {z sz o : Nat} {e : V} {X : Prop}, labC (Cls.ldz (.l z)) s (.iptr sz e o) X = X) ∧ (∀ {s : St} {z id k o : Nat} {X : Prop}, labC (Cls.stz (.s z)) s (.ptr id k o) X = ((s.H id).map lab = some z ∧ X)) ∧
 (∀ {P : Program} [Glob P] {cls : Cls} {id : Nat} {s : St} {K : V → St → Prop} (x : Opd), stepOp P cls id s K (.by2s x) = onS (match ev s x with | .sl 1 _ es => (bytesV es).map .str | _ => none) fun v => K v s) ∧
 (∀ {P : Program} [Glob P] {cls : Cls} {id : Nat} {s : St} {K : V → St → Prop} (x i : Opd), stepOp P cls id s K (.idxS x i) = onS (idxsV (ev s x) (ev s i)) fun v => K v s) :=
 ⟨rfl, rfl, rfl, rfl, rfl, rfl, rfl, fun x => rfl, fun x i => rfl⟩
def Sep (v w : V) : Prop := ∀ i, gid v = some i → gid w = some i → False
theorem Gr.lt {H : Nat → Option MObj} {next z : Nat} {es : List V} {v : V} (h : Gr H next z es v) {i : Nat} (hi : gid v = some i) : i < next := by
 rcases h with rfl | ⟨id, fin, rfl, _, hl⟩
 · cases hi
 · cases hi; exact hl
def GrM (H : Nat → Option MObj) (base next z : Nat) (es : List V) (v : V) : Prop := (es = [] ∧ v = .sl z true []) ∨ ∃ id, v = .msl id z 0 es.length ∧ H id = some (.own z es false) ∧ base ≤ id ∧ id < next
theorem GrM.len {H : Nat → Option MObj} {base next z : Nat} {es : List V} {v : V} (h : GrM H base next z es v) : lenI v = some (.int .i64 (es.length : Int)) := by
 rcases h with ⟨rfl, rfl⟩ | ⟨id, rfl, _⟩ <;> rfl
theorem GrM.er {H H0 : Nat → Option MObj} {base next z : Nat} {es m : List V} {v : V} (h : GrM H base next z es v) (hH : H0 = H) [hc : Cls' m] (e : es = m) : Er true H0 v (.sl z false m) := by
 subst e hH
 rcases h with ⟨rfl, rfl⟩ | ⟨id, rfl, h1, _⟩
 · exact er_sl
 · exact er_msl_eq h1 (by simp) (by simp)
end Go.E

namespace Go.E
def nilV : V → Option V
 | .ptr id i off => some (.ptr id i off)
 | .iptr sz e off => some (.iptr sz e off)
 | .fn f caps => some (.fn f caps)
 | _ => none
theorem st_nilQ {P : Program} [Glob P] {cls : Cls} {id : Nat} {s : St} {K : V → St → Prop} (x : Opd) : stepOp P cls id s K (.nilck x) = onS (nilV (ev s x)) fun v => K v s := by
 rw [st_nilck]
 have e : evalN s (.nilck x) = nilV (ev s x) := by
  simp only [evalN]
  cases ev s x <;> rfl
 rw [e]
theorem st_litM {P : Program} [Glob P] {cls : Cls} {id : Nat} {s : St} {K : V → St → Prop} (z : Nat) (ag : Bool) (zero : V) (n : Nat) (ps : List (Nat × Opd)) :
 stepOp P cls id s K (.lit true z ag zero n ps) = onS (fillE z ag (List.replicate n zero) (ps.map fun (i, x) => (i, ev s x))) fun es => K (.msl id z 0 n) (s.setO id (some (.own z es false))) := rfl
theorem wG : (∀ {P : Program} [Glob P] {cls : Cls} {id : Nat} {s : St} {K : V → St → Prop} (x : Opd), stepOp P cls id s K (.nilck x) = onS (nilV (ev s x)) fun v => K v s) ∧
 (∀ {P : Program} [Glob P] {cls : Cls} {id : Nat} {s : St} {K : V → St → Prop} (z : Nat) (ag : Bool) (zero : V) (n : Nat) (ps : List (Nat × Opd)), stepOp P cls id s K (.lit true z ag zero n ps) = onS (fillE z ag (List.replicate n zero) (ps.map fun (i, x) => (i, ev s x))) fun es => K (.msl id z 0 n) (s.setO id (some (.own z es false)))) ∧
 (∀ id i off : Nat, nilV (.ptr id i off) = some (.ptr id i off)) ∧ (∀ (sz : Nat) (e : V) (off : Nat), nilV (.iptr sz e off) = some (.iptr sz e off)) := ⟨st_nilQ, st_litM, fun _ _ _ => rfl, fun _ _ _ => rfl⟩
def ErP (v v' : V) : Prop := Er false (fun _ => none) v v'
theorem Er.up {b : Bool} {H H2 : Nat → Option MObj} {v v' : V} (h : Er false H v v') : Er b H2 v v' := by
 generalize hb : false = b0 at h
 induction h with
 | bool b => exact .bool _
 | int k n => exact .int _ _
 | str s => exact .str _
 | agg cs cs' hl h ih => exact .agg cs cs' hl (fun i c c' h1 h2 => ih i c c' h1 h2)
 | tup cs cs' hl h ih => exact .tup cs cs' hl (fun i c c' h1 h2 => ih i c c' h1 h2)
 | sl sz b cs cs' hl h ih => exact .sl sz b cs cs' hl (fun i c c' h1 h2 => ih i c c' h1 h2)
 | asl id fin sz cs cs' hl h ih => exact .asl id fin sz cs cs' hl (fun i c c' h1 h2 => ih i c c' h1 h2)
 | iptr sz e e' off h ih => exact .iptr sz e e' off ih
 | msl id sz off len es ro cs' hb' => subst hb; cases hb'
 | ptr id i off sz es ro e e' hb' => subst hb; cases hb'
 | mapo id l hb' => subst hb; cases hb'
 | nilp => exact .nilp
 | nilfn => exact .nilfn
 | nilmap => exact .nilmap
 | mp l => exact .mp l
 | mfn f x x' h ih => exact .mfn f x x' ih
 | nilifc => exact .nilifc
 | fn f cs cs' hl h ih => exact .fn f cs cs' hl (fun i c c' h1 h2 => ih i c c' h1 h2)
 | ifc t v v' h ih => exact .ifc t v v' ih
theorem ErP.er {b : Bool} {H : Nat → Option MObj} {v v' : V} (h : ErP v v') : Er b H v v' := Er.up h
inductive ErL (b : Bool) (H : Nat → Option MObj) : List V → List V → Prop
 | nil : ErL b H [] []
 | cons {v v' : V} {l l' : List V} (h : Er b H v v') (hl : ErL b H l l') : ErL b H (v :: l) (v' :: l')
theorem ErL.get {b : Bool} {H : Nat → Option MObj} {l l' : List V} (h : ErL b H l l') : l'.length = l.length ∧ ∀ (i : Nat) c c', l[i]? = some c → l'[i]? = some c' → Er b H c c' := by
 induction h with
 | nil => exact ⟨rfl, fun i c c' h => by simp at h⟩
 | cons h hl ih =>
   refine ⟨by simp [ih.1], fun i c c' h1 h2 => ?_⟩
   cases i with
   | zero => simp at h1 h2; subst h1 h2; exact h
   | succ i => exact ih.2 i c c' (by simpa using h1) (by simpa using h2)
theorem ErL.len {b : Bool} {H : Nat → Option MObj} {l l' : List V} (h : ErL b H l l') : l'.length = l.length := h.get.1
theorem ErL.agg {b : Bool} {H : Nat → Option MObj} {l l' : List V} (h : ErL b H l l') : Er b H (.agg l) (.agg l') := .agg _ _ h.get.1 h.get.2
theorem ErL.tup {b : Bool} {H : Nat → Option MObj} {l l' : List V} (h : ErL b H l l') : Er b H (.tup l) (.tup l') := .tup _ _ h.get.1 h.get.2
theorem ErL.sl {b : Bool} {H : Nat → Option MObj} {z : Nat} {c : Bool} {l l' : List V} (h : ErL b H l l') : Er b H (.sl z c l) (.sl z false l') := .sl _ _ _ _ h.get.1 h.get.2
theorem ErL.asl {b : Bool} {H : Nat → Option MObj} {id f z : Nat} {l l' : List V} (h : ErL b H l l') : Er b H (.asl id f z l) (.sl z false l') := .asl _ _ _ _ _ h.get.1 h.get.2
abbrev ErPL (l l' : List V) : Prop := ErL false (fun _ => none) l l'
theorem ErPL.up {b : Bool} {H : Nat → Option MObj} {l l' : List V} (h : ErPL l l') : ErL b H l l' := by
 induction h with
 | nil => exact .nil
 | cons h hl ih => exact .cons h.up ih
theorem wF : (∀ a b : List UInt8, binV .eql (.str a) (.str b) = some (.bool (decide (a = b)))) ∧ (∀ a b : List UInt8, binV .neq (.str a) (.str b) = some (.bool (!decide (a = b)))) := ⟨fun _ _ => rfl, fun _ _ => rfl⟩
theorem bf {b : Bool} (h : b = false) (k : b = true) : False := by rw [h] at k; cases k
theorem bt {b : Bool} (h : b = true) (k : b = false) : False := by rw [h] at k; cases k
theorem wA : type_of% (And.intro wS (And.intro wT (And.intro wU (And.intro wV (And.intro wW (And.intro wX (And.intro wY (And.intro wC (And.intro wF (And.intro wG (And.intro wL (And.intro wM wN)))))))))))) := And.intro wS (And.intro wT (And.intro wU (And.intro wV (And.intro wW (And.intro wX (And.intro wY (And.intro wC (And.intro wF (And.intro wG (And.intro wL (And.intro wM wN)))))))))))
theorem wl_ {p : Prop} (h : p := by simp -implicitDefEqProofs only [wL, Nat.reduceEqDiff, ↓reduceIte, reduceCtorEq]) : p := h
theorem wk_ {p : Prop} (h : p := by first | assumption | omega | (simp -implicitDefEqProofs only [wN] <;> omega)) : p := h
theorem wj_ {p : Prop} (h : p := by simp -implicitDefEqProofs only [wN, Nat.reduceAdd, Nat.zero_add]; try exact Nat.le_refl _) : p := h
theorem wi_ {p : Prop} (h : p := by simp only [wM]; repeat (first | rw [if_pos trivial] | rw [if_pos rfl] | rw [if_neg (by omega)])) : p := h
theorem wh_ {p : Prop} (h : p := by simp only [wN] <;> omega) : p := h
theorem wg_ {p : Prop} (h : p := by (try simp only [wN]) <;> omega) : p := h
theorem wf_ {p : Prop} (h : p := by first | assumption | omega | (simp only [wZ] <;> omega) | trivial) : p := h
theorem we_ {p : Prop} (h : p := by first | exact er_intsL | exact er_cl | exact er_sl | exact er_asl) : p := h
theorem wd_ {p : Prop} (h : p := by first | assumption | exact List.getElem?_eq_getElem (by omega) | rfl) : p := h
theorem wu_ {α : Type} {a b : α} (h : a = b := by with_unfolding_all rfl) : a = b := h
theorem wc_ {p : Prop} (h : p := by (simp only [wM]; (repeat first | rw [if_pos trivial] | rw [if_pos rfl] | rw [if_neg (by omega)]))) : p := h
theorem wt_ {p : Prop} (h : p := by first | rfl | exact ⟨_, rfl⟩ | exact ⟨_, rfl, by first | assumption | exact Gr.nil | exact Gr.tok rfl (by omega) | exact Gr.tok (by simp -implicitDefEqProofs only [wM, Nat.reduceEqDiff, ↓reduceIte, reduceCtorEq] <;> rfl) (by omega) | exact Gr.clip⟩) : p := h
theorem wb_ {p : Prop} (h : False := by first | omega | exact bf h_ (by assumption) | exact bt h_ (by assumption) | (refine absurd ?_ h_; focus assumption) | (refine absurd h_ ?_; focus assumption)) : p := h.elim
theorem condQ_j {t : Bool} {A B : Prop} (h1 : t = true → t = true → A) (h2 : t = false → t = false → B) : condQ (.bool t) A B := ⟨fun h => h1 h h, fun h => h2 h h⟩
theorem wZZ : type_of% (And.intro wA (And.intro (@Int.cast_ofNat_Int) (And.intro (@decide_true) (And.intro (@decide_false) Bool.false_eq_true)))) := ⟨wA, @Int.cast_ofNat_Int, @decide_true, @decide_false, Bool.false_eq_true⟩
theorem s_ {p q : Prop} (h : q) (k : q → p := by with_reducible first | exact ewp_reg_seq | exact ewp_seq | exact ewp_reg | exact ewp_skip | exact ewp_ret | exact ewp_block | exact ewp_exit | exact xt_n | exact xt_r | exact xt_e | exact xb_n | exact xb_r | exact xb_e | exact xb_x (by decide) | exact ewp_condQ | exact condQ_T | exact condQ_F | exact L_gdQ | exact gdQ_TT | exact gdQ_FF | exact gdQ_TF | exact gdQ_FT | exact gdQ_u) : p := k h
end Go.E

namespace Go.E
open Go.RowKit Go.WideShapes Go.ChangeShapes Go.Deep
abbrev nolim : Nat → Option Nat := fun _ => none
structure BulkOk (B : (H : Type) → DataW H → Nat) : Prop where
 one : ∀ (H : Type) (d : DataW H), 1 ≤ B H d
 str : ∀ (H : Type) (s : List UInt8), s.length + 1 ≤ B H (.lit (.string s))
 slice : ∀ (H : Type) (x y : List (DataW H)), (x.map (B H)).sum + 1 ≤ B H (.slice x y)
 agg : ∀ (H : Type) (x : List (DataW H)), (x.map (B H)).sum + 1 ≤ B H (.agg x)
def RCs (w : World) (vs : List V) (cs : List Value) : Prop := cs.length = vs.length ∧ ∀ (i : Nat) v r, vs[i]? = some v → cs[i]? = some r → R noβ w nolim v r
def aggT (P : Program) (t : TypeId) : Bool := match P.underlying t with
 | some (.struct _) | some (.array _ _) => true
 | _ => false
structure ReadsN (N : Nat) (P : Program) (B : (H : Type) → DataW H → Nat) (t : TypeId) (Q : V → Nat → Prop) : Prop where
 shape : ∀ v n, Q v n → v.cells.length = P.cellsOf t ∧ (∀ c ∈ v.cells, c.scalar = true) ∧ v.isAgg = aggT P t
 rd : ∀ (H : Type) (enc : TypeId × Value → H) (w : World) (fuel : Nat) (cs : List Value) x, fuel ≤ N → DataW.trod enc P w 0 (fun _ => true) true fuel t cs = some x →
  ∃ v n, Q v n ∧ RCs w v.cells cs ∧ n ≤ B H x.1
def Img {α : Type} (enc : α → V) (sz : α → Nat) (ok : α → Prop) (v : V) (n : Nat) : Prop := ∃ a, ok a ∧ v = enc a ∧ n = sz a
theorem ReadsN.mono {N : Nat} {P : Program} {B : (H : Type) → DataW H → Nat} {t : TypeId} {Q Q' : V → Nat → Prop} (h : ReadsN N P B t Q) (hq : ∀ v n, Q v n → Q' v n)
 (hs : ∀ v n, Q' v n → v.cells.length = P.cellsOf t ∧ (∀ c ∈ v.cells, c.scalar = true) ∧ v.isAgg = aggT P t) : ReadsN N P B t Q' :=
 ⟨hs, fun H enc w fuel cs x hf hx => let ⟨v, n, h1, h2⟩ := h.rd H enc w fuel cs x hf hx; ⟨v, n, hq v n h1, h2⟩⟩
theorem RCs.one {w : World} {v : V} {r : Value} (h : R noβ w nolim v r) (hv : v.cells = [v]) : RCs w v.cells [r] := by
 rw [hv]
 refine ⟨rfl, fun i v' r' h1 h2 => ?_⟩
 cases i with
 | zero => simp at h1 h2; subst h1 h2; exact h
 | succ i => simp at h1
theorem reads_int {P : Program} {B : (H : Type) → DataW H → Nat} (hB : BulkOk B) {t : TypeId} {k : IntKind} (ht : P.underlying t = some (.int k)) (hc : P.cellsOf t = 1) (N : Nat) :
 ReadsN N P B t (Img (fun n : Int => .int k n) (fun _ => 1) (fun n => (Lit.int k n).wf = true)) := by
 refine ⟨fun v n ⟨a, _, hv, _⟩ => by subst hv; simp [V.cells, hc, V.scalar, V.isAgg, aggT, ht], fun H enc w fuel cs x _ hx => ?_⟩
 cases fuel with
 | zero => simp [DataW.trod] at hx
 | succ m =>
   unfold DataW.trod at hx
   rw [ht] at hx
   split at hx <;> simp_all
   obtain ⟨⟨rfl, hw⟩, rfl⟩ := hx
   exact ⟨_, _, ⟨_, hw, rfl, rfl⟩, RCs.one (.int _ _) rfl, hB.one _ _⟩
theorem choose_list {α : Type} {n : Nat} {q : Nat → α → Prop} (h : ∀ i, i < n → ∃ a, q i a) : ∃ l : List α, l.length = n ∧ ∀ i a, l[i]? = some a → q i a := by
 induction n with
 | zero => exact ⟨[], rfl, by simp⟩
 | succ n ih =>
   obtain ⟨l, hl, hq⟩ := ih fun i hi => h i (by omega)
   obtain ⟨a, ha⟩ := h n (by omega)
   refine ⟨l ++ [a], by simp [hl], fun i b hb => ?_⟩
   by_cases hi : i < n
   · rw [List.getElem?_append_left (by omega)] at hb; exact hq i b hb
   · have e : i = n := by have := (List.getElem?_eq_some_iff.1 hb).1; simp at this; omega
     subst e
     rw [List.getElem?_append_right (by omega), hl] at hb
     simp at hb; subst hb; exact ha
theorem sum_le_sum {α β : Type} {f : α → Nat} {g : β → Nat} : ∀ {l : List α} {m : List β}, l.length = m.length → (∀ (i : Nat) a b, l[i]? = some a → m[i]? = some b → f a ≤ g b) → (l.map f).sum ≤ (m.map g).sum
 | [], [], _, _ => Nat.le_refl _
 | a :: l, b :: m, hl, h => by
   have h1 := h 0 a b rfl rfl
   have h2 := sum_le_sum (l := l) (m := m) (by simpa using hl) (fun i x y hx hy => h (i + 1) x y (by simpa using hx) (by simpa using hy))
   simp only [List.map_cons, List.sum_cons]; omega
 | [], _ :: _, hl, _ => by simp at hl
 | _ :: _, [], hl, _ => by simp at hl
theorem post_below {H : Type} {enc : TypeId × Value → H} {P : Program} {f : Func} {s : ChangeSpec} {apart fresh handsOn again : Bool} {W W' : World} {args : Array Value} {v : Value} {ds gs : List (DataW H)} {before pa pv : List MemPlace}
 (hW : DataW.Whole enc P f.params.toList s.vars apart W args.toList ds gs before)
 (hres : ∀ (b : Nat) (sp : Nat → Bool) (hd : Bool), DataW.TrodAll enc P W' b sp hd f.resultTypes.toList (v.resultList f.resultTypes.size) (s.fn H (ds ++ gs)).results [])
 (hargs : ∀ sp : Nat → Bool, (∀ p ∈ before, sp p.block = true) → DataW.TrodAll enc P W' 0 sp true f.params.toList args.toList (s.fn H (ds ++ gs)).args pa)
 (hvars : ∀ sp : Nat → Bool, (∀ p ∈ before, sp p.block = true) → DataW.TrodVars enc P W' sp s.vars (s.fn H (ds ++ gs)).vars pv)
 (hps : before = pa ++ pv) (hb : Below W.heap.size W W')
 (hok : ∀ (j : Nat) (t : TypeId) (r : Value), f.resultTypes[j]? = some t → (v.resultList f.resultTypes.size)[j]? = some r → Value.okWide P W' .any 0 t r) :
 s.post enc P f apart fresh handsOn again W args v W' := by
 have hlt : ∀ p ∈ before, p.block < W.heap.size := fun p hp => hW.lt p hp
 have hold : ∀ p ∈ before, (fun b => decide (b < W.heap.size)) p.block = true := fun p hp => by simpa using hlt p hp
 refine ⟨ds, gs, before, [], pa, pv, hW, hres _ _ _, hargs _ hold, hvars _ hold, World.keptBut_mono (fun p hp => ⟨hp, ?_⟩) (hb.frame (· ∈ before)), fun _ => ?_⟩
 · rw [hps, List.mem_append] at hp
   exact Or.inr hp
 · obtain ⟨_, _, _, _, _, hz, hn⟩ := hW
   refine ⟨hok, _, _, ([] ++ pa) ++ pv, ⟨[] ++ pa, pv, trodAll_append (hargs _ (fun _ _ => rfl)) (hres _ _ _), hvars _ (fun _ _ => rfl), rfl, ?_, ?_⟩, ?_⟩
   · intro b off hp
     have hin : MemPlace.cell b off ∈ before := by rw [hps]; simpa using hp
     rw [hb.frozen (hlt _ hin)]
     exact hz b off hin
   · intro ha
     have := hn ha
     rw [hps] at this
     simpa using this
   · intro p hp _
     rw [hps]
     simpa using hp
theorem R_of_cells {P : Program} {W w : World} {base : Nat} {t : TypeId} {v : V} {r : Value} (hok : Value.okWide P W .any base t r) (ha : v.isAgg = aggT P t) (hs : ∀ c ∈ v.cells, c.scalar = true)
 (h : RCs w v.cells r.cells.toList) : R noβ w nolim v r := by
 by_cases hv : v.isAgg = true
 · rw [hv] at ha
   obtain ⟨cs, rfl⟩ : ∃ cs, v = .agg cs := by cases v <;> simp_all [V.isAgg]
   obtain ⟨rs, rfl⟩ : ∃ rs, r = .agg rs := by
    unfold aggT at ha
    unfold Value.okWide at hok
    split at ha
    · rename_i e; rw [e] at hok; obtain ⟨cs, h1, _⟩ := hok; exact ⟨cs, h1⟩
    · rename_i e; rw [e] at hok; obtain ⟨cs, h1, _⟩ := hok; exact ⟨cs, h1⟩
    · cases ha
   refine .agg cs rs (by simpa [V.cells, Value.cells] using h.1) hs fun i c r hc hr => h.2 i c r hc ?_
   simpa [Value.cells] using hr
 · have hv' : v.isAgg = false := by simpa using hv
   rw [hv'] at ha
   have hcv : v.cells = [v] := by cases v <;> simp_all [V.isAgg, V.cells]
   have hcr : r.cells = #[r] := by
    cases r with
    | agg rs =>
      exfalso
      unfold aggT at ha
      unfold Value.okWide at hok
      split at ha
      · cases ha
      · cases ha
      · rename_i h1 h2
        split at hok
        · rename_i e; exact h1 _ e
        · rename_i e; exact h2 _ _ e
        · unfold Cell.okWide at hok
          split at hok <;> simp_all [Cell.ok]
    | _ => rfl
   rw [hcv, hcr] at h
   exact h.2 0 v r rfl rfl
theorem law_contract {P : Program} [Glob P] {B : (H : Type) → DataW H → Nat} {bound : Nat} {f : FuncId} {fn : Func} {s : ChangeSpec} {tb : TypeId}
 (hvars : s.vars = []) (hspec : ∀ (H : Type) (ds : List (DataW H)), ds.length = fn.params.toList.length → s.fn H ds = { results := [.lit (.bool true)], args := ds })
 (hres : fn.resultTypes = #[tb]) (htb : P.underlying tb = some .bool)
 (K : Kids P (· < P.types.size)) (hz : ∀ t e, t < P.types.size → P.underlying t = some (.slice e) → 0 < P.cellsOf e) (hT : ∀ t ∈ fn.params.toList, t < P.types.size)
 (Qs : List (V → Nat → Prop)) (hQl : Qs.length = fn.params.toList.length)
 (hQ : ∀ (i : Nat) t Q, fn.params.toList[i]? = some t → Qs[i]? = some Q → ∀ N, ReadsN N P B t Q)
 (hp : ∀ ps : List (V × Nat), ps.length = Qs.length → (∀ (i : Nat) p Q, ps[i]? = some p → Qs[i]? = some Q → Q p.1 p.2) → (ps.map (·.2)).sum ≤ bound → Pure P f (ps.map (·.1)) (.bool true))
 (H : Type) (enc : TypeId × Value → H) (W : World) (base : Nat) (args : Array Value) (ds gs : List (DataW H)) (before : List MemPlace)
 (hval : ∀ (j : Nat) t v, fn.params[j]? = some t → args[j]? = some v → Value.okWide P W .any base t v)
 (hW : DataW.Whole enc P fn.params.toList s.vars false W args.toList ds gs before) (hk : (ds.map (B H)).sum ≤ bound) (hG : GOk P W nolim) :
 Calls P f args W fun e W' => ∃ v, e = .returned v ∧ s.post enc P fn false true false false W args v W' := by
 have hW' := hW
 obtain ⟨p, q, hA, hV, rfl, hfz, hnd⟩ := hW
 rw [hvars] at hV
 obtain ⟨rfl, rfl⟩ : gs = [] ∧ q = [] := by
  cases gs with
  | nil => exact ⟨rfl, hV⟩
  | cons g gs => exact hV.elim
 have hlen : ∀ {ts : List TypeId} {vs : List Value} {ds : List (DataW H)} {ps : List MemPlace}, DataW.TrodAll enc P W 0 (fun _ => true) true ts vs ds ps → vs.length = ts.length ∧ ds.length = ts.length ∧
  ∀ (i : Nat) t v, ts[i]? = some t → vs[i]? = some v → ∃ d pl, ds[i]? = some d ∧ DataW.Trod enc P W 0 (fun _ => true) true t v d pl := by
  intro ts
  induction ts with
  | nil => intro vs ds ps h; obtain ⟨rfl, rfl, rfl⟩ := trodAll_nil h; simp
  | cons t ts ih =>
    intro vs ds ps h
    obtain ⟨v, vs1, d, ds1, a, b, rfl, rfl, rfl, h1, h2⟩ := trodAll_cons h
    obtain ⟨i1, i2, i3⟩ := ih h2
    refine ⟨by simp [i1], by simp [i2], fun i t' v' ht hv => ?_⟩
    cases i with
    | zero => simp at ht hv; subst ht hv; exact ⟨d, a, rfl, h1⟩
    | succ i => simpa using i3 i t' v' (by simpa using ht) (by simpa using hv)
 obtain ⟨l1, l2, l3⟩ := hlen hA
 have hch : ∀ i, i < fn.params.toList.length → ∃ p : V × Nat, (∀ Q, Qs[i]? = some Q → Q p.1 p.2) ∧ (∀ v, args.toList[i]? = some v → R noβ W nolim p.1 v) ∧ (∀ d, ds[i]? = some d → p.2 ≤ B H d) := by
  intro i hi
  obtain ⟨t, ht⟩ : ∃ t, fn.params.toList[i]? = some t := ⟨_, List.getElem?_eq_getElem hi⟩
  obtain ⟨v, hv⟩ : ∃ v, args.toList[i]? = some v := ⟨_, List.getElem?_eq_getElem (by omega)⟩
  obtain ⟨Q, hQi⟩ : ∃ Q, Qs[i]? = some Q := ⟨_, List.getElem?_eq_getElem (by omega)⟩
  obtain ⟨d, pl, hd, fuel, htr⟩ := l3 i t v ht hv
  have hr := hQ i t Q ht hQi fuel
  obtain ⟨x, n, h1, h2, h3⟩ := hr.rd H enc W fuel _ _ (Nat.le_refl _) htr
  obtain ⟨_, s2, s3⟩ := hr.shape x n h1
  refine ⟨(x, n), fun Q' hQ' => by rw [hQi] at hQ'; cases hQ'; exact h1, fun v' hv' => ?_, fun d' hd' => by rw [hd] at hd'; cases hd'; exact h3⟩
  rw [hv] at hv'; cases hv'
  exact R_of_cells (hval i t v (by simpa using ht) (by simpa using hv)) s3 s2 h2
 obtain ⟨ps, hpl, hps⟩ := choose_list hch
 have hpure := hp ps (by omega) (fun i p Q h1 h2 => (hps i p h1).1 Q h2) (Nat.le_trans (sum_le_sum (by omega) fun i p d h1 h2 => (hps i p h1).2.2 d h2) hk)
 have hRs : Rs noβ W nolim (ps.map (·.1)) args := by
  refine ⟨by have := l1; simp at this ⊢; simp at hpl; omega, fun i v r hv hr => ?_⟩
  simp only [List.getElem?_map, Option.map_eq_some_iff] at hv
  obtain ⟨p, hpi, rfl⟩ := hv
  exact (hps i p hpi).2.1 r (by simpa using hr)
 refine (hpure.2 W nolim args hG hRs).mono fun e W' ⟨r, he, hb, hR⟩ => ?_
 obtain rfl : r = .bool true := by cases hR; rfl
 simp only [List.append_nil] at hW'
 have hle : ds.length = fn.params.toList.length := l2
 refine ⟨_, he, post_below (pa := p) (pv := []) hW' ?_ ?_ ?_ (by simp) hb (ok_one hres rfl (okWide_bool_mk htb _))⟩
 · intro b sp hd
   rw [hspec H _ (by simpa using hle), hres]
   exact ⟨[], [], ⟨1, by simp [DataW.trod, Value.cells, htb]⟩, rfl, rfl⟩
 · intro sp hsp
   rw [hspec H _ (by simpa using hle)]
   simp only [List.append_nil]
   have hA2 := DataW.TrodAll.respare (spare' := sp) K hz hT hA hsp
   have hlt := DataW.TrodAll.lt hA2
   have carry : ∀ {ts : List TypeId} {vs : List Value} {ds : List (DataW H)} {ps : List MemPlace}, DataW.TrodAll enc P W 0 sp true ts vs ds ps → (∀ p ∈ ps, p.block < W.heap.size) → DataW.TrodAll enc P W' 0 sp true ts vs ds ps := by
    intro ts
    induction ts with
    | nil => intro vs ds ps h _; obtain ⟨rfl, rfl, rfl⟩ := trodAll_nil h; rfl
    | cons t ts ih =>
      intro vs ds ps h hlt
      obtain ⟨v, vs1, d, ds1, a, b, rfl, rfl, rfl, ⟨n, h1⟩, h2⟩ := trodAll_cons h
      exact ⟨a, b, ⟨n, DataW.trod_carry n _ _ _ h1 fun p hp => hb.same (hlt p (List.mem_append_left _ hp))⟩, ih h2 (fun p hp => hlt p (List.mem_append_right _ hp)), rfl⟩
   exact carry hA2 hlt
 · intro sp hsp
   rw [hspec H _ (by simpa using hle), hvars]
   rfl
end Go.E
