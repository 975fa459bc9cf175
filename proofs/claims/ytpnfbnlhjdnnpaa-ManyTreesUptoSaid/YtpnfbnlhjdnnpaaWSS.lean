/- Part of a proof that a law of the given program answers true. -/
import Derived.Test.YtpnfbnlhjdnnpaaWRB
import Derived.Test.YtpnfbnlhjdnnpaaWEC
import Derived.Test.YtpnfbnlhjdnnpaaRows
import Derived.WalkKit
import Derived.ProofKit
import Derived.OpenShut
import Derived.JoinedCond
set_option linter.unusedSimpArgs false
set_option linter.unusedVariables false
namespace Go.Proofs.Ytpnfbnlhjdnnpaa.law
open Go.E Go.ChangeShapes Go.WideShapes Go.ChangeAt Go.RowKit
def B (H : Type) (d : DataW H) : Nat := Rows.uptoBulk d
theorem bulkAll {H : Type} (l : List (DataW H)) : Rows.uptoBulkAll l = (l.map (B H)).sum := by
 induction l with
 | nil => simp [Rows.uptoBulkAll]
 | cons x l ih => simp only [Rows.uptoBulkAll, ih, List.map_cons, List.sum_cons]; rfl
theorem bulkOk : BulkOk B where
 one := fun H d => by
  cases d with
  | lit l => cases l <;> simp [B, Rows.uptoBulk]
  | _ => simp [B, Rows.uptoBulk]
 str := fun H s => by simp [B, Rows.uptoBulk]
 slice := fun H x y => by
  show _ ≤ Rows.uptoBulk (.slice x y)
  simp only [Rows.uptoBulk, bulkAll]; omega
 agg := fun H x => by
  show _ ≤ Rows.uptoBulk (.agg x)
  simp only [Rows.uptoBulk, bulkAll]; omega
theorem small {H : Type} {l : List (DataW H)} (hk : Rows.uptoSmall H l = true) : (l.map (B H)).sum ≤ 1048576 := by
 have h : Rows.uptoBulkAll l ≤ 1048576 := of_decide_eq_true hk
 rwa [bulkAll] at h
theorem own : ownKnob Try.prog.godebug = none := by kernel_rfl
theorem kids : Kids Try.prog (· < Try.prog.types.size) := kids_rows (by kernel_rfl) (by kernel_rfl)
theorem slices : ∀ t e, t < Try.prog.types.size → Try.prog.underlying t = some (.slice e) → 0 < Try.prog.cellsOf e := slices_full_of Try.prog (by kernel_rfl)
theorem cells3 : Try.prog.cellsOf 3 = 1 := by kernel_rfl
theorem cells4 : Try.prog.cellsOf 4 = 1 := by kernel_rfl
theorem rInt (N : Nat) : ReadsN N Try.prog B 3 (Img (fun n : Int => .int .i64 n) (fun _ => 1) (fun n => (Lit.int .i64 n).wf = true)) := reads_int bulkOk Try.underlying3 cells3 N
theorem rBool (N : Nat) : ReadsN N Try.prog B 4 (Img (fun n : Bool => .bool n) (fun _ => 1) (fun _ => True)) := reads_bool bulkOk Try.underlying4 cells4 N
theorem cells27 : Try.prog.cellsOf 27 = 1 := by kernel_rfl
def szI (l : List Int) : Nat := (l.map fun _ => 1).sum + 1
theorem rInts (N : Nat) : ReadsN N Try.prog B 27 (Img (fun l : List Int => .sl 1 false (l.map (V.int .i64))) szI (fun l => ∀ n ∈ l, (Lit.int .i64 n).wf = true)) := by
 have h := reads_slice bulkOk Try.underlying27 cells27 (by rw [cells3]; omega) (rInt N)
 rw [cells3] at h
 exact h.le (by omega)
theorem szI_len (l : List Int) : szI l = l.length + 1 := by
 unfold szI
 induction l with
 | nil => rfl
 | cons a l ih => simp only [List.map_cons, List.sum_cons, List.length_cons] at ih ⊢; omega
theorem reads3 {t : TypeId} {fs : Array Field} (ht : Try.prog.underlying t = some (.struct fs)) (hl : fs.toList.length = 3)
 (hsum : Try.prog.cellsOf t = (fs.toList.map fun f => Try.prog.cellsOf f.type).sum) (ho : ∀ j, j < 4 → ∀ f ∈ fs.toList[j]?, f.offset = ((fs.toList.take j).map fun f => Try.prog.cellsOf f.type).sum)
 {N : Nat} {α β γ δ : Type} {f1 : α → V} {f2 : β → V} {f3 : γ → V} {s1 : α → Nat} {s2 : β → Nat} {s3 : γ → Nat} {p1 : α → Prop} {p2 : β → Prop} {p3 : γ → Prop}
 (h1 : ∀ f, fs.toList[0]? = some f → ReadsN N Try.prog B f.type (Img f1 s1 p1)) (h2 : ∀ f, fs.toList[1]? = some f → ReadsN N Try.prog B f.type (Img f2 s2 p2)) (h3 : ∀ f, fs.toList[2]? = some f → ReadsN N Try.prog B f.type (Img f3 s3 p3))
 (d1 : δ → α) (d2 : δ → β) (d3 : δ → γ) (mk : α → β → γ → δ) (hd : ∀ a b c, d1 (mk a b c) = a ∧ d2 (mk a b c) = b ∧ d3 (mk a b c) = c) (e : δ → V) (he : ∀ x, e x = .agg ((f1 (d1 x)).cells ++ ((f2 (d2 x)).cells ++ (f3 (d3 x)).cells))) :
 ReadsN (N + 1) Try.prog B t (Img e (fun x => s1 (d1 x) + s2 (d2 x) + s3 (d3 x) + 1) (fun x => p1 (d1 x) ∧ p2 (d2 x) ∧ p3 (d3 x))) := by
 have h := reads_struct (N := N) (Qs := [Img f1 s1 p1, Img f2 s2 p2, Img f3 s3 p3]) bulkOk ht hsum (fun j f hj => ho j (by have := (List.getElem?_eq_some_iff.1 hj).1; omega) f hj) (by rw [hl]; rfl) (by
  intro i f Q hf hQ
  match i, hf, hQ with
  | 0, hf, hQ => cases hQ; exact h1 f hf
  | 1, hf, hQ => cases hQ; exact h2 f hf
  | 2, hf, hQ => cases hQ; exact h3 f hf)
 refine ⟨fun v n ⟨x, hx, hv, hn⟩ => ?_, fun H enc w fuel cs x hf hx => ?_⟩
 · refine h.shape v n ⟨[(f1 (d1 x), s1 (d1 x)), (f2 (d2 x), s2 (d2 x)), (f3 (d3 x), s3 (d3 x))], rfl, fun i p Q hp hQ => ?_, by rw [hv, he]; simp, by rw [hn]; simp; omega⟩
   match i, hp, hQ with
   | 0, hp, hQ => cases hp; cases hQ; exact ⟨_, hx.1, rfl, rfl⟩
   | 1, hp, hQ => cases hp; cases hQ; exact ⟨_, hx.2.1, rfl, rfl⟩
   | 2, hp, hQ => cases hp; cases hQ; exact ⟨_, hx.2.2, rfl, rfl⟩
 · obtain ⟨v, n, ⟨ps, hl, hq, rfl, rfl⟩, h2, h3⟩ := h.rd H enc w fuel cs x hf hx
   match ps, hl with
   | [q0, q1, q2], _ =>
     obtain ⟨a, wa, e0, z0⟩ := hq 0 _ _ rfl rfl
     obtain ⟨b, wb, e1, z1⟩ := hq 1 _ _ rfl rfl
     obtain ⟨c, wc, e2, z2⟩ := hq 2 _ _ rfl rfl
     obtain ⟨k1, k2, k3⟩ := hd a b c
     refine ⟨e (mk a b c), _, ⟨mk a b c, by dsimp only; rw [k1, k2, k3]; exact ⟨wa, wb, wc⟩, rfl, rfl⟩, ?_, ?_⟩
     · rw [he, k1, k2, k3]
       simpa [e0, e1, e2, V.cells] using h2
     · simp only [k1, k2, k3]
       simp only [List.map_cons, List.map_nil, List.sum_cons, List.sum_nil, z0, z1, z2] at h3
       omega
theorem reads4 {t : TypeId} {fs : Array Field} (ht : Try.prog.underlying t = some (.struct fs)) (hl : fs.toList.length = 4)
 (hsum : Try.prog.cellsOf t = (fs.toList.map fun f => Try.prog.cellsOf f.type).sum) (ho : ∀ j, j < 4 → ∀ f ∈ fs.toList[j]?, f.offset = ((fs.toList.take j).map fun f => Try.prog.cellsOf f.type).sum)
 {N : Nat} {α β γ ε δ : Type} {f1 : α → V} {f2 : β → V} {f3 : γ → V} {f4 : ε → V} {s1 : α → Nat} {s2 : β → Nat} {s3 : γ → Nat} {s4 : ε → Nat} {p1 : α → Prop} {p2 : β → Prop} {p3 : γ → Prop} {p4 : ε → Prop}
 (h1 : ∀ f, fs.toList[0]? = some f → ReadsN N Try.prog B f.type (Img f1 s1 p1)) (h2 : ∀ f, fs.toList[1]? = some f → ReadsN N Try.prog B f.type (Img f2 s2 p2)) (h3 : ∀ f, fs.toList[2]? = some f → ReadsN N Try.prog B f.type (Img f3 s3 p3)) (h4 : ∀ f, fs.toList[3]? = some f → ReadsN N Try.prog B f.type (Img f4 s4 p4))
 (d1 : δ → α) (d2 : δ → β) (d3 : δ → γ) (d4 : δ → ε) (mk : α → β → γ → ε → δ) (hd : ∀ a b c d, d1 (mk a b c d) = a ∧ d2 (mk a b c d) = b ∧ d3 (mk a b c d) = c ∧ d4 (mk a b c d) = d) (e : δ → V) (he : ∀ x, e x = .agg ((f1 (d1 x)).cells ++ ((f2 (d2 x)).cells ++ ((f3 (d3 x)).cells ++ (f4 (d4 x)).cells)))) :
 ReadsN (N + 1) Try.prog B t (Img e (fun x => s1 (d1 x) + s2 (d2 x) + s3 (d3 x) + s4 (d4 x) + 1) (fun x => p1 (d1 x) ∧ p2 (d2 x) ∧ p3 (d3 x) ∧ p4 (d4 x))) := by
 have h := reads_struct (N := N) (Qs := [Img f1 s1 p1, Img f2 s2 p2, Img f3 s3 p3, Img f4 s4 p4]) bulkOk ht hsum (fun j f hj => ho j (by have := (List.getElem?_eq_some_iff.1 hj).1; omega) f hj) (by rw [hl]; rfl) (by
  intro i f Q hf hQ
  match i, hf, hQ with
  | 0, hf, hQ => cases hQ; exact h1 f hf
  | 1, hf, hQ => cases hQ; exact h2 f hf
  | 2, hf, hQ => cases hQ; exact h3 f hf
  | 3, hf, hQ => cases hQ; exact h4 f hf)
 refine ⟨fun v n ⟨x, hx, hv, hn⟩ => ?_, fun H enc w fuel cs x hf hx => ?_⟩
 · refine h.shape v n ⟨[(f1 (d1 x), s1 (d1 x)), (f2 (d2 x), s2 (d2 x)), (f3 (d3 x), s3 (d3 x)), (f4 (d4 x), s4 (d4 x))], rfl, fun i p Q hp hQ => ?_, by rw [hv, he]; simp, by rw [hn]; simp; omega⟩
   match i, hp, hQ with
   | 0, hp, hQ => cases hp; cases hQ; exact ⟨_, hx.1, rfl, rfl⟩
   | 1, hp, hQ => cases hp; cases hQ; exact ⟨_, hx.2.1, rfl, rfl⟩
   | 2, hp, hQ => cases hp; cases hQ; exact ⟨_, hx.2.2.1, rfl, rfl⟩
   | 3, hp, hQ => cases hp; cases hQ; exact ⟨_, hx.2.2.2, rfl, rfl⟩
 · obtain ⟨v, n, ⟨ps, hl, hq, rfl, rfl⟩, h2, h3⟩ := h.rd H enc w fuel cs x hf hx
   match ps, hl with
   | [q0, q1, q2, q3], _ =>
     obtain ⟨a, wa, e0, z0⟩ := hq 0 _ _ rfl rfl
     obtain ⟨b, wb, e1, z1⟩ := hq 1 _ _ rfl rfl
     obtain ⟨c, wc, e2, z2⟩ := hq 2 _ _ rfl rfl
     obtain ⟨d, wd, e3, z3⟩ := hq 3 _ _ rfl rfl
     obtain ⟨k1, k2, k3, k4⟩ := hd a b c d
     refine ⟨e (mk a b c d), _, ⟨mk a b c d, by dsimp only; rw [k1, k2, k3, k4]; exact ⟨wa, wb, wc, wd⟩, rfl, rfl⟩, ?_, ?_⟩
     · rw [he, k1, k2, k3, k4]
       simpa [e0, e1, e2, e3, V.cells] using h2
     · simp only [k1, k2, k3, k4]
       simp only [List.map_cons, List.map_nil, List.sum_cons, List.sum_nil, z0, z1, z2, z3] at h3
       omega
theorem rStr (N : Nat) : ReadsN N Try.prog B 9 (Img (fun s : List UInt8 => .str s) (fun s => s.length + 1) (fun _ => True)) := (reads_str bulkOk Try.underlying9 (by kernel_rfl) N).mono (fun _ _ ⟨a, _, h1, h2⟩ => ⟨a, trivial, h1, h2⟩) (fun v n ⟨a, _, h1, h2⟩ => by subst h1; exact ⟨by kernel_rfl, by simp [V.cells, V.scalar], by kernel_rfl⟩)
abbrev okI (n : Int) : Prop := (Lit.int .i64 n).wf = true
abbrev szSym (x : Sym) : Nat := (x.name.length + 1) + 1 + 1 + 1 + 1
abbrev okSym (x : Sym) : Prop := True ∧ True ∧ okI x.num ∧ okI x.at_
theorem rSym (N : Nat) : ReadsN (N + 1) Try.prog B 65 (Img Sym.V szSym okSym) :=
 reads4 (N := N) (t := 65) Try.underlying65 rfl (by kernel_rfl) (by decide +kernel) (fun f hf => by cases hf; exact rStr N) (fun f hf => by cases hf; exact rBool N) (fun f hf => by cases hf; exact rInt N) (fun f hf => by cases hf; exact rInt N) (fun x : Sym => x.name) (·.lit) (·.num) (·.at_) Sym.mk (fun _ _ _ _ => ⟨rfl, rfl, rfl, rfl⟩) Sym.V (fun _ => rfl)
abbrev szPart (x : Part) : Nat := szSym x.sym + (x.code.length + 1) + 1 + 1
abbrev okPart (x : Part) : Prop := okSym x.sym ∧ True ∧ okI x.at_
theorem rPart (N : Nat) : ReadsN (N + 1 + 1) Try.prog B 74 (Img Part.V szPart okPart) :=
 reads3 (N := N + 1) (t := 74) Try.underlying74 rfl (by kernel_rfl) (by decide +kernel) (fun f hf => by cases hf; exact rSym N) (fun f hf => by cases hf; exact rStr _) (fun f hf => by cases hf; exact rInt _) (fun x : Part => x.sym) (·.code) (·.at_) Part.mk (fun _ _ _ => ⟨rfl, rfl, rfl⟩) Part.V (fun _ => rfl)
abbrev szParts (l : List Part) : Nat := (l.map szPart).sum + 1
abbrev okParts (l : List Part) : Prop := ∀ a ∈ l, okPart a
theorem cells74 : Try.prog.cellsOf 74 = 6 := by kernel_rfl
theorem rParts (N : Nat) : ReadsN (N + 1 + 1 + 1) Try.prog B 70 (Img (fun l : List Part => .sl 6 false (l.map Part.V)) szParts okParts) := by
 have h := reads_slice bulkOk Try.underlying70 (by kernel_rfl) (by rw [cells74]; omega) (rPart N)
 rw [cells74] at h
 exact h
abbrev szAlt (x : Alt) : Nat := szParts x.parts + szSym x.prec + 1 + 1
abbrev okAlt (x : Alt) : Prop := okParts x.parts ∧ okSym x.prec ∧ okI x.at_
theorem rAlt (N : Nat) : ReadsN (N + 1 + 1 + 1 + 1) Try.prog B 72 (Img Alt.V szAlt okAlt) :=
 reads3 (N := N + 1 + 1 + 1) (t := 72) Try.underlying72 rfl (by kernel_rfl) (by decide +kernel) (fun f hf => by cases hf; exact rParts N) (fun f hf => by cases hf; exact rSym (N + 2)) (fun f hf => by cases hf; exact rInt _) (fun x : Alt => x.parts) (·.prec) (·.at_) Alt.mk (fun _ _ _ => ⟨rfl, rfl, rfl⟩) Alt.V (fun _ => rfl)
abbrev szAlts (l : List Alt) : Nat := (l.map szAlt).sum + 1
abbrev okAlts (l : List Alt) : Prop := ∀ a ∈ l, okAlt a
theorem cells72 : Try.prog.cellsOf 72 = 6 := by kernel_rfl
theorem rAlts (N : Nat) : ReadsN (N + 1 + 1 + 1 + 1 + 1) Try.prog B 67 (Img (fun l : List Alt => .sl 6 false (l.map Alt.V)) szAlts okAlts) := by
 have h := reads_slice bulkOk Try.underlying67 (by kernel_rfl) (by rw [cells72]; omega) (rAlt N)
 rw [cells72] at h
 exact h
abbrev szRule (x : Rule) : Nat := (x.left.length + 1) + szAlts x.alts + 1 + 1
abbrev okRule (x : Rule) : Prop := True ∧ okAlts x.alts ∧ okI x.at_
theorem rRule (N : Nat) : ReadsN (N + 1 + 1 + 1 + 1 + 1 + 1) Try.prog B 69 (Img Rule.V szRule okRule) :=
 reads3 (N := N + 1 + 1 + 1 + 1 + 1) (t := 69) Try.underlying69 rfl (by kernel_rfl) (by decide +kernel) (fun f hf => by cases hf; exact rStr _) (fun f hf => by cases hf; exact rAlts N) (fun f hf => by cases hf; exact rInt _) (fun x : Rule => x.left) (·.alts) (·.at_) Rule.mk (fun _ _ _ => ⟨rfl, rfl, rfl⟩) Rule.V (fun _ => rfl)
abbrev szRules (l : List Rule) : Nat := (l.map szRule).sum + 1
abbrev okRules (l : List Rule) : Prop := ∀ a ∈ l, okRule a
theorem cells69 : Try.prog.cellsOf 69 = 3 := by kernel_rfl
theorem rRules (N : Nat) : ReadsN (N + 1 + 1 + 1 + 1 + 1 + 1 + 1) Try.prog B 23 (Img (fun l : List Rule => .sl 3 false (l.map Rule.V)) szRules okRules) := by
 have h := reads_slice bulkOk Try.underlying23 (by kernel_rfl) (by rw [cells69]; omega) (rRule N)
 rw [cells69] at h
 exact h
abbrev szSyms (l : List Sym) : Nat := (l.map szSym).sum + 1
abbrev okSyms (l : List Sym) : Prop := ∀ a ∈ l, okSym a
theorem cells65 : Try.prog.cellsOf 65 = 4 := by kernel_rfl
theorem rSyms (N : Nat) : ReadsN (N + 1 + 1) Try.prog B 61 (Img (fun l : List Sym => .sl 4 false (l.map Sym.V)) szSyms okSyms) := by
 have h := reads_slice bulkOk Try.underlying61 (by kernel_rfl) (by rw [cells65]; omega) (rSym N)
 rw [cells65] at h
 exact h
abbrev szDecl (x : Decl) : Nat := 1 + (x.tag.length + 1) + szSyms x.syms + 1 + 1
abbrev okDecl (x : Decl) : Prop := okI x.kind ∧ True ∧ okSyms x.syms ∧ okI x.at_
theorem rDecl (N : Nat) : ReadsN (N + 1 + 1 + 1) Try.prog B 63 (Img Decl.V szDecl okDecl) :=
 reads4 (N := N + 1 + 1) (t := 63) Try.underlying63 rfl (by kernel_rfl) (by decide +kernel) (fun f hf => by cases hf; exact rInt _) (fun f hf => by cases hf; exact rStr _) (fun f hf => by cases hf; exact rSyms N) (fun f hf => by cases hf; exact rInt _) (fun x : Decl => x.kind) (·.tag) (·.syms) (·.at_) Decl.mk (fun _ _ _ _ => ⟨rfl, rfl, rfl, rfl⟩) Decl.V (fun _ => rfl)
abbrev szDecls (l : List Decl) : Nat := (l.map szDecl).sum + 1
abbrev okDecls (l : List Decl) : Prop := ∀ a ∈ l, okDecl a
theorem cells63 : Try.prog.cellsOf 63 = 4 := by kernel_rfl
theorem rDecls (N : Nat) : ReadsN (N + 1 + 1 + 1 + 1) Try.prog B 22 (Img (fun l : List Decl => .sl 4 false (l.map Decl.V)) szDecls okDecls) := by
 have h := reads_slice bulkOk Try.underlying22 (by kernel_rfl) (by rw [cells63]; omega) (rDecl N)
 rw [cells63] at h
 exact h
abbrev szSource (x : Source) : Nat := (x.pro.length + 1) + szDecls x.decls + szRules x.rules + (x.tail.length + 1) + 1
abbrev okSource (x : Source) : Prop := True ∧ okDecls x.decls ∧ okRules x.rules ∧ True
theorem rSource (N : Nat) : ReadsN (N + 1 + 1 + 1 + 1 + 1 + 1 + 1 + 1) Try.prog B 25 (Img Source.V szSource okSource) :=
 reads4 (N := N + 1 + 1 + 1 + 1 + 1 + 1 + 1) (t := 25) Try.underlying25 rfl (by kernel_rfl) (by decide +kernel) (fun f hf => by cases hf; exact rStr _) (fun f hf => by cases hf; exact rDecls (N + 3)) (fun f hf => by cases hf; exact rRules N) (fun f hf => by cases hf; exact rStr _) (fun x : Source => x.pro) (·.decls) (·.rules) (·.tail) Source.mk (fun _ _ _ _ => ⟨rfl, rfl, rfl, rfl⟩) Source.V (fun _ => rfl)
theorem sz_mem {α : Type} (sz : α → Nat) : ∀ {l : List α} {a : α}, a ∈ l → sz a ≤ (l.map sz).sum
 | b :: l, a, h => by
   rw [List.map_cons, List.sum_cons]
   rcases List.mem_cons.1 h with rfl | h
   · omega
   · have := sz_mem sz h; omega
theorem sz_len {α : Type} (sz : α → Nat) (h : ∀ a, 1 ≤ sz a) : ∀ l : List α, l.length ≤ (l.map sz).sum
 | [] => Nat.zero_le _
 | a :: l => by have := sz_len sz h l; have := h a; rw [List.map_cons, List.sum_cons, List.length_cons]; omega
theorem srcFits {x : Source} (h : szSource x ≤ 1048576) : x.Fits := by
 have l1 := sz_len szDecl (fun _ => by unfold szDecl; omega) x.decls
 have l2 := sz_len szRule (fun _ => by unfold szRule; omega) x.rules
 unfold szSource szDecls szRules at h
 refine ⟨by omega, by omega, by omega, fun d hd => ?_, by omega, fun r hr => ?_⟩
 · have m := sz_mem szDecl hd
   unfold szDecl szSyms at m
   have l3 := sz_len szSym (fun _ => by unfold szSym; omega) d.syms
   unfold szDecl szSyms at h
   refine ⟨by omega, by omega, fun y hy => ?_⟩
   have m2 := sz_mem szSym hy
   unfold szSym at *
   omega
 · have m := sz_mem szRule hr
   have l3 := sz_len szAlt (fun _ => by unfold szAlt; omega) r.alts
   have m' : r.left.length + 1 + szAlts r.alts + 1 + 1 ≤ (x.rules.map szRule).sum := m
   unfold szAlts at m'
   refine ⟨by omega, by omega, fun a ha => ?_⟩
   have n := sz_mem szAlt ha
   have l4 := sz_len szPart (fun _ => by unfold szPart; omega) a.parts
   have n' : szParts a.parts + szSym a.prec + 1 + 1 ≤ (r.alts.map szAlt).sum := n
   unfold szParts szSym at n'
   refine ⟨by omega, fun w hw => ?_, by omega⟩
   have q := sz_mem szPart hw
   have q' : szSym w.sym + (w.code.length + 1) + 1 + 1 ≤ (a.parts.map szPart).sum := q
   unfold szSym at q'
   exact ⟨by omega, by omega⟩
theorem globOk (W : World) : Go.E.GOk Try.prog W nolim := fun g => .iptr 0 (.agg []) 0 g 0 (fun _ => Go.undef) (fun j hj => absurd hj (Nat.not_lt_zero _)) rfl (by simp [V.cells]) (by simp [V.cells])
end Go.Proofs.Ytpnfbnlhjdnnpaa.law
