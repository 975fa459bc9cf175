/- Part of a proof that a law of the given program answers true. -/
import Derived.Test.YthgkeppkcjcmjaaCRA
import Derived.Test.YthgkeppkcjcmjaaCEC
import Derived.Test.YthgkeppkcjcmjaaRows
import Derived.WalkKit
import Derived.ProofKit
import Derived.OpenShut
import Derived.JoinedCond
set_option linter.unusedSimpArgs false
set_option linter.unusedVariables false
namespace Go.Proofs.Ythgkeppkcjcmjaa.law
open Go.E Go.ChangeShapes Go.WideShapes Go.ChangeAt Go.RowKit
def B (H : Type) (d : DataW H) : Nat := Rows.uptoBulk d
theorem qab {H : Type} (l : List (DataW H)) : Rows.uptoBulkAll l = (l.map (B H)).sum := by
 induction l with
 | nil => simp [Rows.uptoBulkAll]
 | cons x l ih => simp only [Rows.uptoBulkAll, ih, List.map_cons, List.sum_cons]; rfl
theorem xU : BulkOk B where
 one := fun H d => by
  cases d with
  | lit l => cases l <;> simp [B, Rows.uptoBulk]
  | _ => simp [B, Rows.uptoBulk]
 str := fun H s => by simp [B, Rows.uptoBulk]
 slice := fun H x y => by
  show _ ≤ Rows.uptoBulk (.slice x y)
  simp only [Rows.uptoBulk, qab]; omega
 agg := fun H x => by
  show _ ≤ Rows.uptoBulk (.agg x)
  simp only [Rows.uptoBulk, qab]; omega
theorem small {H : Type} {l : List (DataW H)} (hk : Rows.uptoSmall H l = true) : (l.map (B H)).sum ≤ 1048576 := by
 have h : Rows.uptoBulkAll l ≤ 1048576 := of_decide_eq_true hk
 rwa [qab] at h
theorem own : ownKnob Try.prog.godebug = none := by kernel_rfl
theorem kids : Kids Try.prog (· < Try.prog.types.size) := kids_rows (by kernel_rfl) (by kernel_rfl)
theorem slices : ∀ t e, t < Try.prog.types.size → Try.prog.underlying t = some (.slice e) → 0 < Try.prog.cellsOf e := slices_full_of Try.prog (by kernel_rfl)
theorem cells3 : Try.prog.cellsOf 3 = 1 := by kernel_rfl
theorem qyR : Try.prog.cellsOf 4 = 1 := by kernel_rfl
theorem qfN (N : Nat) : ReadsN N Try.prog B 3 (Img (fun n : Int => .int .i64 n) (fun _ => 1) (fun n => (Lit.int .i64 n).wf = true)) := qcA xU Try.underlying3 cells3 N
theorem qBy (N : Nat) : ReadsN N Try.prog B 4 (Img (fun n : Bool => .bool n) (fun _ => 1) (fun _ => True)) := qbJ xU Try.underlying4 qyR N
theorem Qd : Try.prog.cellsOf 27 = 1 := by kernel_rfl
theorem Y2 : Try.prog.cellsOf 26 = 1 := by kernel_rfl
def szI (l : List Int) : Nat := (l.map fun _ => 1).sum + 1
theorem qnf (N : Nat) : ReadsN N Try.prog B 27 (Img (fun l : List Int => .sl 1 false (l.map (V.int .i64))) szI (fun l => ∀ n ∈ l, (Lit.int .i64 n).wf = true)) := by
 have h := zS xU Try.underlying27 Qd (by rw [cells3]; omega) (qfN N)
 rw [cells3] at h
 exact h.le (by omega)
theorem qzs (N : Nat) : ReadsN N Try.prog B 26 (Img (fun l : List (List Int) => .sl 1 false (l.map fun l => .sl 1 false (l.map (V.int .i64)))) (fun l => (l.map szI).sum + 1) (fun l => ∀ a ∈ l, ∀ n ∈ a, (Lit.int .i64 n).wf = true)) := by
 have h := zS xU Try.underlying26 (by kernel_rfl) (by rw [Qd]; omega) (qnf N)
 rw [Qd] at h
 exact h.le (by omega)
def szG (x : GrI) : Nat := ((x.rules.map szI).sum + 1) + szI x.levels + szI x.inner
theorem rGr (N : Nat) : ReadsN N Try.prog B 29 (Img (fun x : GrI => x.V) szG (fun _ => True)) := by
 have h := vz (N := N) (Qs := [Img (fun n : Int => .int .i64 n) (fun _ => 1) (fun n => (Lit.int .i64 n).wf = true), Img (fun l : List (List Int) => .sl 1 false (l.map fun l => .sl 1 false (l.map (V.int .i64)))) (fun l => (l.map szI).sum + 1) (fun l => ∀ a ∈ l, ∀ n ∈ a, (Lit.int .i64 n).wf = true), Img (fun l : List Int => .sl 1 false (l.map (V.int .i64))) szI (fun l => ∀ n ∈ l, (Lit.int .i64 n).wf = true), Img (fun l : List Int => .sl 1 false (l.map (V.int .i64))) szI (fun l => ∀ n ∈ l, (Lit.int .i64 n).wf = true), Img (fun n : Bool => .bool n) (fun _ => 1) (fun _ => True)]) xU Try.underlying29 (by kernel_rfl) (by
  intro j f hf
  match j, hf with
  | 0, hf => cases hf; rfl
  | 1, hf => cases hf; simp [cells3, Y2, Qd]
  | 2, hf => cases hf; simp [cells3, Y2, Qd]
  | 3, hf => cases hf; simp [cells3, Y2, Qd]
  | 4, hf => cases hf; simp [cells3, Y2, Qd]) rfl (by
  intro i f Q hf hQ
  match i, hf, hQ with
  | 0, hf, hQ => cases hf; cases hQ; exact qfN N
  | 1, hf, hQ => cases hf; cases hQ; exact qzs N
  | 2, hf, hQ => cases hf; cases hQ; exact qnf N
  | 3, hf, hQ => cases hf; cases hQ; exact qnf N
  | 4, hf, hQ => cases hf; cases hQ; exact qBy N)
 have hc : Try.prog.cellsOf 29 = 5 := by kernel_rfl
 refine ⟨?_, fun H enc w fuel cs x hf hx => ?_⟩
 · rintro v n ⟨x, _, rfl, rfl⟩
   refine ⟨by rw [hc]; rfl, ?_, by simp [V.isAgg, qcY, Try.underlying29]⟩
   intro c hcm
   simp only [V.cells, List.mem_cons, List.not_mem_nil, or_false] at hcm
   rcases hcm with rfl | rfl | rfl | rfl | rfl <;> rfl
 · obtain ⟨v, n, ⟨ps, hl, hq, rfl, rfl⟩, h2, h3⟩ := h.rd H enc w fuel cs x (by omega) hx
   match ps, hl with
   | [p0, p1, p2, p3, p4], _ =>
     obtain ⟨a0, -, e0, s0⟩ := hq 0 _ _ rfl rfl
     obtain ⟨a1, -, e1, s1⟩ := hq 1 _ _ rfl rfl
     obtain ⟨a2, -, e2, s2⟩ := hq 2 _ _ rfl rfl
     obtain ⟨a3, -, e3, s3⟩ := hq 3 _ _ rfl rfl
     obtain ⟨a4, -, e4, s4⟩ := hq 4 _ _ rfl rfl
     refine ⟨(GrI.mk a0 a1 a2 a3 a4).V, _, ⟨GrI.mk a0 a1 a2 a3 a4, trivial, rfl, rfl⟩, ?_, ?_⟩
     · simp only [List.map_cons, List.map_nil, List.flatMap_cons, List.flatMap_nil, e0, e1, e2, e3, e4] at h2
       exact h2
     · simp only [List.map_cons, List.map_nil, List.sum_cons, List.sum_nil, s0, s1, s2, s3, s4] at h3
       simp only [szG]
       omega
theorem qaA (l : List Int) : szI l = l.length + 1 := by
 unfold szI
 induction l with
 | nil => rfl
 | cons a l ih => simp only [List.map_cons, List.sum_cons, List.length_cons] at ih ⊢; omega
theorem qar : ∀ {L : List (List Int)} {l : List Int}, l ∈ L → l.length + L.length ≤ (L.map szI).sum
 | a :: L, l, h => by
   have hs : ∀ L : List (List Int), L.length ≤ (L.map szI).sum := fun L => by
    induction L with
    | nil => simp
    | cons a L ih => simp only [List.map_cons, List.sum_cons, List.length_cons, qaA]; omega
   simp only [List.map_cons, List.sum_cons, List.length_cons, qaA]
   rcases List.mem_cons.1 h with rfl | h
   · have := hs L; omega
   · have := qar h; omega
theorem qj8 {x : GrI} (h : szG x ≤ 1048576) : x.rules.length ≤ 1099511627776 ∧ (∀ l ∈ x.rules, l.length ≤ 1099511627776) ∧ x.inner.length ≤ 1099511627776 ∧ x.levels.length ≤ 1099511627776 := by
 simp only [szG, qaA] at h
 refine ⟨?_, fun l hl => by have := qar hl; omega, by omega, by omega⟩
 cases hx : x.rules with
 | nil => simp
 | cons a L => have := qar (L := x.rules) (l := a) (by simp [hx]); rw [hx] at this h; simp only [List.length_cons] at this ⊢; omega
theorem qcE {t : TypeId} {fs : Array Field} (ht : Try.prog.underlying t = some (.struct fs)) (hl : fs.toList.length = 3)
 (hsum : Try.prog.cellsOf t = (fs.toList.map fun f => Try.prog.cellsOf f.type).sum) (ho : ∀ j, j < 4 → ∀ f ∈ fs.toList[j]?, f.offset = ((fs.toList.take j).map fun f => Try.prog.cellsOf f.type).sum)
 {N : Nat} {α β γ δ : Type} {f1 : α → V} {f2 : β → V} {f3 : γ → V} {s1 : α → Nat} {s2 : β → Nat} {s3 : γ → Nat} {p1 : α → Prop} {p2 : β → Prop} {p3 : γ → Prop}
 (h1 : ∀ f, fs.toList[0]? = some f → ReadsN N Try.prog B f.type (Img f1 s1 p1)) (h2 : ∀ f, fs.toList[1]? = some f → ReadsN N Try.prog B f.type (Img f2 s2 p2)) (h3 : ∀ f, fs.toList[2]? = some f → ReadsN N Try.prog B f.type (Img f3 s3 p3))
 (d1 : δ → α) (d2 : δ → β) (d3 : δ → γ) (mk : α → β → γ → δ) (hd : ∀ a b c, d1 (mk a b c) = a ∧ d2 (mk a b c) = b ∧ d3 (mk a b c) = c) (e : δ → V) (he : ∀ x, e x = .agg ((f1 (d1 x)).cells ++ ((f2 (d2 x)).cells ++ (f3 (d3 x)).cells))) :
 ReadsN (N + 1) Try.prog B t (Img e (fun x => s1 (d1 x) + s2 (d2 x) + s3 (d3 x) + 1) (fun x => p1 (d1 x) ∧ p2 (d2 x) ∧ p3 (d3 x))) := by
 have h := vz (N := N) (Qs := [Img f1 s1 p1, Img f2 s2 p2, Img f3 s3 p3]) xU ht hsum (fun j f hj => ho j (by have := (List.getElem?_eq_some_iff.1 hj).1; omega) f hj) (by rw [hl]; rfl) (by
  intro i f Q hf hQ
  match i, hf, hQ with
  | 0, hf, hQ => cases hQ; exact h1 f hf
  | 1, hf, hQ => cases hQ; exact h2 f hf
  | 2, hf, hQ => cases hQ; exact h3 f hf)
 refine ⟨fun v n ⟨x, hx, hv, hn⟩ => ?_, fun H enc w fuel cs x hf hx => ?_⟩
 · refine h.shape v n ⟨[(f1 (d1 x), s1 (d1 x)), (f2 (d2 x), s2 (d2 x)), (f3 (d3 x), s3 (d3 x))], rfl, fun i p Q hp hQ => ?_, by rw [hv, he]; simp, by rw [hn]; simp; omega⟩
   match i, hp, hQ with
   | 0, hp, hQ => cases hp; cases hQ; exact ⟨_, hx.1, rfl, rfl⟩
   | 1, hp, hQ => cases hp; cases hQ; exact ⟨_, hx.2.1, rfl, rfl⟩
   | 2, hp, hQ => cases hp; cases hQ; exact ⟨_, hx.2.2, rfl, rfl⟩
 · obtain ⟨v, n, ⟨ps, hl, hq, rfl, rfl⟩, h2, h3⟩ := h.rd H enc w fuel cs x hf hx
   match ps, hl with
   | [q0, q1, q2], _ =>
     obtain ⟨a, wa, e0, z0⟩ := hq 0 _ _ rfl rfl
     obtain ⟨b, wb, e1, z1⟩ := hq 1 _ _ rfl rfl
     obtain ⟨c, wc, e2, z2⟩ := hq 2 _ _ rfl rfl
     obtain ⟨k1, k2, k3⟩ := hd a b c
     refine ⟨e (mk a b c), _, ⟨mk a b c, by dsimp only; rw [k1, k2, k3]; exact ⟨wa, wb, wc⟩, rfl, rfl⟩, ?_, ?_⟩
     · rw [he, k1, k2, k3]
       simpa [e0, e1, e2, V.cells] using h2
     · simp only [k1, k2, k3]
       simp only [List.map_cons, List.map_nil, List.sum_cons, List.sum_nil, z0, z1, z2] at h3
       omega
theorem qdO {t : TypeId} {fs : Array Field} (ht : Try.prog.underlying t = some (.struct fs)) (hl : fs.toList.length = 4)
 (hsum : Try.prog.cellsOf t = (fs.toList.map fun f => Try.prog.cellsOf f.type).sum) (ho : ∀ j, j < 4 → ∀ f ∈ fs.toList[j]?, f.offset = ((fs.toList.take j).map fun f => Try.prog.cellsOf f.type).sum)
 {N : Nat} {α β γ ε δ : Type} {f1 : α → V} {f2 : β → V} {f3 : γ → V} {f4 : ε → V} {s1 : α → Nat} {s2 : β → Nat} {s3 : γ → Nat} {s4 : ε → Nat} {p1 : α → Prop} {p2 : β → Prop} {p3 : γ → Prop} {p4 : ε → Prop}
 (h1 : ∀ f, fs.toList[0]? = some f → ReadsN N Try.prog B f.type (Img f1 s1 p1)) (h2 : ∀ f, fs.toList[1]? = some f → ReadsN N Try.prog B f.type (Img f2 s2 p2)) (h3 : ∀ f, fs.toList[2]? = some f → ReadsN N Try.prog B f.type (Img f3 s3 p3)) (h4 : ∀ f, fs.toList[3]? = some f → ReadsN N Try.prog B f.type (Img f4 s4 p4))
 (d1 : δ → α) (d2 : δ → β) (d3 : δ → γ) (d4 : δ → ε) (mk : α → β → γ → ε → δ) (hd : ∀ a b c d, d1 (mk a b c d) = a ∧ d2 (mk a b c d) = b ∧ d3 (mk a b c d) = c ∧ d4 (mk a b c d) = d) (e : δ → V) (he : ∀ x, e x = .agg ((f1 (d1 x)).cells ++ ((f2 (d2 x)).cells ++ ((f3 (d3 x)).cells ++ (f4 (d4 x)).cells)))) :
 ReadsN (N + 1) Try.prog B t (Img e (fun x => s1 (d1 x) + s2 (d2 x) + s3 (d3 x) + s4 (d4 x) + 1) (fun x => p1 (d1 x) ∧ p2 (d2 x) ∧ p3 (d3 x) ∧ p4 (d4 x))) := by
 have h := vz (N := N) (Qs := [Img f1 s1 p1, Img f2 s2 p2, Img f3 s3 p3, Img f4 s4 p4]) xU ht hsum (fun j f hj => ho j (by have := (List.getElem?_eq_some_iff.1 hj).1; omega) f hj) (by rw [hl]; rfl) (by
  intro i f Q hf hQ
  match i, hf, hQ with
  | 0, hf, hQ => cases hQ; exact h1 f hf
  | 1, hf, hQ => cases hQ; exact h2 f hf
  | 2, hf, hQ => cases hQ; exact h3 f hf
  | 3, hf, hQ => cases hQ; exact h4 f hf)
 refine ⟨fun v n ⟨x, hx, hv, hn⟩ => ?_, fun H enc w fuel cs x hf hx => ?_⟩
 · refine h.shape v n ⟨[(f1 (d1 x), s1 (d1 x)), (f2 (d2 x), s2 (d2 x)), (f3 (d3 x), s3 (d3 x)), (f4 (d4 x), s4 (d4 x))], rfl, fun i p Q hp hQ => ?_, by rw [hv, he]; simp, by rw [hn]; simp; omega⟩
   match i, hp, hQ with
   | 0, hp, hQ => cases hp; cases hQ; exact ⟨_, hx.1, rfl, rfl⟩
   | 1, hp, hQ => cases hp; cases hQ; exact ⟨_, hx.2.1, rfl, rfl⟩
   | 2, hp, hQ => cases hp; cases hQ; exact ⟨_, hx.2.2.1, rfl, rfl⟩
   | 3, hp, hQ => cases hp; cases hQ; exact ⟨_, hx.2.2.2, rfl, rfl⟩
 · obtain ⟨v, n, ⟨ps, hl, hq, rfl, rfl⟩, h2, h3⟩ := h.rd H enc w fuel cs x hf hx
   match ps, hl with
   | [q0, q1, q2, q3], _ =>
     obtain ⟨a, wa, e0, z0⟩ := hq 0 _ _ rfl rfl
     obtain ⟨b, wb, e1, z1⟩ := hq 1 _ _ rfl rfl
     obtain ⟨c, wc, e2, z2⟩ := hq 2 _ _ rfl rfl
     obtain ⟨d, wd, e3, z3⟩ := hq 3 _ _ rfl rfl
     obtain ⟨k1, k2, k3, k4⟩ := hd a b c d
     refine ⟨e (mk a b c d), _, ⟨mk a b c d, by dsimp only; rw [k1, k2, k3, k4]; exact ⟨wa, wb, wc, wd⟩, rfl, rfl⟩, ?_, ?_⟩
     · rw [he, k1, k2, k3, k4]
       simpa [e0, e1, e2, e3, V.cells] using h2
     · simp only [k1, k2, k3, k4]
       simp only [List.map_cons, List.map_nil, List.sum_cons, List.sum_nil, z0, z1, z2, z3] at h3
       omega
theorem qoY (N : Nat) : ReadsN N Try.prog B 9 (Img (fun s : List UInt8 => .str s) (fun s => s.length + 1) (fun _ => True)) := (qdU xU Try.underlying9 (by kernel_rfl) N).mono (fun _ _ ⟨a, _, h1, h2⟩ => ⟨a, trivial, h1, h2⟩) (fun v n ⟨a, _, h1, h2⟩ => by subst h1; exact ⟨by kernel_rfl, by simp [V.cells, V.scalar], by kernel_rfl⟩)
abbrev okI (n : Int) : Prop := (Lit.int .i64 n).wf = true
abbrev Ji (x : Sym) : Nat := (x.name.length + 1) + 1 + 1 + 1 + 1
abbrev qeW (x : Sym) : Prop := True ∧ True ∧ okI x.num ∧ okI x.at_
theorem qJ5 (N : Nat) : ReadsN (N + 1) Try.prog B 88 (Img Sym.V Ji qeW) :=
 qdO (N := N) (t := 88) Try.underlying88 rfl (by kernel_rfl) (by decide +kernel) (fun f hf => by cases hf; exact qoY N) (fun f hf => by cases hf; exact qBy N) (fun f hf => by cases hf; exact qfN N) (fun f hf => by cases hf; exact qfN N) (fun x : Sym => x.name) (·.lit) (·.num) (·.at_) Sym.mk (fun _ _ _ _ => ⟨rfl, rfl, rfl, rfl⟩) Sym.V (fun _ => rfl)
abbrev YB (x : Part) : Nat := Ji x.sym + (x.code.length + 1) + 1 + 1
abbrev qhw (x : Part) : Prop := qeW x.sym ∧ True ∧ okI x.at_
theorem qH5 (N : Nat) : ReadsN (N + 1 + 1) Try.prog B 90 (Img Part.V YB qhw) :=
 qcE (N := N + 1) (t := 90) Try.underlying90 rfl (by kernel_rfl) (by decide +kernel) (fun f hf => by cases hf; exact qJ5 N) (fun f hf => by cases hf; exact qoY _) (fun f hf => by cases hf; exact qfN _) (fun x : Part => x.sym) (·.code) (·.at_) Part.mk (fun _ _ _ => ⟨rfl, rfl, rfl⟩) Part.V (fun _ => rfl)
abbrev Y4 (l : List Part) : Nat := (l.map YB).sum + 1
abbrev qc9 (l : List Part) : Prop := ∀ a ∈ l, qhw a
theorem qdC : Try.prog.cellsOf 90 = 6 := by kernel_rfl
theorem qE1 (N : Nat) : ReadsN (N + 1 + 1 + 1) Try.prog B 91 (Img (fun l : List Part => .sl 6 false (l.map Part.V)) Y4 qc9) := by
 have h := zS xU Try.underlying91 (by kernel_rfl) (by rw [qdC]; omega) (qH5 N)
 rw [qdC] at h
 exact h
abbrev qbP (x : Alt) : Nat := Y4 x.parts + Ji x.prec + 1 + 1
abbrev qwY (x : Alt) : Prop := qc9 x.parts ∧ qeW x.prec ∧ okI x.at_
theorem qL2 (N : Nat) : ReadsN (N + 1 + 1 + 1 + 1) Try.prog B 93 (Img Alt.V qbP qwY) :=
 qcE (N := N + 1 + 1 + 1) (t := 93) Try.underlying93 rfl (by kernel_rfl) (by decide +kernel) (fun f hf => by cases hf; exact qE1 N) (fun f hf => by cases hf; exact qJ5 (N + 2)) (fun f hf => by cases hf; exact qfN _) (fun x : Alt => x.parts) (·.prec) (·.at_) Alt.mk (fun _ _ _ => ⟨rfl, rfl, rfl⟩) Alt.V (fun _ => rfl)
abbrev qaW (l : List Alt) : Nat := (l.map qbP).sum + 1
abbrev qhD (l : List Alt) : Prop := ∀ a ∈ l, qwY a
theorem qeB : Try.prog.cellsOf 93 = 6 := by kernel_rfl
theorem qJS (N : Nat) : ReadsN (N + 1 + 1 + 1 + 1 + 1) Try.prog B 94 (Img (fun l : List Alt => .sl 6 false (l.map Alt.V)) qaW qhD) := by
 have h := zS xU Try.underlying94 (by kernel_rfl) (by rw [qeB]; omega) (qL2 N)
 rw [qeB] at h
 exact h
abbrev Ym (x : Rule) : Nat := (x.left.length + 1) + qaW x.alts + 1 + 1
abbrev qhC (x : Rule) : Prop := True ∧ qhD x.alts ∧ okI x.at_
theorem qI7 (N : Nat) : ReadsN (N + 1 + 1 + 1 + 1 + 1 + 1) Try.prog B 96 (Img Rule.V Ym qhC) :=
 qcE (N := N + 1 + 1 + 1 + 1 + 1) (t := 96) Try.underlying96 rfl (by kernel_rfl) (by decide +kernel) (fun f hf => by cases hf; exact qoY _) (fun f hf => by cases hf; exact qJS N) (fun f hf => by cases hf; exact qfN _) (fun x : Rule => x.left) (·.alts) (·.at_) Rule.mk (fun _ _ _ => ⟨rfl, rfl, rfl⟩) Rule.V (fun _ => rfl)
abbrev KY (l : List Rule) : Nat := (l.map Ym).sum + 1
abbrev qee (l : List Rule) : Prop := ∀ a ∈ l, qhC a
theorem qcy : Try.prog.cellsOf 96 = 3 := by kernel_rfl
theorem qEO (N : Nat) : ReadsN (N + 1 + 1 + 1 + 1 + 1 + 1 + 1) Try.prog B 23 (Img (fun l : List Rule => .sl 3 false (l.map Rule.V)) KY qee) := by
 have h := zS xU Try.underlying23 (by kernel_rfl) (by rw [qcy]; omega) (qI7 N)
 rw [qcy] at h
 exact h
abbrev qbj (l : List Sym) : Nat := (l.map Ji).sum + 1
abbrev qhk (l : List Sym) : Prop := ∀ a ∈ l, qeW a
theorem qdz : Try.prog.cellsOf 88 = 4 := by kernel_rfl
theorem qJR (N : Nat) : ReadsN (N + 1 + 1) Try.prog B 98 (Img (fun l : List Sym => .sl 4 false (l.map Sym.V)) qbj qhk) := by
 have h := zS xU Try.underlying98 (by kernel_rfl) (by rw [qdz]; omega) (qJ5 N)
 rw [qdz] at h
 exact h
abbrev JG (x : Decl) : Nat := 1 + (x.tag.length + 1) + qbj x.syms + 1 + 1
abbrev qgm (x : Decl) : Prop := okI x.kind ∧ True ∧ qhk x.syms ∧ okI x.at_
theorem qIG (N : Nat) : ReadsN (N + 1 + 1 + 1) Try.prog B 100 (Img Decl.V JG qgm) :=
 qdO (N := N + 1 + 1) (t := 100) Try.underlying100 rfl (by kernel_rfl) (by decide +kernel) (fun f hf => by cases hf; exact qfN _) (fun f hf => by cases hf; exact qoY _) (fun f hf => by cases hf; exact qJR N) (fun f hf => by cases hf; exact qfN _) (fun x : Decl => x.kind) (·.tag) (·.syms) (·.at_) Decl.mk (fun _ _ _ _ => ⟨rfl, rfl, rfl, rfl⟩) Decl.V (fun _ => rfl)
abbrev qas (l : List Decl) : Nat := (l.map JG).sum + 1
abbrev qdZ (l : List Decl) : Prop := ∀ a ∈ l, qgm a
theorem qbq : Try.prog.cellsOf 100 = 4 := by kernel_rfl
theorem qBH (N : Nat) : ReadsN (N + 1 + 1 + 1 + 1) Try.prog B 22 (Img (fun l : List Decl => .sl 4 false (l.map Decl.V)) qas qdZ) := by
 have h := zS xU Try.underlying22 (by kernel_rfl) (by rw [qbq]; omega) (qIG N)
 rw [qbq] at h
 exact h
abbrev QD (x : Source) : Nat := (x.pro.length + 1) + qas x.decls + KY x.rules + (x.tail.length + 1) + 1
abbrev Vm (x : Source) : Prop := True ∧ qdZ x.decls ∧ qee x.rules ∧ True
theorem qlf (N : Nat) : ReadsN (N + 1 + 1 + 1 + 1 + 1 + 1 + 1 + 1) Try.prog B 25 (Img Source.V QD Vm) :=
 qdO (N := N + 1 + 1 + 1 + 1 + 1 + 1 + 1) (t := 25) Try.underlying25 rfl (by kernel_rfl) (by decide +kernel) (fun f hf => by cases hf; exact qoY _) (fun f hf => by cases hf; exact qBH (N + 3)) (fun f hf => by cases hf; exact qEO N) (fun f hf => by cases hf; exact qoY _) (fun x : Source => x.pro) (·.decls) (·.rules) (·.tail) Source.mk (fun _ _ _ _ => ⟨rfl, rfl, rfl, rfl⟩) Source.V (fun _ => rfl)
theorem Yp {α : Type} (sz : α → Nat) : ∀ {l : List α} {a : α}, a ∈ l → sz a ≤ (l.map sz).sum
 | b :: l, a, h => by
   rw [List.map_cons, List.sum_cons]
   rcases List.mem_cons.1 h with rfl | h
   · omega
   · have := Yp sz h; omega
theorem YD {α : Type} (sz : α → Nat) (h : ∀ a, 1 ≤ sz a) : ∀ l : List α, l.length ≤ (l.map sz).sum
 | [] => Nat.zero_le _
 | a :: l => by have := YD sz h l; have := h a; rw [List.map_cons, List.sum_cons, List.length_cons]; omega
theorem qiC {x : Source} (h : QD x ≤ 1048576) : x.Fits := by
 have l1 := YD JG (fun _ => by unfold JG; omega) x.decls
 have l2 := YD Ym (fun _ => by unfold Ym; omega) x.rules
 unfold QD qas KY at h
 refine ⟨by omega, by omega, by omega, fun d hd => ?_, by omega, fun r hr => ?_⟩
 · have m := Yp JG hd
   unfold JG qbj at m
   have l3 := YD Ji (fun _ => by unfold Ji; omega) d.syms
   unfold JG qbj at h
   refine ⟨by omega, by omega, fun y hy => ?_⟩
   have m2 := Yp Ji hy
   unfold Ji at *
   omega
 · have m := Yp Ym hr
   have l3 := YD qbP (fun _ => by unfold qbP; omega) r.alts
   have m' : r.left.length + 1 + qaW r.alts + 1 + 1 ≤ (x.rules.map Ym).sum := m
   unfold qaW at m'
   refine ⟨by omega, by omega, fun a ha => ?_⟩
   have n := Yp qbP ha
   have l4 := YD YB (fun _ => by unfold YB; omega) a.parts
   have n' : Y4 a.parts + Ji a.prec + 1 + 1 ≤ (r.alts.map qbP).sum := n
   unfold Y4 Ji at n'
   refine ⟨by omega, fun w hw => ?_, by omega⟩
   have q := Yp YB hw
   have q' : Ji w.sym + (w.code.length + 1) + 1 + 1 ≤ (a.parts.map YB).sum := q
   unfold Ji at q'
   exact ⟨by omega, by omega⟩
theorem qs6 (W : World) : Go.E.GOk Try.prog W XW := fun g => .iptr 0 (.agg []) 0 g 0 (fun _ => Go.undef) (fun j hj => absurd hj (Nat.not_lt_zero _)) rfl (by simp [V.cells]) (by simp [V.cells])
end Go.Proofs.Ythgkeppkcjcmjaa.law
