/- Part of a proof that a law of the given program answers true. -/
import Derived.Test.YthgkeppkcjcmjaaCZI
import Derived.Test.YthgkeppkcjcmjaaCKA
import Derived.Test.YthgkeppkcjcmjaaCRA
import Derived.Test.YthgkeppkcjcmjaaCJB
set_option linter.unusedSimpArgs false
set_option linter.unusedVariables false
set_option maxHeartbeats 4000000
set_option maxRecDepth 20000
namespace Go.Proofs
open Go.E
@[reducible] def qam : Source := { rules := [{ left := [101], alts := [{ parts := [{ sym := { name := [101] } }, { sym := { name := [43], lit := true } }, { sym := { name := [101] } }] }, { parts := [{ sym := { name := [120], lit := true } }] }] }] }
def mC : List Sta := [⟨[0], [(4, 1), (1001, 2)]⟩, ⟨[33], []⟩, ⟨[1, 17], [(3, 3)]⟩, ⟨[18], [(4, 1), (1001, 4)]⟩, ⟨[17, 19], [(3, 3)]⟩]
def cC : List Cel := [⟨0, 4, 1, false, []⟩, ⟨1, 0, -1, false, [2]⟩, ⟨1, 3, -1, false, [2]⟩, ⟨2, 0, -1, true, []⟩, ⟨2, 3, 3, false, []⟩, ⟨3, 4, 1, false, []⟩, ⟨4, 0, -1, false, [1]⟩, ⟨4, 3, 3, false, [1]⟩]
theorem lrC : (ja qam).prods.map (fun p => (p.left, p.right)) = [(0, [1001]), (1, [1001, 3, 1001]), (1, [4])] := by decide +kernel
theorem okC : YS qam = true := by decide +kernel
theorem qLV : YW (ja qam) = some mC := by decide +kernel
theorem qLI : cellsS (ja qam).toks.length mC (YV (ja qam) (fun _ => false) mC) = cC := by decide +kernel
theorem qyd : Small qam := by
 refine ⟨by simp, fun d h => ?_, fun d h => ?_, fun d h => ?_, by simp, ?_, ?_, ?_, ?_⟩
 · cases h
 · cases h
 · cases h
 · decide
 · decide
 · decide
 · decide
theorem qJN : qam.Fits := by
 refine ⟨by simp, by simp, by simp, fun d h => ?_, by simp, fun r hr => ?_⟩
 · cases h
 · simp only [List.mem_cons, List.not_mem_nil, or_false] at hr
   subst hr
   refine ⟨by simp, by simp, fun a ha => ?_⟩
   simp only [List.mem_cons, List.not_mem_nil, or_false] at ha
   rcases ha with rfl | rfl
   · refine ⟨by simp, fun p hp => ?_, by simp⟩
     simp only [List.mem_cons, List.not_mem_nil, or_false] at hp
     rcases hp with rfl | rfl | rfl <;> exact ⟨by simp, by simp⟩
   · refine ⟨by simp, fun p hp => ?_, by simp⟩
     simp only [List.mem_cons, List.not_mem_nil, or_false] at hp
     subst hp; exact ⟨by simp, by simp⟩
theorem qJ9 : IsGrow (ja qam) false (fun _ => false) := by
 refine ⟨fun p hp h => ?_, fun F hF k hk => (by cases hk)⟩
 have : (p.left, p.right) ∈ (ja qam).prods.map (fun p => (p.left, p.right)) := List.mem_map.2 ⟨p, hp, rfl⟩
 rw [lrC] at this
 simp only [List.mem_cons, List.not_mem_nil, or_false, Prod.mk.injEq] at this
 rcases this with ⟨e1, e2⟩ | ⟨e1, e2⟩ | ⟨e1, e2⟩ <;> rw [e2] at h <;> cases h
theorem machC : X7 qam = true ∧ vV qam = mC := by
 unfold X7 vV
 rw [okC, qLV]; exact ⟨rfl, rfl⟩

set_option maxHeartbeats 8000000
theorem qej {src : Source} (h : X7 src = true) : YS src = true ∧ GOk (ja src) ∧ MOk (ja src) (vV src) ∧ MGo (ja src) (vV src) := by
 unfold X7 at h
 rw [Bool.and_eq_true] at h
 obtain ⟨h1, h2⟩ := h
 have hg := gok h1
 obtain ⟨m, hm⟩ := Option.isSome_iff_exists.1 h2
 have e : vV src = m := by unfold vV; rw [if_pos h1, hm]; rfl
 rw [e]
 exact ⟨h1, hg, qi0 hg hm⟩
theorem qkX {H : Nat → Option MObj} : Er false H (.agg [.str [], .sl 4 true [], .sl 3 true [.agg [.str [101], .sl 6 true [.agg [.sl 6 true [.agg [.str [101], .bool false, vi 0, vi 0, .str [], vi 0], .agg [.str [43], .bool true, vi 0, vi 0, .str [], vi 0], .agg [.str [101], .bool false, vi 0, vi 0, .str [], vi 0]], .str [], .bool false, vi 0, vi 0, vi 0], .agg [.sl 6 true [.agg [.str [120], .bool true, vi 0, vi 0, .str [], vi 0]], .str [], .bool false, vi 0, vi 0, vi 0]], vi 0]], .str []]) qam.V := by
 have p : ∀ (n : List UInt8) (b : Bool), Er false H (.agg [.str n, .bool b, vi 0, vi 0, .str [], vi 0]) (.agg [.str n, .bool b, vi 0, vi 0, .str [], vi 0]) := fun n b => qd
 refine ErL.agg (.cons (.str _) (.cons (ErL.sl .nil) (.cons (ErL.sl ?_) (.cons (.str _) .nil))))
 refine .cons (ErL.agg (.cons (.str _) (.cons (ErL.sl ?_) (.cons (.int _ _) .nil)))) .nil
 refine .cons (ErL.agg (.cons (ErL.sl ?_) (.cons (.str _) (.cons (.bool _) (.cons (.int _ _) (.cons (.int _ _) (.cons (.int _ _) .nil))))))) (.cons (ErL.agg (.cons (ErL.sl ?_) (.cons (.str _) (.cons (.bool _) (.cons (.int _ _) (.cons (.int _ _) (.cons (.int _ _) .nil))))))) .nil)
 · exact .cons (p _ _) (.cons (p _ _) (.cons (p _ _) .nil))
 · exact .cons (p _ _) .nil
theorem qJg : Pure Try.prog 23 [qam.V] (.tup [(ja qam).V, .sl 2 false (mC.map Sta.V), .bool true]) := by
 have := xD qJN (fun _ => qyd) gok
 rw [machC.1, machC.2] at this
 exact this
theorem Jq   : Pure Try.prog 22 [] (.bool true) := by
 refine pure_intro Try.func22 qwi qCY (by show 0 ≤ 109; decide) ?_
 show ewp _ qgk _ _
 have hma := qJg
 obtain ⟨_, hg, hM, hG⟩ := qej machC.1
 rw [machC.2] at hM hG
 have hlo := yZ hM hg qJ9 (hG.trans_ne hg hM)
 have hLk := look_ok (E := fun _ => false) hM hg
 have hcn := qdb hM hg hLk
 rw [qLI] at hcn
 generalize ja qam = g at *
 generalize YV g (fun _ => false) mC = lk at *
 have h1 : ((cC.filter fun c => decide (1 < qL c)).length : Nat) = 1 := by decide
 have h2 : (cC.filter fun c => c.acc).length = 1 := by decide
 have hrw := qaM (l := cC) (by simp [cC]) (by decide)
 have hrv : qoZ cC = 1 := by decide
 have hcl : cC.length = 8 := rfl
 have hc0 : cC[0]? = some ⟨0, 4, 1, false, []⟩ := rfl
 have hpr : ∀ c ∈ cC, c.prods.length ≤ 1000000 := by decide
 rw [hrv] at hrw
 generalize cC = C at *
 repeat' with_reducible first
  | refine s_ ?_
  | simp only [wZZ, seval]
  | apply jZ (hp := hma); with_unfolding_all exact qkX
  | refine cq2 hlo qd qd ?_
  | refine cq3 hcn qd qd qd ?_
  | refine t_ ?_
 refine qc ?nx1 (fun (i : Nat) s => s.f 6 = ?v1_6 ∧ s.f 7 = ?v1_7 ∧ s.f 8 = vi (((C.take i).filter fun c => decide (1 < qL c)).length : Nat) ∧ s.f 9 = vi (((C.take i).filter fun c => c.acc).length : Nat) ∧ s.f 10 = vi i ∧ (i ≤ C.length) ∧ (((C.take i).filter fun c => decide (1 < qL c)).length ≤ i) ∧ (((C.take i).filter fun c => c.acc).length ≤ i)) (fun i => C.length - i) (0) wj_ (by refine ⟨?_, ?_, ?_, ?_, ?_, wo_, (by exact Nat.le_refl _), (by exact Nat.le_refl _)⟩ <;> first | (simp only [wL, wM, wN, wX, seval, Option.some.injEq] <;> exact wt_) | rfl | exact ⟨_, rfl⟩) ?_
 intro i s hnx ⟨g6, g7, g8, g9, g10, k1_0, k1_1, k1_2⟩
 have hz := w1_ i
 by_cases hi : i < C.length
 · have hgi : C[i]? = some C[i] := ge_ hi
   have hst := qG1 (fun c => decide (1 < qL c)) hgi
   have hsa := qG1 (fun c => c.acc) hgi
   have hth := yJ (hpr _ (List.getElem_mem hi))
   generalize ((C.take i).filter fun c => decide (1 < qL c)).length = n at *
   generalize ((C.take i).filter fun c => c.acc).length = k at *
   have hz2 : IntKind.i64.wrap ((n : Int) + 1) = ((n + 1 : Nat) : Int) := by rw [wrap64 (by omega) (by omega)]; omega
   have hz3 : IntKind.i64.wrap ((k : Int) + 1) = ((k + 1 : Nat) : Int) := by rw [wrap64 (by omega) (by omega)]; omega
   generalize C[i] = c at *
   generalize qL c = t at *
   obtain ⟨cs, ct, ch, ca, cp⟩ := c
   dsimp only at hsa
   by_cases hc : 1 < t <;> cases ca
   all_goals simp only [hc, decide_true, decide_false, if_true, if_false, Bool.false_eq_true, Nat.add_zero] at hst hsa
   all_goals
    repeat' with_reducible first
     | refine s_ ?_
     | simp only [wZZ, seval, g6, g7, g8, g9, g10, hz, hz2, hz3]
     | apply qa <;> intro h h_ <;> (try simp only [wD, reduceCtorEq] at h_) <;> (try exact wb_) <;> (try simp only [h])
     | refine t_ ?_
     | refine cq1 hth kY ?_
     | simp (disch := omega) only [w64, if_neg]
    exact ⟨by ((try simp only [wN]) <;> omega), i + 1, by omega, trivial, trivial, by rw [hst], by rw [hsa], rfl, by omega, by rw [hst]; omega, by rw [hsa]; omega⟩
 · have e : C.take i = C := List.take_of_length_le (by omega)
   rw [e] at g8 g9
   rw [h1] at g8
   rw [h2] at g9
   repeat' with_reducible first
    | refine s_ ?_
    | simp only [wZZ, seval, g6, g7, g8, g9, g10, hz]
    | (first | apply qa | apply qh | apply qi) <;> intro h h_ <;> (try simp only [wD, reduceCtorEq] at h_) <;> (try exact wb_) <;> (try simp only [h])
    | refine t_ ?_
    | refine cq1 hrw qd ?_
   all_goals refine qw rfl (Or.inr rfl) ?_
   all_goals (try simp only [wL, seval, g6, g7, g8, g9, g10])
   all_goals refine er_ ?_
   all_goals (try (with_reducible rfl))

theorem qI1 (x : GrI) (y : Source) (i : Nat) (src : Source) (h : [qa6 y, zn x][i]? = some src) : src.Fits ∧ (X5 src = true → Small src) := by
 match i, h with
 | 0, h => cases h; exact ⟨qdH y, qb7 y⟩
 | 1, h => cases h; exact ⟨Zp x, fun _ => Vp x⟩
 | i + 2, h => cases h
theorem qd9 {g : Grammar} {m : List Sta} {l : List Lk} (hM : MOk g m) (hg : GOk g) (hL : LkOk g m l) : (cellsS g.toks.length m l).length ≤ 1000000 ∧ ∀ c ∈ cellsS g.toks.length m l, c.prods.length ≤ 1000000 := by
 have hml := hM.len; have htk := hg.tk2; have hll := hL.len
 constructor
 · have : ∀ n, (xZ g.toks.length m l n).length ≤ n * 40 := fun n => by
    induction n with
    | zero => exact Nat.zero_le _
    | succ n ih =>
      rw [Qt, List.length_append]
      have := x9 (qb2 m l n) g.toks.length
      omega
   have h := this m.length
   have e : cellsS g.toks.length m l = xZ g.toks.length m l m.length := rfl
   rw [e]; omega
 · intro c hc
   unfold cellsS at hc
   rw [List.mem_flatMap] at hc
   obtain ⟨q, _, hc⟩ := hc
   rw [List.mem_filterMap] at hc
   obtain ⟨t, _, hc⟩ := hc
   split at hc
   · cases hc
     unfold cellAt
     dsimp only
     rw [qgN (hL.pr q)]
     have := Ve l q t
     omega
   · cases hc
theorem kP {y : Source} {x : GrI} (hy : y.Fits) (hb1 : x.rules.length ≤ 1099511627776) (hb2 : ∀ l ∈ x.rules, l.length ≤ 1099511627776) (hib : x.inner.length ≤ 1099511627776) (hlb : x.levels.length ≤ 1099511627776) : Pure Try.prog 8 [y.V, x.V] (.bool true) := by
 refine pure_intro Try.func8 qIu qIs (by show 2 ≤ 75; decide) ?_
 show ewp _ qBG _ _
 have hw := Jq
 have hcut := YT hy
 have hsrc := Jk (x := x) hb1 hb2 hib hlb
 have hsl : V.sl 4 true [(qa6 y).V, (zn x).V] = .sl 4 true ([qa6 y, zn x].map Source.V) := rfl
 repeat' with_reducible first
  | refine s_ ?_
  | simp only [wZZ, seval]
  | refine cq0 hw ?_
  | refine cq1 hcut (QA y) ?_
  | refine cq1 hsrc qd ?_
  | refine t_ ?_
 rw [hsl]
 have h2 := qI1 x y
 generalize hL : [qa6 y, zn x] = L at *
 have hLl : L.length = 2 := by rw [← hL]; rfl
 clear hL hsl
 refine qc ?nx1 (fun (i : Nat) s => s.f 5 = ?v1_5 ∧ s.f 6 = vi i ∧ (i ≤ L.length)) (fun i => L.length - i) (0) wj_ (by refine ⟨?_, ?_, wo_⟩ <;> first | (simp only [wL, wM, wN, wX, seval, Option.some.injEq] <;> exact wt_) | rfl | exact ⟨_, rfl⟩) ?_
 intro i s hnx ⟨g5, g6, k1_0⟩
 have hz := w1_ i
 by_cases hi : i < L.length
 · have hgi : L[i]? = some L[i] := ge_ hi
   obtain ⟨hf, hS⟩ := h2 i _ hgi
   have hma := xD hf hS gok
   generalize L[i] = src at *
   have hmk := @qej src
   cases hb : X7 src with
   | false =>
     rw [hb] at hma
     generalize vV src = m at *
     generalize ja src = g at *
     repeat' with_reducible first
      | refine s_ ?_
      | simp only [wZZ, seval, g5, g6, hz]
      | apply qa <;> intro h h_ <;> (try simp only [wD, reduceCtorEq] at h_) <;> (try exact wb_) <;> (try simp only [h])
      | refine t_ ?_
      | refine cq1 hma (QA src) ?_
     exact ⟨by ((try simp only [wN]) <;> omega), i + 1, by omega, trivial, rfl, by omega⟩
   | true =>
     rw [hb] at hma
     obtain ⟨_, hg, hM, hG⟩ := hmk hb
     obtain ⟨E, hE, _⟩ := xG hg
     have hlo := yZ hM hg hE (hG.trans_ne hg hM)
     have hLk := look_ok (E := E) hM hg
     have hcn := qdb hM hg hLk
     have hcs := Jj hM hg (show (YV (ja src) E (vV src)).length ≤ 1000000 from Nat.le_trans hLk.len (by omega)) (fun k hk => by obtain ⟨h1, h2⟩ := hLk.tk k hk; have := hg.tk2; have := jM (N := 40) (a := 0) h1 (fun x hx => by obtain ⟨t, e, h⟩ := h2 x hx; omega); omega)
     obtain ⟨hsm, hsp⟩ := qd9 hM hg hLk
     generalize cellsS (ja src).toks.length (vV src) (YV (ja src) E (vV src)) = C at *
     generalize YV (ja src) E (vV src) = lk at *
     have heq := QY hsm hsp
     have hr1 := qaM hsm hsp
     have hr2 := XV hsm hsp
     generalize qoZ C = rw_ at *
     generalize vV src = m at *
     generalize ja src = g at *
     repeat' with_reducible first
      | refine s_ ?_
      | simp only [wZZ, seval, g5, g6, hz]
      | apply qa <;> intro h h_ <;> (try simp only [wD, reduceCtorEq] at h_) <;> (try exact wb_) <;> (try simp only [h])
      | refine t_ ?_
      | refine cq1 hma (QA src) ?_
      | refine cq2 hlo qd qd ?_
      | refine cq3 hcs qd qd qd ?_
      | refine cq3 hcn qd qd qd ?_
      | refine cq2 heq qd qd ?_
      | refine cq1 hr1 qd ?_
      | refine cq1 hr2 qd ?_
     refine qc ?nx2 (fun (k : Nat) s => s.f 5 = ?v2_5 ∧ s.f 6 = ?v2_6 ∧ s.f 11 = ?v2_11 ∧ s.f 12 = vi k ∧ (k ≤ C.length)) (fun k => C.length - k) (0) wj_ (by refine ⟨?_, ?_, ?_, ?_, wo_⟩ <;> first | (simp only [wL, wM, wN, wX, seval, Option.some.injEq, g5, g6] <;> exact wt_) | rfl | exact ⟨_, rfl⟩) ?_
     intro k s hnx ⟨g5, g6, g11, g12, k2_0⟩
     have hzk := w1_ k
     by_cases hk : k < C.length
     · have hgk : C[k]? = some C[k] := ge_ hk
       have t1 := yJ (hsp _ (List.getElem_mem hk))
       have t2 := jm (hsp _ (List.getElem_mem hk))
       generalize C[k] = c at *
       generalize qL c = th at *
       have et : (!decide (th = th)) = false := by rw [decide_eq_true rfl]; rfl
       repeat' with_reducible first
        | refine s_ ?_
        | simp only [wZZ, seval, g5, g6, g11, g12, hzk, et]
        | apply qa <;> intro h h_ <;> (try simp only [wD, reduceCtorEq] at h_) <;> (try exact wb_) <;> (try simp only [h])
        | refine t_ ?_
        | refine cq1 t1 kY ?_
        | refine cq1 t2 kY ?_
       exact ⟨by ((try simp only [wN]) <;> omega), k + 1, by omega, trivial, trivial, trivial, rfl, by omega⟩
     · repeat' with_reducible first
        | refine s_ ?_
        | simp only [wZZ, seval, g5, g6, g11, g12, hz]
        | apply qa <;> intro h h_ <;> (try simp only [wD, reduceCtorEq] at h_) <;> (try exact wb_) <;> (try simp only [h])
       exact ⟨by ((try simp only [wN]) <;> omega), i + 1, by omega, trivial, rfl, by omega⟩
 · have e : i = L.length := by omega
   skip
   repeat' with_reducible first
    | refine s_ ?_
    | simp only [wZZ, seval, g5, g6, hz]
    | apply qa <;> intro h h_ <;> (try simp only [wD, reduceCtorEq] at h_) <;> (try exact wb_) <;> (try simp only [h])
   all_goals refine qw rfl (Or.inr rfl) ?_
   all_goals (try simp only [wL, seval, g5, g6])
   all_goals refine er_ ?_
   all_goals (try (with_reducible rfl))
end Go.Proofs
