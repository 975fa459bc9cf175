/-
  No cell of these rows narrows 'for every input' (looked for: loops, veiled, ifaces, maps, wideKeys, modest, calm, conditions, laid).
  DERIVED. THE GIVEN ROWS OF THIS SEAT. 8 by the template 'for every input the law returns true; each argument reads behind the call as it read before'; 0 by the template 'total and deterministic' (their statements: YthgkeppkcjcmjaaTotals.lean).
  GIVEN WITH THE SEED: the statements are not yours to turn. If you find one false, say at which input.
  Laid BY PROGRAM, IN A SANDBOX (cutbox-rows.mjs): the forced cells as the released guide's own fill.sh prints them over the translation ccc5ba4a78d541fb… (all of the seat's roots in one cut). By AI agents, Wed Nov 11 2026. No macro, syntax, notation, axiom, sorry.
-/
import Derived.Test.YthgkeppkcjcmjaaChecked
import GoSem.Claim
import GoSem.ClaimJoined
import GoSem.ClaimMapViews
import Derived.JoinedTies
import Derived.KernelRfl
namespace Go.Proofs.Ythgkeppkcjcmjaa
/- THE CELL 'sum', in the pinned program and in every row, IS THE sha256 OF THE DUMP (.gsa) THAT YthgkeppkcjcmjaaProg.lean LOADS. Nothing in Lean hashes anything: it is a label: what it is worth is what the hold of that sum in a sandbox is worth. -/
noncomputable def Try.pinned : Pinned := { name := "ythgkeppkcjcmjaa", sum := "ccc5ba4a78d541fb03848e5bf5bf496f7617e0dbdfd11e382ae0c27f2007993c", checked := Try.checked }
namespace Rows
def none {H : Type} : Left H := { results := [], args := [] }

/-- 'yuccalaw21.DenseTells': WHATEVER THE INPUT: true; the input reads as it did. -/
def denseTellsSpec : ChangeSpec := { name := "denseTells", fn := fun _ => fun
  | [d1, d2, d3, d4, d5, d6] => { results := [.lit (.bool true)], args := [d1, d2, d3, d4, d5, d6] }
  | _ => none }
def denseTellsRow : OpenClaim := { program := "ythgkeppkcjcmjaa", sum := "ccc5ba4a78d541fb03848e5bf5bf496f7617e0dbdfd11e382ae0c27f2007993c", func := "yucca/yuccalaw21.DenseTells", spec := "denseTells", apart := false }
def DenseTellsSaid : Prop := denseTellsRow.holds Try.pinned (OpenSpec.ofChange denseTellsSpec)

/-- ITS FALSE NEIGHBOUR: 'it returns false'. Refute it at one input. -/
def denseTellsWrong : ChangeSpec := { name := "denseTells", fn := fun _ => fun
  | [d1, d2, d3, d4, d5, d6] => { results := [.lit (.bool false)], args := [d1, d2, d3, d4, d5, d6] }
  | _ => none }
def DenseTellsWrongFalsely : Prop := denseTellsRow.holds Try.pinned (OpenSpec.ofChange denseTellsWrong)

/-- 'yuccalaw21.DenseMore': WHATEVER THE INPUT: true; the input reads as it did. -/
def denseMoreSpec : ChangeSpec := { name := "denseMore", fn := fun _ => fun
  | [d1, d2, d3, d4, d5] => { results := [.lit (.bool true)], args := [d1, d2, d3, d4, d5] }
  | _ => none }
def denseMoreRow : OpenClaim := { program := "ythgkeppkcjcmjaa", sum := "ccc5ba4a78d541fb03848e5bf5bf496f7617e0dbdfd11e382ae0c27f2007993c", func := "yucca/yuccalaw21.DenseMore", spec := "denseMore", apart := false }
def DenseMoreSaid : Prop := denseMoreRow.holds Try.pinned (OpenSpec.ofChange denseMoreSpec)

/-- ITS FALSE NEIGHBOUR: 'it returns false'. Refute it at one input. -/
def denseMoreWrong : ChangeSpec := { name := "denseMore", fn := fun _ => fun
  | [d1, d2, d3, d4, d5] => { results := [.lit (.bool false)], args := [d1, d2, d3, d4, d5] }
  | _ => none }
def DenseMoreWrongFalsely : Prop := denseMoreRow.holds Try.pinned (OpenSpec.ofChange denseMoreWrong)

/-- 'yuccalaw21.DenseJust': WHATEVER THE INPUT: true; the input reads as it did. -/
def denseJustSpec : ChangeSpec := { name := "denseJust", fn := fun _ => fun
  | [d1, d2] => { results := [.lit (.bool true)], args := [d1, d2] }
  | _ => none }
def denseJustRow : OpenClaim := { program := "ythgkeppkcjcmjaa", sum := "ccc5ba4a78d541fb03848e5bf5bf496f7617e0dbdfd11e382ae0c27f2007993c", func := "yucca/yuccalaw21.DenseJust", spec := "denseJust", apart := false }
def DenseJustSaid : Prop := denseJustRow.holds Try.pinned (OpenSpec.ofChange denseJustSpec)

/-- ITS FALSE NEIGHBOUR: 'it returns false'. Refute it at one input. -/
def denseJustWrong : ChangeSpec := { name := "denseJust", fn := fun _ => fun
  | [d1, d2] => { results := [.lit (.bool false)], args := [d1, d2] }
  | _ => none }
def DenseJustWrongFalsely : Prop := denseJustRow.holds Try.pinned (OpenSpec.ofChange denseJustWrong)

/-- 'yuccalaw21.DenseAhead': WHATEVER THE INPUT: true; the input reads as it did. -/
def denseAheadSpec : ChangeSpec := { name := "denseAhead", fn := fun _ => fun
  | [d1, d2, d3] => { results := [.lit (.bool true)], args := [d1, d2, d3] }
  | _ => none }
def denseAheadRow : OpenClaim := { program := "ythgkeppkcjcmjaa", sum := "ccc5ba4a78d541fb03848e5bf5bf496f7617e0dbdfd11e382ae0c27f2007993c", func := "yucca/yuccalaw21.DenseAhead", spec := "denseAhead", apart := false }
def DenseAheadSaid : Prop := denseAheadRow.holds Try.pinned (OpenSpec.ofChange denseAheadSpec)

/-- ITS FALSE NEIGHBOUR: 'it returns false'. Refute it at one input. -/
def denseAheadWrong : ChangeSpec := { name := "denseAhead", fn := fun _ => fun
  | [d1, d2, d3] => { results := [.lit (.bool false)], args := [d1, d2, d3] }
  | _ => none }
def DenseAheadWrongFalsely : Prop := denseAheadRow.holds Try.pinned (OpenSpec.ofChange denseAheadWrong)

/-- 'yuccalaw21.DenseNone': WHATEVER THE INPUT: true; the input reads as it did. -/
def denseNoneSpec : ChangeSpec := { name := "denseNone", fn := fun _ => fun
  | [d1, d2, d3, d4] => { results := [.lit (.bool true)], args := [d1, d2, d3, d4] }
  | _ => none }
def denseNoneRow : OpenClaim := { program := "ythgkeppkcjcmjaa", sum := "ccc5ba4a78d541fb03848e5bf5bf496f7617e0dbdfd11e382ae0c27f2007993c", func := "yucca/yuccalaw21.DenseNone", spec := "denseNone", apart := false }
def DenseNoneSaid : Prop := denseNoneRow.holds Try.pinned (OpenSpec.ofChange denseNoneSpec)

/-- ITS FALSE NEIGHBOUR: 'it returns false'. Refute it at one input. -/
def denseNoneWrong : ChangeSpec := { name := "denseNone", fn := fun _ => fun
  | [d1, d2, d3, d4] => { results := [.lit (.bool false)], args := [d1, d2, d3, d4] }
  | _ => none }
def DenseNoneWrongFalsely : Prop := denseNoneRow.holds Try.pinned (OpenSpec.ofChange denseNoneWrong)

/-- 'yuccalaw19.CandTells': WHATEVER THE INPUT: true; the input reads as it did. -/
def candTellsSpec : ChangeSpec := { name := "candTells", fn := fun _ => fun
  | [d1, d2] => { results := [.lit (.bool true)], args := [d1, d2] }
  | _ => none }
def candTellsRow : OpenClaim := { program := "ythgkeppkcjcmjaa", sum := "ccc5ba4a78d541fb03848e5bf5bf496f7617e0dbdfd11e382ae0c27f2007993c", func := "yucca/yuccalaw19.CandTells", spec := "candTells", apart := false }
def CandTellsSaid : Prop := candTellsRow.holds Try.pinned (OpenSpec.ofChange candTellsSpec)

/-- ITS FALSE NEIGHBOUR: 'it returns false'. Refute it at one input. -/
def candTellsWrong : ChangeSpec := { name := "candTells", fn := fun _ => fun
  | [d1, d2] => { results := [.lit (.bool false)], args := [d1, d2] }
  | _ => none }
def CandTellsWrongFalsely : Prop := candTellsRow.holds Try.pinned (OpenSpec.ofChange candTellsWrong)

/-- 'yuccalaw21.DenseMany': WHATEVER THE INPUT: true; the input reads as it did. -/
def denseManySpec : ChangeSpec := { name := "denseMany", fn := fun _ => fun
  | [d1, d2, d3] => { results := [.lit (.bool true)], args := [d1, d2, d3] }
  | _ => none }
def denseManyRow : OpenClaim := { program := "ythgkeppkcjcmjaa", sum := "ccc5ba4a78d541fb03848e5bf5bf496f7617e0dbdfd11e382ae0c27f2007993c", func := "yucca/yuccalaw21.DenseMany", spec := "denseMany", recurses := true, apart := false }
def DenseManySaid : Prop := denseManyRow.holds Try.pinned (OpenSpec.ofChange denseManySpec)

/-- ITS FALSE NEIGHBOUR: 'it returns false'. Refute it at one input. -/
def denseManyWrong : ChangeSpec := { name := "denseMany", fn := fun _ => fun
  | [d1, d2, d3] => { results := [.lit (.bool false)], args := [d1, d2, d3] }
  | _ => none }
def DenseManyWrongFalsely : Prop := denseManyRow.holds Try.pinned (OpenSpec.ofChange denseManyWrong)

/-- 'yuccalaw21.DenseTrees': WHATEVER THE INPUT: true; the input reads as it did. -/
def denseTreesSpec : ChangeSpec := { name := "denseTrees", fn := fun _ => fun
  | [d1, d2, d3, d4] => { results := [.lit (.bool true)], args := [d1, d2, d3, d4] }
  | _ => none }
def denseTreesRow : OpenClaim := { program := "ythgkeppkcjcmjaa", sum := "ccc5ba4a78d541fb03848e5bf5bf496f7617e0dbdfd11e382ae0c27f2007993c", func := "yucca/yuccalaw21.DenseTrees", spec := "denseTrees", unfollowed := true, recurses := true, apart := false }
def DenseTreesSaid : Prop := denseTreesRow.holds Try.pinned (OpenSpec.ofChange denseTreesSpec)

/-- ITS FALSE NEIGHBOUR: 'it returns false'. Refute it at one input. -/
def denseTreesWrong : ChangeSpec := { name := "denseTrees", fn := fun _ => fun
  | [d1, d2, d3, d4] => { results := [.lit (.bool false)], args := [d1, d2, d3, d4] }
  | _ => none }
def DenseTreesWrongFalsely : Prop := denseTreesRow.holds Try.pinned (OpenSpec.ofChange denseTreesWrong)

/- THE SECOND FORM. 'bulk': how many values and letters a reading holds, each counted each time it is reached (what is shared counts as often as it is met; a slice's spare places count too). A statement '..UptoSaid' is the law's where the arguments, and the package variables that the reading takes, are together of bulk at most 1048576: NARROWER than '..Said'. Prove '..Said' where nothing that the law and all that it calls make is longer than what came in: it says more and counts as full. Else prove '..UptoSaid'. A law counts once. -/
mutual
def uptoBulk {H : Type} : DataW H → Nat
  | .lit (.string bytes) => bytes.length + 1
  | .lit _ => 1
  | .nil => 1
  | .ptr d => uptoBulk d + 1
  | .slice elems spare => uptoBulkAll elems + uptoBulkAll spare + 1
  | .agg parts => uptoBulkAll parts + 1
  | .iface _ d => uptoBulk d + 1
  | .map entries => uptoBulkEntries entries + 1
  | .held _ => 1
def uptoBulkAll {H : Type} : List (DataW H) → Nat
  | [] => 0
  | d :: r => uptoBulk d + uptoBulkAll r
def uptoBulkEntries {H : Type} : List (Lit × DataW H) → Nat
  | [] => 0
  | x :: r => uptoBulkEntry x + uptoBulkEntries r
def uptoBulkEntry {H : Type} : Lit × DataW H → Nat
  | (.string bytes, d) => bytes.length + uptoBulk d + 1
  | (_, d) => uptoBulk d + 1
 end
def uptoSmall : (H : Type) → List (DataW H) → Bool := fun _ ds => decide (uptoBulkAll ds ≤ 1048576)
def OpenSpec.upto (s : _root_.Go.ChangeSpec) : _root_.Go.OpenSpec := { _root_.Go.OpenSpec.ofChange s with cond := some uptoSmall }

/-- 'yuccalaw21.DenseTells', WHERE WHAT IT READS IS OF BULK AT MOST 1048576: true; the input reads as it did. -/
def denseTellsUptoRow : OpenClaim := { program := "ythgkeppkcjcmjaa", sum := "ccc5ba4a78d541fb03848e5bf5bf496f7617e0dbdfd11e382ae0c27f2007993c", func := "yucca/yuccalaw21.DenseTells", spec := "denseTells", apart := false, narrowed := true }
def DenseTellsUptoSaid : Prop := denseTellsUptoRow.holds Try.pinned (OpenSpec.upto denseTellsSpec)

/-- 'yuccalaw21.DenseMore', WHERE WHAT IT READS IS OF BULK AT MOST 1048576: true; the input reads as it did. -/
def denseMoreUptoRow : OpenClaim := { program := "ythgkeppkcjcmjaa", sum := "ccc5ba4a78d541fb03848e5bf5bf496f7617e0dbdfd11e382ae0c27f2007993c", func := "yucca/yuccalaw21.DenseMore", spec := "denseMore", apart := false, narrowed := true }
def DenseMoreUptoSaid : Prop := denseMoreUptoRow.holds Try.pinned (OpenSpec.upto denseMoreSpec)

/-- 'yuccalaw21.DenseJust', WHERE WHAT IT READS IS OF BULK AT MOST 1048576: true; the input reads as it did. -/
def denseJustUptoRow : OpenClaim := { program := "ythgkeppkcjcmjaa", sum := "ccc5ba4a78d541fb03848e5bf5bf496f7617e0dbdfd11e382ae0c27f2007993c", func := "yucca/yuccalaw21.DenseJust", spec := "denseJust", apart := false, narrowed := true }
def DenseJustUptoSaid : Prop := denseJustUptoRow.holds Try.pinned (OpenSpec.upto denseJustSpec)

/-- 'yuccalaw21.DenseAhead', WHERE WHAT IT READS IS OF BULK AT MOST 1048576: true; the input reads as it did. -/
def denseAheadUptoRow : OpenClaim := { program := "ythgkeppkcjcmjaa", sum := "ccc5ba4a78d541fb03848e5bf5bf496f7617e0dbdfd11e382ae0c27f2007993c", func := "yucca/yuccalaw21.DenseAhead", spec := "denseAhead", apart := false, narrowed := true }
def DenseAheadUptoSaid : Prop := denseAheadUptoRow.holds Try.pinned (OpenSpec.upto denseAheadSpec)

/-- 'yuccalaw21.DenseNone', WHERE WHAT IT READS IS OF BULK AT MOST 1048576: true; the input reads as it did. -/
def denseNoneUptoRow : OpenClaim := { program := "ythgkeppkcjcmjaa", sum := "ccc5ba4a78d541fb03848e5bf5bf496f7617e0dbdfd11e382ae0c27f2007993c", func := "yucca/yuccalaw21.DenseNone", spec := "denseNone", apart := false, narrowed := true }
def DenseNoneUptoSaid : Prop := denseNoneUptoRow.holds Try.pinned (OpenSpec.upto denseNoneSpec)

/-- 'yuccalaw19.CandTells', WHERE WHAT IT READS IS OF BULK AT MOST 1048576: true; the input reads as it did. -/
def candTellsUptoRow : OpenClaim := { program := "ythgkeppkcjcmjaa", sum := "ccc5ba4a78d541fb03848e5bf5bf496f7617e0dbdfd11e382ae0c27f2007993c", func := "yucca/yuccalaw19.CandTells", spec := "candTells", apart := false, narrowed := true }
def CandTellsUptoSaid : Prop := candTellsUptoRow.holds Try.pinned (OpenSpec.upto candTellsSpec)

/-- 'yuccalaw21.DenseMany', WHERE WHAT IT READS IS OF BULK AT MOST 1048576: true; the input reads as it did. -/
def denseManyUptoRow : OpenClaim := { program := "ythgkeppkcjcmjaa", sum := "ccc5ba4a78d541fb03848e5bf5bf496f7617e0dbdfd11e382ae0c27f2007993c", func := "yucca/yuccalaw21.DenseMany", spec := "denseMany", recurses := true, apart := false, narrowed := true }
def DenseManyUptoSaid : Prop := denseManyUptoRow.holds Try.pinned (OpenSpec.upto denseManySpec)

/-- 'yuccalaw21.DenseTrees', WHERE WHAT IT READS IS OF BULK AT MOST 1048576: true; the input reads as it did. -/
def denseTreesUptoRow : OpenClaim := { program := "ythgkeppkcjcmjaa", sum := "ccc5ba4a78d541fb03848e5bf5bf496f7617e0dbdfd11e382ae0c27f2007993c", func := "yucca/yuccalaw21.DenseTrees", spec := "denseTrees", unfollowed := true, recurses := true, apart := false, narrowed := true }
def DenseTreesUptoSaid : Prop := denseTreesUptoRow.holds Try.pinned (OpenSpec.upto denseTreesSpec)

end Rows
end Go.Proofs.Ythgkeppkcjcmjaa
