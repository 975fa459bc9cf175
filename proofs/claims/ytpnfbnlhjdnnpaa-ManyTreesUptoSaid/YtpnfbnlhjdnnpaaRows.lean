/-
  No cell of these rows narrows 'for every input' (looked for: loops, veiled, ifaces, maps, wideKeys, modest, calm, conditions, laid).
  DERIVED. THE GIVEN ROWS OF THIS SEAT. 4 by the template 'for every input the law returns true; each argument reads behind the call as it read before'; 0 by the template 'total and deterministic' (their statements: YtpnfbnlhjdnnpaaTotals.lean).
  GIVEN WITH THE SEED: the statements are not yours to turn. If you find one false, say at which input.
  Laid BY PROGRAM, IN A SANDBOX (cutbox-rows.mjs): the forced cells as the released guide's own fill.sh prints them over the translation 61c97fe77712a796… (all of the seat's roots in one cut). By AI agents, Wed Nov 11 2026. No macro, syntax, notation, axiom, sorry.
-/
import Derived.Test.YtpnfbnlhjdnnpaaChecked
import GoSem.Claim
import GoSem.ClaimJoined
import GoSem.ClaimMapViews
import Derived.JoinedTies
import Derived.KernelRfl
namespace Go.Proofs.Ytpnfbnlhjdnnpaa
/- THE CELL 'sum', in the pinned program and in every row, IS THE sha256 OF THE DUMP (.gsa) THAT YtpnfbnlhjdnnpaaProg.lean LOADS. Nothing in Lean hashes anything: it is a label: what it is worth is what the hold of that sum in a sandbox is worth. -/
noncomputable def Try.pinned : Pinned := { name := "ytpnfbnlhjdnnpaa", sum := "61c97fe77712a796052f0a0674da95803e1ce166a83cfdbda81b397d295cc688", checked := Try.checked }
namespace Rows
def none {H : Type} : Left H := { results := [], args := [] }

/-- 'yuccalaw14.ManyTells': WHATEVER THE INPUT: true; the input reads as it did. -/
def manyTellsSpec : ChangeSpec := { name := "manyTells", fn := fun _ => fun
  | [d1, d2, d3, d4] => { results := [.lit (.bool true)], args := [d1, d2, d3, d4] }
  | _ => none }
def manyTellsRow : OpenClaim := { program := "ytpnfbnlhjdnnpaa", sum := "61c97fe77712a796052f0a0674da95803e1ce166a83cfdbda81b397d295cc688", func := "yucca/yuccalaw14.ManyTells", spec := "manyTells", apart := false }
def ManyTellsSaid : Prop := manyTellsRow.holds Try.pinned (OpenSpec.ofChange manyTellsSpec)

/-- ITS FALSE NEIGHBOUR: 'it returns false'. Refute it at one input. -/
def manyTellsWrong : ChangeSpec := { name := "manyTells", fn := fun _ => fun
  | [d1, d2, d3, d4] => { results := [.lit (.bool false)], args := [d1, d2, d3, d4] }
  | _ => none }
def ManyTellsWrongFalsely : Prop := manyTellsRow.holds Try.pinned (OpenSpec.ofChange manyTellsWrong)

/-- 'yuccalaw14.ManySums': WHATEVER THE INPUT: true; the input reads as it did. -/
def manySumsSpec : ChangeSpec := { name := "manySums", fn := fun _ => fun
  | [d1, d2, d3] => { results := [.lit (.bool true)], args := [d1, d2, d3] }
  | _ => none }
def manySumsRow : OpenClaim := { program := "ytpnfbnlhjdnnpaa", sum := "61c97fe77712a796052f0a0674da95803e1ce166a83cfdbda81b397d295cc688", func := "yucca/yuccalaw14.ManySums", spec := "manySums", apart := false }
def ManySumsSaid : Prop := manySumsRow.holds Try.pinned (OpenSpec.ofChange manySumsSpec)

/-- ITS FALSE NEIGHBOUR: 'it returns false'. Refute it at one input. -/
def manySumsWrong : ChangeSpec := { name := "manySums", fn := fun _ => fun
  | [d1, d2, d3] => { results := [.lit (.bool false)], args := [d1, d2, d3] }
  | _ => none }
def ManySumsWrongFalsely : Prop := manySumsRow.holds Try.pinned (OpenSpec.ofChange manySumsWrong)

/-- 'yuccalaw14.ManyRounds': WHATEVER THE INPUT: true; the input reads as it did. -/
def manyRoundsSpec : ChangeSpec := { name := "manyRounds", fn := fun _ => fun
  | [d1, d2] => { results := [.lit (.bool true)], args := [d1, d2] }
  | _ => none }
def manyRoundsRow : OpenClaim := { program := "ytpnfbnlhjdnnpaa", sum := "61c97fe77712a796052f0a0674da95803e1ce166a83cfdbda81b397d295cc688", func := "yucca/yuccalaw14.ManyRounds", spec := "manyRounds", apart := false }
def ManyRoundsSaid : Prop := manyRoundsRow.holds Try.pinned (OpenSpec.ofChange manyRoundsSpec)

/-- ITS FALSE NEIGHBOUR: 'it returns false'. Refute it at one input. -/
def manyRoundsWrong : ChangeSpec := { name := "manyRounds", fn := fun _ => fun
  | [d1, d2] => { results := [.lit (.bool false)], args := [d1, d2] }
  | _ => none }
def ManyRoundsWrongFalsely : Prop := manyRoundsRow.holds Try.pinned (OpenSpec.ofChange manyRoundsWrong)

/-- 'yuccalaw14.ManyTrees': WHATEVER THE INPUT: true; the input reads as it did. -/
def manyTreesSpec : ChangeSpec := { name := "manyTrees", fn := fun _ => fun
  | [d1, d2, d3] => { results := [.lit (.bool true)], args := [d1, d2, d3] }
  | _ => none }
def manyTreesRow : OpenClaim := { program := "ytpnfbnlhjdnnpaa", sum := "61c97fe77712a796052f0a0674da95803e1ce166a83cfdbda81b397d295cc688", func := "yucca/yuccalaw14.ManyTrees", spec := "manyTrees", unfollowed := true, recurses := true, apart := false }
def ManyTreesSaid : Prop := manyTreesRow.holds Try.pinned (OpenSpec.ofChange manyTreesSpec)

/-- ITS FALSE NEIGHBOUR: 'it returns false'. Refute it at one input. -/
def manyTreesWrong : ChangeSpec := { name := "manyTrees", fn := fun _ => fun
  | [d1, d2, d3] => { results := [.lit (.bool false)], args := [d1, d2, d3] }
  | _ => none }
def ManyTreesWrongFalsely : Prop := manyTreesRow.holds Try.pinned (OpenSpec.ofChange manyTreesWrong)

/- THE SECOND FORM. 'bulk': how many values and letters a reading holds, each counted each time it is reached (what is shared counts as often as it is met; a slice's spare places count too). A statement '..UptoSaid' is the law's where the arguments, and the package variables that the reading takes, are together of bulk at most 1048576: NARROWER than '..Said'. Prove '..Said' where nothing that the law and all that it calls make is longer than what came in: it says more and counts as full. Else prove '..UptoSaid'. A law counts once. -/
mutual
def uptoBulk {H : Type} : DataW H → Nat
  | .lit (.string bytes) => bytes.length + 1
  | .lit _ => 1
  | .nil => 1
  | .ptr d => uptoBulk d + 1
  | .slice elems spare => uptoBulkAll elems + uptoBulkAll spare + 1
  | .agg parts => uptoBulkAll parts + 1
  | .iface _ d => uptoBulk d + 1
  | .map entries => uptoBulkEntries entries + 1
  | .held _ => 1
def uptoBulkAll {H : Type} : List (DataW H) → Nat
  | [] => 0
  | d :: r => uptoBulk d + uptoBulkAll r
def uptoBulkEntries {H : Type} : List (Lit × DataW H) → Nat
  | [] => 0
  | x :: r => uptoBulkEntry x + uptoBulkEntries r
def uptoBulkEntry {H : Type} : Lit × DataW H → Nat
  | (.string bytes, d) => bytes.length + uptoBulk d + 1
  | (_, d) => uptoBulk d + 1
 end
def uptoSmall : (H : Type) → List (DataW H) → Bool := fun _ ds => decide (uptoBulkAll ds ≤ 1048576)
def OpenSpec.upto (s : _root_.Go.ChangeSpec) : _root_.Go.OpenSpec := { _root_.Go.OpenSpec.ofChange s with cond := some uptoSmall }

/-- 'yuccalaw14.ManyTells', WHERE WHAT IT READS IS OF BULK AT MOST 1048576: true; the input reads as it did. -/
def manyTellsUptoRow : OpenClaim := { program := "ytpnfbnlhjdnnpaa", sum := "61c97fe77712a796052f0a0674da95803e1ce166a83cfdbda81b397d295cc688", func := "yucca/yuccalaw14.ManyTells", spec := "manyTells", apart := false, narrowed := true }
def ManyTellsUptoSaid : Prop := manyTellsUptoRow.holds Try.pinned (OpenSpec.upto manyTellsSpec)

/-- 'yuccalaw14.ManySums', WHERE WHAT IT READS IS OF BULK AT MOST 1048576: true; the input reads as it did. -/
def manySumsUptoRow : OpenClaim := { program := "ytpnfbnlhjdnnpaa", sum := "61c97fe77712a796052f0a0674da95803e1ce166a83cfdbda81b397d295cc688", func := "yucca/yuccalaw14.ManySums", spec := "manySums", apart := false, narrowed := true }
def ManySumsUptoSaid : Prop := manySumsUptoRow.holds Try.pinned (OpenSpec.upto manySumsSpec)

/-- 'yuccalaw14.ManyRounds', WHERE WHAT IT READS IS OF BULK AT MOST 1048576: true; the input reads as it did. -/
def manyRoundsUptoRow : OpenClaim := { program := "ytpnfbnlhjdnnpaa", sum := "61c97fe77712a796052f0a0674da95803e1ce166a83cfdbda81b397d295cc688", func := "yucca/yuccalaw14.ManyRounds", spec := "manyRounds", apart := false, narrowed := true }
def ManyRoundsUptoSaid : Prop := manyRoundsUptoRow.holds Try.pinned (OpenSpec.upto manyRoundsSpec)

/-- 'yuccalaw14.ManyTrees', WHERE WHAT IT READS IS OF BULK AT MOST 1048576: true; the input reads as it did. -/
def manyTreesUptoRow : OpenClaim := { program := "ytpnfbnlhjdnnpaa", sum := "61c97fe77712a796052f0a0674da95803e1ce166a83cfdbda81b397d295cc688", func := "yucca/yuccalaw14.ManyTrees", spec := "manyTrees", unfollowed := true, recurses := true, apart := false, narrowed := true }
def ManyTreesUptoSaid : Prop := manyTreesUptoRow.holds Try.pinned (OpenSpec.upto manyTreesSpec)

end Rows
end Go.Proofs.Ytpnfbnlhjdnnpaa
