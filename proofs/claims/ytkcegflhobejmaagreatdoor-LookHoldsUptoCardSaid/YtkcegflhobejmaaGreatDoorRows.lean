/-
  NARROWER THAN 'FOR EVERY INPUT', by the rows' own cells (each row's printed sentence says how): LookRelations: laid · LookBacks: laid · LookTells: laid · LookSums: laid · LookSteps: laid · LookReal: laid · LookHolds: laid.
  DERIVED. THE GIVEN ROWS OF THIS SEAT. 7 by the template 'for every input the law returns true; each argument reads behind the call as it read before'; 0 by the template 'total and deterministic' (their statements: YtkcegflhobejmaaGreatDoorTotals.lean).
  GIVEN WITH THE SEED: the statements are not yours to turn. If you find one false, say at which input.
  Laid BY PROGRAM, IN A SANDBOX (cutbox-rows.mjs): the forced cells as the released guide's own fill.sh prints them over the translation 861324e4a77b8ba4… (all of the seat's roots in one cut). By AI agents, Wed Nov 11 2026. No macro, syntax, notation, axiom, sorry.
-/
import Derived.Test.YtkcegflhobejmaaGreatDoorChecked
import GoSem.Claim
import GoSem.ClaimJoined
import GoSem.ClaimMapViews
import Derived.JoinedTies
import Derived.KernelRfl
namespace Go.Proofs.YtkcegflhobejmaaGreatDoor
/- THE CELL 'sum', in the pinned program and in every row, IS THE sha256 OF THE DUMP (.gsa) THAT YtkcegflhobejmaaGreatDoorProg.lean LOADS. Nothing in Lean hashes anything: it is a label: what it is worth is what the hold of that sum in a sandbox is worth. -/
noncomputable def Tryz.pinned : Pinned := { name := "ytkcegflhobejmaagreatdoor", sum := "861324e4a77b8ba44f00041781363d39f04889c7aaad2db3025744fd3c9277ca", checked := Tryz.checked }
namespace Rows
def none {H : Type} : Left H := { results := [], args := [] }

/- WHAT THE LISTED PACKAGE-LEVEL VARIABLES READ AS WHEN THE CALL BEGINS. Each datum BY PROGRAM (the guide's laid-datum.mjs) off the statement by which the dump's own 'gosem.cut.vars' lays the variable. In a bare row this is a premise. The card (YtkcegflhobejmaaGreatDoorCards.lean) ties it to the program's text. -/
def laid_math_bits_deBruijn64tab {H : Type} : DataW H := .agg [.lit (.int .u8 0), .lit (.int .u8 1), .lit (.int .u8 56), .lit (.int .u8 2), .lit (.int .u8 57), .lit (.int .u8 49), .lit (.int .u8 28), .lit (.int .u8 3), .lit (.int .u8 61), .lit (.int .u8 58), .lit (.int .u8 42), .lit (.int .u8 50), .lit (.int .u8 38), .lit (.int .u8 29), .lit (.int .u8 17), .lit (.int .u8 4), .lit (.int .u8 62), .lit (.int .u8 47), .lit (.int .u8 59), .lit (.int .u8 36), .lit (.int .u8 45), .lit (.int .u8 43), .lit (.int .u8 51), .lit (.int .u8 22), .lit (.int .u8 53), .lit (.int .u8 39), .lit (.int .u8 33), .lit (.int .u8 30), .lit (.int .u8 24), .lit (.int .u8 18), .lit (.int .u8 12), .lit (.int .u8 5), .lit (.int .u8 63), .lit (.int .u8 55), .lit (.int .u8 48), .lit (.int .u8 27), .lit (.int .u8 60), .lit (.int .u8 41), .lit (.int .u8 37), .lit (.int .u8 16), .lit (.int .u8 46), .lit (.int .u8 35), .lit (.int .u8 44), .lit (.int .u8 21), .lit (.int .u8 52), .lit (.int .u8 32), .lit (.int .u8 23), .lit (.int .u8 11), .lit (.int .u8 54), .lit (.int .u8 26), .lit (.int .u8 40), .lit (.int .u8 15), .lit (.int .u8 34), .lit (.int .u8 20), .lit (.int .u8 31), .lit (.int .u8 10), .lit (.int .u8 25), .lit (.int .u8 14), .lit (.int .u8 19), .lit (.int .u8 9), .lit (.int .u8 13), .lit (.int .u8 8), .lit (.int .u8 7), .lit (.int .u8 6)]

/-- 'yuccalaw17.LookRelations': WHATEVER THE INPUT: true; the input reads as it did. -/
def lookRelationsSpec : ChangeSpec := { name := "lookRelations", fn := fun _ => fun
  | [d1, d2] => { results := [.lit (.bool true)], args := [d1, d2] }
  | _ => none }
def lookRelationsRow : OpenClaim := { program := "ytkcegflhobejmaagreatdoor", sum := "861324e4a77b8ba44f00041781363d39f04889c7aaad2db3025744fd3c9277ca", func := "yucca/yuccalaw17.LookRelations", spec := "lookRelations", unfollowed := true, recurses := true, named := ["math/bits.deBruijn64tab"], plainKeys := false, apart := false, laid := [("math/bits.deBruijn64tab", laid_math_bits_deBruijn64tab)] }
def LookRelationsSaid : Prop := lookRelationsRow.holds Tryz.pinned (OpenSpec.ofChange lookRelationsSpec)

/-- ITS FALSE NEIGHBOUR: 'it returns false'. Refute it at one input. -/
def lookRelationsWrong : ChangeSpec := { name := "lookRelations", fn := fun _ => fun
  | [d1, d2] => { results := [.lit (.bool false)], args := [d1, d2] }
  | _ => none }
def LookRelationsWrongFalsely : Prop := lookRelationsRow.holds Tryz.pinned (OpenSpec.ofChange lookRelationsWrong)

/-- 'yuccalaw17.LookBacks': WHATEVER THE INPUT: true; the input reads as it did. -/
def lookBacksSpec : ChangeSpec := { name := "lookBacks", fn := fun _ => fun
  | [d1, d2, d3] => { results := [.lit (.bool true)], args := [d1, d2, d3] }
  | _ => none }
def lookBacksRow : OpenClaim := { program := "ytkcegflhobejmaagreatdoor", sum := "861324e4a77b8ba44f00041781363d39f04889c7aaad2db3025744fd3c9277ca", func := "yucca/yuccalaw17.LookBacks", spec := "lookBacks", unfollowed := true, recurses := true, named := ["math/bits.deBruijn64tab"], plainKeys := false, apart := false, laid := [("math/bits.deBruijn64tab", laid_math_bits_deBruijn64tab)] }
def LookBacksSaid : Prop := lookBacksRow.holds Tryz.pinned (OpenSpec.ofChange lookBacksSpec)

/-- ITS FALSE NEIGHBOUR: 'it returns false'. Refute it at one input. -/
def lookBacksWrong : ChangeSpec := { name := "lookBacks", fn := fun _ => fun
  | [d1, d2, d3] => { results := [.lit (.bool false)], args := [d1, d2, d3] }
  | _ => none }
def LookBacksWrongFalsely : Prop := lookBacksRow.holds Tryz.pinned (OpenSpec.ofChange lookBacksWrong)

/-- 'yuccalaw17.LookTells': WHATEVER THE INPUT: true; the input reads as it did. -/
def lookTellsSpec : ChangeSpec := { name := "lookTells", fn := fun _ => fun
  | [d1, d2] => { results := [.lit (.bool true)], args := [d1, d2] }
  | _ => none }
def lookTellsRow : OpenClaim := { program := "ytkcegflhobejmaagreatdoor", sum := "861324e4a77b8ba44f00041781363d39f04889c7aaad2db3025744fd3c9277ca", func := "yucca/yuccalaw17.LookTells", spec := "lookTells", unfollowed := true, recurses := true, named := ["math/bits.deBruijn64tab"], plainKeys := false, apart := false, laid := [("math/bits.deBruijn64tab", laid_math_bits_deBruijn64tab)] }
def LookTellsSaid : Prop := lookTellsRow.holds Tryz.pinned (OpenSpec.ofChange lookTellsSpec)

/-- ITS FALSE NEIGHBOUR: 'it returns false'. Refute it at one input. -/
def lookTellsWrong : ChangeSpec := { name := "lookTells", fn := fun _ => fun
  | [d1, d2] => { results := [.lit (.bool false)], args := [d1, d2] }
  | _ => none }
def LookTellsWrongFalsely : Prop := lookTellsRow.holds Tryz.pinned (OpenSpec.ofChange lookTellsWrong)

/-- 'yuccalaw17.LookSums': WHATEVER THE INPUT: true; the input reads as it did. -/
def lookSumsSpec : ChangeSpec := { name := "lookSums", fn := fun _ => fun
  | [d] => { results := [.lit (.bool true)], args := [d] }
  | _ => none }
def lookSumsRow : OpenClaim := { program := "ytkcegflhobejmaagreatdoor", sum := "861324e4a77b8ba44f00041781363d39f04889c7aaad2db3025744fd3c9277ca", func := "yucca/yuccalaw17.LookSums", spec := "lookSums", unfollowed := true, recurses := true, named := ["math/bits.deBruijn64tab"], plainKeys := false, apart := false, laid := [("math/bits.deBruijn64tab", laid_math_bits_deBruijn64tab)] }
def LookSumsSaid : Prop := lookSumsRow.holds Tryz.pinned (OpenSpec.ofChange lookSumsSpec)

/-- ITS FALSE NEIGHBOUR: 'it returns false'. Refute it at one input. -/
def lookSumsWrong : ChangeSpec := { name := "lookSums", fn := fun _ => fun
  | [d] => { results := [.lit (.bool false)], args := [d] }
  | _ => none }
def LookSumsWrongFalsely : Prop := lookSumsRow.holds Tryz.pinned (OpenSpec.ofChange lookSumsWrong)

/-- 'yuccalaw17.LookSteps': WHATEVER THE INPUT: true; the input reads as it did. -/
def lookStepsSpec : ChangeSpec := { name := "lookSteps", fn := fun _ => fun
  | [d] => { results := [.lit (.bool true)], args := [d] }
  | _ => none }
def lookStepsRow : OpenClaim := { program := "ytkcegflhobejmaagreatdoor", sum := "861324e4a77b8ba44f00041781363d39f04889c7aaad2db3025744fd3c9277ca", func := "yucca/yuccalaw17.LookSteps", spec := "lookSteps", unfollowed := true, recurses := true, named := ["math/bits.deBruijn64tab"], plainKeys := false, apart := false, laid := [("math/bits.deBruijn64tab", laid_math_bits_deBruijn64tab)] }
def LookStepsSaid : Prop := lookStepsRow.holds Tryz.pinned (OpenSpec.ofChange lookStepsSpec)

/-- ITS FALSE NEIGHBOUR: 'it returns false'. Refute it at one input. -/
def lookStepsWrong : ChangeSpec := { name := "lookSteps", fn := fun _ => fun
  | [d] => { results := [.lit (.bool false)], args := [d] }
  | _ => none }
def LookStepsWrongFalsely : Prop := lookStepsRow.holds Tryz.pinned (OpenSpec.ofChange lookStepsWrong)

/-- 'yuccalaw17.LookReal': WHATEVER THE INPUT: true; the input reads as it did. -/
def lookRealSpec : ChangeSpec := { name := "lookReal", fn := fun _ => fun
  | [d] => { results := [.lit (.bool true)], args := [d] }
  | _ => none }
def lookRealRow : OpenClaim := { program := "ytkcegflhobejmaagreatdoor", sum := "861324e4a77b8ba44f00041781363d39f04889c7aaad2db3025744fd3c9277ca", func := "yucca/yuccalaw17.LookReal", spec := "lookReal", unfollowed := true, recurses := true, named := ["math/bits.deBruijn64tab"], plainKeys := false, apart := false, laid := [("math/bits.deBruijn64tab", laid_math_bits_deBruijn64tab)] }
def LookRealSaid : Prop := lookRealRow.holds Tryz.pinned (OpenSpec.ofChange lookRealSpec)

/-- ITS FALSE NEIGHBOUR: 'it returns false'. Refute it at one input. -/
def lookRealWrong : ChangeSpec := { name := "lookReal", fn := fun _ => fun
  | [d] => { results := [.lit (.bool false)], args := [d] }
  | _ => none }
def LookRealWrongFalsely : Prop := lookRealRow.holds Tryz.pinned (OpenSpec.ofChange lookRealWrong)

/-- 'yuccalaw17.LookHolds': WHATEVER THE INPUT: true; the input reads as it did. -/
def lookHoldsSpec : ChangeSpec := { name := "lookHolds", fn := fun _ => fun
  | [d1, d2] => { results := [.lit (.bool true)], args := [d1, d2] }
  | _ => none }
def lookHoldsRow : OpenClaim := { program := "ytkcegflhobejmaagreatdoor", sum := "861324e4a77b8ba44f00041781363d39f04889c7aaad2db3025744fd3c9277ca", func := "yucca/yuccalaw17.LookHolds", spec := "lookHolds", unfollowed := true, recurses := true, named := ["math/bits.deBruijn64tab"], plainKeys := false, apart := false, laid := [("math/bits.deBruijn64tab", laid_math_bits_deBruijn64tab)] }
def LookHoldsSaid : Prop := lookHoldsRow.holds Tryz.pinned (OpenSpec.ofChange lookHoldsSpec)

/-- ITS FALSE NEIGHBOUR: 'it returns false'. Refute it at one input. -/
def lookHoldsWrong : ChangeSpec := { name := "lookHolds", fn := fun _ => fun
  | [d1, d2] => { results := [.lit (.bool false)], args := [d1, d2] }
  | _ => none }
def LookHoldsWrongFalsely : Prop := lookHoldsRow.holds Tryz.pinned (OpenSpec.ofChange lookHoldsWrong)

/- THE SECOND FORM. 'bulk': how many values and letters a reading holds, each counted each time it is reached (what is shared counts as often as it is met; a slice's spare places count too). A statement '..UptoSaid' is the law's where the arguments, and the package variables that the reading takes, are together of bulk at most 1048576: NARROWER than '..Said'. Prove '..Said' where nothing that the law and all that it calls make is longer than what came in: it says more and counts as full. Else prove '..UptoSaid'. A law counts once. -/
mutual
def uptoBulk {H : Type} : DataW H → Nat
  | .lit (.string bytes) => bytes.length + 1
  | .lit _ => 1
  | .nil => 1
  | .ptr d => uptoBulk d + 1
  | .slice elems spare => uptoBulkAll elems + uptoBulkAll spare + 1
  | .agg parts => uptoBulkAll parts + 1
  | .iface _ d => uptoBulk d + 1
  | .map entries => uptoBulkEntries entries + 1
  | .held _ => 1
def uptoBulkAll {H : Type} : List (DataW H) → Nat
  | [] => 0
  | d :: r => uptoBulk d + uptoBulkAll r
def uptoBulkEntries {H : Type} : List (Lit × DataW H) → Nat
  | [] => 0
  | x :: r => uptoBulkEntry x + uptoBulkEntries r
def uptoBulkEntry {H : Type} : Lit × DataW H → Nat
  | (.string bytes, d) => bytes.length + uptoBulk d + 1
  | (_, d) => uptoBulk d + 1
 end
def uptoSmall : (H : Type) → List (DataW H) → Bool := fun _ ds => decide (uptoBulkAll ds ≤ 1048576)
def OpenSpec.upto (s : _root_.Go.ChangeSpec) : _root_.Go.OpenSpec := { _root_.Go.OpenSpec.ofChange s with cond := some uptoSmall }

/-- 'yuccalaw17.LookRelations', WHERE WHAT IT READS IS OF BULK AT MOST 1048576: true; the input reads as it did. -/
def lookRelationsUptoRow : OpenClaim := { program := "ytkcegflhobejmaagreatdoor", sum := "861324e4a77b8ba44f00041781363d39f04889c7aaad2db3025744fd3c9277ca", func := "yucca/yuccalaw17.LookRelations", spec := "lookRelations", unfollowed := true, recurses := true, named := ["math/bits.deBruijn64tab"], plainKeys := false, apart := false, laid := [("math/bits.deBruijn64tab", laid_math_bits_deBruijn64tab)], narrowed := true }
def LookRelationsUptoSaid : Prop := lookRelationsUptoRow.holds Tryz.pinned (OpenSpec.upto lookRelationsSpec)

/-- 'yuccalaw17.LookBacks', WHERE WHAT IT READS IS OF BULK AT MOST 1048576: true; the input reads as it did. -/
def lookBacksUptoRow : OpenClaim := { program := "ytkcegflhobejmaagreatdoor", sum := "861324e4a77b8ba44f00041781363d39f04889c7aaad2db3025744fd3c9277ca", func := "yucca/yuccalaw17.LookBacks", spec := "lookBacks", unfollowed := true, recurses := true, named := ["math/bits.deBruijn64tab"], plainKeys := false, apart := false, laid := [("math/bits.deBruijn64tab", laid_math_bits_deBruijn64tab)], narrowed := true }
def LookBacksUptoSaid : Prop := lookBacksUptoRow.holds Tryz.pinned (OpenSpec.upto lookBacksSpec)

/-- 'yuccalaw17.LookTells', WHERE WHAT IT READS IS OF BULK AT MOST 1048576: true; the input reads as it did. -/
def lookTellsUptoRow : OpenClaim := { program := "ytkcegflhobejmaagreatdoor", sum := "861324e4a77b8ba44f00041781363d39f04889c7aaad2db3025744fd3c9277ca", func := "yucca/yuccalaw17.LookTells", spec := "lookTells", unfollowed := true, recurses := true, named := ["math/bits.deBruijn64tab"], plainKeys := false, apart := false, laid := [("math/bits.deBruijn64tab", laid_math_bits_deBruijn64tab)], narrowed := true }
def LookTellsUptoSaid : Prop := lookTellsUptoRow.holds Tryz.pinned (OpenSpec.upto lookTellsSpec)

/-- 'yuccalaw17.LookSums', WHERE WHAT IT READS IS OF BULK AT MOST 1048576: true; the input reads as it did. -/
def lookSumsUptoRow : OpenClaim := { program := "ytkcegflhobejmaagreatdoor", sum := "861324e4a77b8ba44f00041781363d39f04889c7aaad2db3025744fd3c9277ca", func := "yucca/yuccalaw17.LookSums", spec := "lookSums", unfollowed := true, recurses := true, named := ["math/bits.deBruijn64tab"], plainKeys := false, apart := false, laid := [("math/bits.deBruijn64tab", laid_math_bits_deBruijn64tab)], narrowed := true }
def LookSumsUptoSaid : Prop := lookSumsUptoRow.holds Tryz.pinned (OpenSpec.upto lookSumsSpec)

/-- 'yuccalaw17.LookSteps', WHERE WHAT IT READS IS OF BULK AT MOST 1048576: true; the input reads as it did. -/
def lookStepsUptoRow : OpenClaim := { program := "ytkcegflhobejmaagreatdoor", sum := "861324e4a77b8ba44f00041781363d39f04889c7aaad2db3025744fd3c9277ca", func := "yucca/yuccalaw17.LookSteps", spec := "lookSteps", unfollowed := true, recurses := true, named := ["math/bits.deBruijn64tab"], plainKeys := false, apart := false, laid := [("math/bits.deBruijn64tab", laid_math_bits_deBruijn64tab)], narrowed := true }
def LookStepsUptoSaid : Prop := lookStepsUptoRow.holds Tryz.pinned (OpenSpec.upto lookStepsSpec)

/-- 'yuccalaw17.LookReal', WHERE WHAT IT READS IS OF BULK AT MOST 1048576: true; the input reads as it did. -/
def lookRealUptoRow : OpenClaim := { program := "ytkcegflhobejmaagreatdoor", sum := "861324e4a77b8ba44f00041781363d39f04889c7aaad2db3025744fd3c9277ca", func := "yucca/yuccalaw17.LookReal", spec := "lookReal", unfollowed := true, recurses := true, named := ["math/bits.deBruijn64tab"], plainKeys := false, apart := false, laid := [("math/bits.deBruijn64tab", laid_math_bits_deBruijn64tab)], narrowed := true }
def LookRealUptoSaid : Prop := lookRealUptoRow.holds Tryz.pinned (OpenSpec.upto lookRealSpec)

/-- 'yuccalaw17.LookHolds', WHERE WHAT IT READS IS OF BULK AT MOST 1048576: true; the input reads as it did. -/
def lookHoldsUptoRow : OpenClaim := { program := "ytkcegflhobejmaagreatdoor", sum := "861324e4a77b8ba44f00041781363d39f04889c7aaad2db3025744fd3c9277ca", func := "yucca/yuccalaw17.LookHolds", spec := "lookHolds", unfollowed := true, recurses := true, named := ["math/bits.deBruijn64tab"], plainKeys := false, apart := false, laid := [("math/bits.deBruijn64tab", laid_math_bits_deBruijn64tab)], narrowed := true }
def LookHoldsUptoSaid : Prop := lookHoldsUptoRow.holds Tryz.pinned (OpenSpec.upto lookHoldsSpec)

end Rows
end Go.Proofs.YtkcegflhobejmaaGreatDoor
