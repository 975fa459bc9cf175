/-
  DERIVED. GIVEN WITH THE SEED: THE CARDS: each row of YtgehkpbjmmcgdaaDoorRows.lean that lists a variable, with what it lists TIED to the program's text (the seventh form; the later family's looks); each row that meets fmt, with fmt's text TOLD by the authors' own Lean function (tested against real Go, not proved from fmt's source: count such statements apart). THE CARD IS WHAT COUNTS. Prove the row's statement (the work); the ties are given (YtgehkpbjmmcgdaaDoorTie.lean); close each card by the builder's one call (the guide's Derived/Test/ToyasCard.lean, 'card_holds'). Laid BY PROGRAM, IN A SANDBOX (cutbox-door.mjs). By AI agents, Wed Nov 11 2026. No macro, syntax, notation, axiom, sorry.
-/
import Derived.Test.YtgehkpbjmmcgdaaDoorRows
import GoSem.ClaimSeven
namespace Go.Proofs.YtgehkpbjmmcgdaaDoor
namespace Rows

/-- THE TIED CARD OF 'yuccalaw1.BitsSets'. -/
def bitsSetsCard : Claim7 := { stood := { row := bitsSetsRow, standIns := [], harness := (true, "c68d22d6d8f63138d725a39cf6e92a4fa319695857b8cfde3311039cd2d7b1fc"), looks := false }, kinds := [], alts := [], laidByText := true, laidKinds := [.data], laidTests := true, laidLooks := .later }
def BitsSetsCardSaid : Prop := Claim7.holds Tryd.pinned (.plain (OpenSpec.ofChange bitsSetsSpec)) bitsSetsCard

/-- THE TIED CARD OF 'yuccalaw1.BitsPairs'. -/
def bitsPairsCard : Claim7 := { stood := { row := bitsPairsRow, standIns := [], harness := (true, "c68d22d6d8f63138d725a39cf6e92a4fa319695857b8cfde3311039cd2d7b1fc"), looks := false }, kinds := [], alts := [], laidByText := true, laidKinds := [.data], laidTests := true, laidLooks := .later }
def BitsPairsCardSaid : Prop := Claim7.holds Tryd.pinned (.plain (OpenSpec.ofChange bitsPairsSpec)) bitsPairsCard

/-- THE TIED CARD OF 'yuccalaw1.BitsTurns'. -/
def bitsTurnsCard : Claim7 := { stood := { row := bitsTurnsRow, standIns := [], harness := (true, "c68d22d6d8f63138d725a39cf6e92a4fa319695857b8cfde3311039cd2d7b1fc"), looks := false }, kinds := [], alts := [], laidByText := true, laidKinds := [.data], laidTests := true, laidLooks := .later }
def BitsTurnsCardSaid : Prop := Claim7.holds Tryd.pinned (.plain (OpenSpec.ofChange bitsTurnsSpec)) bitsTurnsCard

/-- THE TIED CARD OF 'yuccalaw1.BitsOps'. -/
def bitsOpsCard : Claim7 := { stood := { row := bitsOpsRow, standIns := [], harness := (true, "c68d22d6d8f63138d725a39cf6e92a4fa319695857b8cfde3311039cd2d7b1fc"), looks := false }, kinds := [], alts := [], laidByText := true, laidKinds := [.data], laidTests := true, laidLooks := .later }
def BitsOpsCardSaid : Prop := Claim7.holds Tryd.pinned (.plain (OpenSpec.ofChange bitsOpsSpec)) bitsOpsCard

/-- THE TIED CARD OF 'yuccalaw1.BitsLaws'. -/
def bitsLawsCard : Claim7 := { stood := { row := bitsLawsRow, standIns := [], harness := (true, "c68d22d6d8f63138d725a39cf6e92a4fa319695857b8cfde3311039cd2d7b1fc"), looks := false }, kinds := [], alts := [], laidByText := true, laidKinds := [.data], laidTests := true, laidLooks := .later }
def BitsLawsCardSaid : Prop := Claim7.holds Tryd.pinned (.plain (OpenSpec.ofChange bitsLawsSpec)) bitsLawsCard

/-- THE SECOND FORM's CARD OF 'yuccalaw1.BitsSets'. -/
def bitsSetsUptoCard : Claim7 := { stood := { row := bitsSetsUptoRow, standIns := [], harness := (true, "c68d22d6d8f63138d725a39cf6e92a4fa319695857b8cfde3311039cd2d7b1fc"), looks := false }, kinds := [], alts := [], laidByText := true, laidKinds := [.data], laidTests := true, laidLooks := .later }
def BitsSetsUptoCardSaid : Prop := Claim7.holds Tryd.pinned (.plain (OpenSpec.upto bitsSetsSpec)) bitsSetsUptoCard

/-- THE SECOND FORM's CARD OF 'yuccalaw1.BitsPairs'. -/
def bitsPairsUptoCard : Claim7 := { stood := { row := bitsPairsUptoRow, standIns := [], harness := (true, "c68d22d6d8f63138d725a39cf6e92a4fa319695857b8cfde3311039cd2d7b1fc"), looks := false }, kinds := [], alts := [], laidByText := true, laidKinds := [.data], laidTests := true, laidLooks := .later }
def BitsPairsUptoCardSaid : Prop := Claim7.holds Tryd.pinned (.plain (OpenSpec.upto bitsPairsSpec)) bitsPairsUptoCard

/-- THE SECOND FORM's CARD OF 'yuccalaw1.BitsTurns'. -/
def bitsTurnsUptoCard : Claim7 := { stood := { row := bitsTurnsUptoRow, standIns := [], harness := (true, "c68d22d6d8f63138d725a39cf6e92a4fa319695857b8cfde3311039cd2d7b1fc"), looks := false }, kinds := [], alts := [], laidByText := true, laidKinds := [.data], laidTests := true, laidLooks := .later }
def BitsTurnsUptoCardSaid : Prop := Claim7.holds Tryd.pinned (.plain (OpenSpec.upto bitsTurnsSpec)) bitsTurnsUptoCard

/-- THE SECOND FORM's CARD OF 'yuccalaw1.BitsOps'. -/
def bitsOpsUptoCard : Claim7 := { stood := { row := bitsOpsUptoRow, standIns := [], harness := (true, "c68d22d6d8f63138d725a39cf6e92a4fa319695857b8cfde3311039cd2d7b1fc"), looks := false }, kinds := [], alts := [], laidByText := true, laidKinds := [.data], laidTests := true, laidLooks := .later }
def BitsOpsUptoCardSaid : Prop := Claim7.holds Tryd.pinned (.plain (OpenSpec.upto bitsOpsSpec)) bitsOpsUptoCard

/-- THE SECOND FORM's CARD OF 'yuccalaw1.BitsLaws'. -/
def bitsLawsUptoCard : Claim7 := { stood := { row := bitsLawsUptoRow, standIns := [], harness := (true, "c68d22d6d8f63138d725a39cf6e92a4fa319695857b8cfde3311039cd2d7b1fc"), looks := false }, kinds := [], alts := [], laidByText := true, laidKinds := [.data], laidTests := true, laidLooks := .later }
def BitsLawsUptoCardSaid : Prop := Claim7.holds Tryd.pinned (.plain (OpenSpec.upto bitsLawsSpec)) bitsLawsUptoCard
end Rows
end Go.Proofs.YtgehkpbjmmcgdaaDoor
