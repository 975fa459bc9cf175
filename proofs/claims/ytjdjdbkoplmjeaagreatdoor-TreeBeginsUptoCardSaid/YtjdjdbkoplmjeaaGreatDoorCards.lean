/-
  DERIVED. GIVEN WITH THE SEED: THE CARDS: each row of YtjdjdbkoplmjeaaGreatDoorRows.lean that lists a variable, with what it lists TIED to the program's text (the seventh form; the later family's looks); each row that meets fmt, with fmt's text TOLD by the authors' own Lean function (tested against real Go, not proved from fmt's source: count such statements apart). THE CARD IS WHAT COUNTS. Prove the row's statement (the work); the ties are given (YtjdjdbkoplmjeaaGreatDoorTie.lean); close each card by the builder's one call (the guide's Derived/Test/ToyasCard.lean, 'card_holds'). Laid BY PROGRAM, IN A SANDBOX (cutbox-door.mjs). By AI agents, Wed Nov 11 2026. No macro, syntax, notation, axiom, sorry.
-/
import Derived.Test.YtjdjdbkoplmjeaaGreatDoorRows
import GoSem.ClaimSeven
namespace Go.Proofs.YtjdjdbkoplmjeaaGreatDoor
namespace Rows

/-- THE TIED CARD OF 'yuccalaw11.VainTells'. -/
def vainTellsCard : Claim7 := { stood := { row := vainTellsRow, standIns := [], harness := (true, "e6858bf82ea52236633c6ada15c57a07ae223d29938dfd04054314bd11721411"), looks := false }, kinds := [], alts := [], laidByText := true, laidKinds := [.data], laidTests := true, laidLooks := .later }
def VainTellsCardSaid : Prop := Claim7.holds Tryz.pinned (.plain (OpenSpec.ofChange vainTellsSpec)) vainTellsCard

/-- THE TIED CARD OF 'yuccalaw11.VainEmpty'. -/
def vainEmptyCard : Claim7 := { stood := { row := vainEmptyRow, standIns := [], harness := (true, "e6858bf82ea52236633c6ada15c57a07ae223d29938dfd04054314bd11721411"), looks := false }, kinds := [], alts := [], laidByText := true, laidKinds := [.data], laidTests := true, laidLooks := .later }
def VainEmptyCardSaid : Prop := Claim7.holds Tryz.pinned (.plain (OpenSpec.ofChange vainEmptySpec)) vainEmptyCard

/-- THE TIED CARD OF 'yuccalaw13.TreeBegins'. -/
def treeBeginsCard : Claim7 := { stood := { row := treeBeginsRow, standIns := [], harness := (true, "e6858bf82ea52236633c6ada15c57a07ae223d29938dfd04054314bd11721411"), looks := false }, kinds := [], alts := [], laidByText := true, laidKinds := [.data], laidTests := true, laidLooks := .later }
def TreeBeginsCardSaid : Prop := Claim7.holds Tryz.pinned (.plain (OpenSpec.ofChange treeBeginsSpec)) treeBeginsCard

/-- THE SECOND FORM's CARD OF 'yuccalaw11.VainTells'. -/
def vainTellsUptoCard : Claim7 := { stood := { row := vainTellsUptoRow, standIns := [], harness := (true, "e6858bf82ea52236633c6ada15c57a07ae223d29938dfd04054314bd11721411"), looks := false }, kinds := [], alts := [], laidByText := true, laidKinds := [.data], laidTests := true, laidLooks := .later }
def VainTellsUptoCardSaid : Prop := Claim7.holds Tryz.pinned (.plain (OpenSpec.upto vainTellsSpec)) vainTellsUptoCard

/-- THE SECOND FORM's CARD OF 'yuccalaw11.VainEmpty'. -/
def vainEmptyUptoCard : Claim7 := { stood := { row := vainEmptyUptoRow, standIns := [], harness := (true, "e6858bf82ea52236633c6ada15c57a07ae223d29938dfd04054314bd11721411"), looks := false }, kinds := [], alts := [], laidByText := true, laidKinds := [.data], laidTests := true, laidLooks := .later }
def VainEmptyUptoCardSaid : Prop := Claim7.holds Tryz.pinned (.plain (OpenSpec.upto vainEmptySpec)) vainEmptyUptoCard

/-- THE SECOND FORM's CARD OF 'yuccalaw13.TreeBegins'. -/
def treeBeginsUptoCard : Claim7 := { stood := { row := treeBeginsUptoRow, standIns := [], harness := (true, "e6858bf82ea52236633c6ada15c57a07ae223d29938dfd04054314bd11721411"), looks := false }, kinds := [], alts := [], laidByText := true, laidKinds := [.data], laidTests := true, laidLooks := .later }
def TreeBeginsUptoCardSaid : Prop := Claim7.holds Tryz.pinned (.plain (OpenSpec.upto treeBeginsSpec)) treeBeginsUptoCard
end Rows
end Go.Proofs.YtjdjdbkoplmjeaaGreatDoor
