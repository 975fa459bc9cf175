/-
  DERIVED. GIVEN WITH THE SEED: THE CARDS: each row of YtkcegflhobejmaaGreatDoorRows.lean that lists a variable, with what it lists TIED to the program's text (the seventh form; the later family's looks); each row that meets fmt, with fmt's text TOLD by the authors' own Lean function (tested against real Go, not proved from fmt's source: count such statements apart). THE CARD IS WHAT COUNTS. Prove the row's statement (the work); the ties are given (YtkcegflhobejmaaGreatDoorTie.lean); close each card by the builder's one call (the guide's Derived/Test/ToyasCard.lean, 'card_holds'). Laid BY PROGRAM, IN A SANDBOX (cutbox-door.mjs). By AI agents, Wed Nov 11 2026. No macro, syntax, notation, axiom, sorry.
-/
import Derived.Test.YtkcegflhobejmaaGreatDoorRows
import GoSem.ClaimSeven
namespace Go.Proofs.YtkcegflhobejmaaGreatDoor
namespace Rows

/-- THE TIED CARD OF 'yuccalaw17.LookRelations'. -/
def lookRelationsCard : Claim7 := { stood := { row := lookRelationsRow, standIns := [], harness := (true, "b52d88bcd176940b29e5459e5dd51b3d714166e2f7cc91336b83b362bbcd6ff1"), looks := false }, kinds := [], alts := [], laidByText := true, laidKinds := [.data], laidTests := true, laidLooks := .later }
def LookRelationsCardSaid : Prop := Claim7.holds Tryz.pinned (.plain (OpenSpec.ofChange lookRelationsSpec)) lookRelationsCard

/-- THE TIED CARD OF 'yuccalaw17.LookBacks'. -/
def lookBacksCard : Claim7 := { stood := { row := lookBacksRow, standIns := [], harness := (true, "b52d88bcd176940b29e5459e5dd51b3d714166e2f7cc91336b83b362bbcd6ff1"), looks := false }, kinds := [], alts := [], laidByText := true, laidKinds := [.data], laidTests := true, laidLooks := .later }
def LookBacksCardSaid : Prop := Claim7.holds Tryz.pinned (.plain (OpenSpec.ofChange lookBacksSpec)) lookBacksCard

/-- THE TIED CARD OF 'yuccalaw17.LookTells'. -/
def lookTellsCard : Claim7 := { stood := { row := lookTellsRow, standIns := [], harness := (true, "b52d88bcd176940b29e5459e5dd51b3d714166e2f7cc91336b83b362bbcd6ff1"), looks := false }, kinds := [], alts := [], laidByText := true, laidKinds := [.data], laidTests := true, laidLooks := .later }
def LookTellsCardSaid : Prop := Claim7.holds Tryz.pinned (.plain (OpenSpec.ofChange lookTellsSpec)) lookTellsCard

/-- THE TIED CARD OF 'yuccalaw17.LookSums'. -/
def lookSumsCard : Claim7 := { stood := { row := lookSumsRow, standIns := [], harness := (true, "b52d88bcd176940b29e5459e5dd51b3d714166e2f7cc91336b83b362bbcd6ff1"), looks := false }, kinds := [], alts := [], laidByText := true, laidKinds := [.data], laidTests := true, laidLooks := .later }
def LookSumsCardSaid : Prop := Claim7.holds Tryz.pinned (.plain (OpenSpec.ofChange lookSumsSpec)) lookSumsCard

/-- THE TIED CARD OF 'yuccalaw17.LookSteps'. -/
def lookStepsCard : Claim7 := { stood := { row := lookStepsRow, standIns := [], harness := (true, "b52d88bcd176940b29e5459e5dd51b3d714166e2f7cc91336b83b362bbcd6ff1"), looks := false }, kinds := [], alts := [], laidByText := true, laidKinds := [.data], laidTests := true, laidLooks := .later }
def LookStepsCardSaid : Prop := Claim7.holds Tryz.pinned (.plain (OpenSpec.ofChange lookStepsSpec)) lookStepsCard

/-- THE TIED CARD OF 'yuccalaw17.LookReal'. -/
def lookRealCard : Claim7 := { stood := { row := lookRealRow, standIns := [], harness := (true, "b52d88bcd176940b29e5459e5dd51b3d714166e2f7cc91336b83b362bbcd6ff1"), looks := false }, kinds := [], alts := [], laidByText := true, laidKinds := [.data], laidTests := true, laidLooks := .later }
def LookRealCardSaid : Prop := Claim7.holds Tryz.pinned (.plain (OpenSpec.ofChange lookRealSpec)) lookRealCard

/-- THE TIED CARD OF 'yuccalaw17.LookHolds'. -/
def lookHoldsCard : Claim7 := { stood := { row := lookHoldsRow, standIns := [], harness := (true, "b52d88bcd176940b29e5459e5dd51b3d714166e2f7cc91336b83b362bbcd6ff1"), looks := false }, kinds := [], alts := [], laidByText := true, laidKinds := [.data], laidTests := true, laidLooks := .later }
def LookHoldsCardSaid : Prop := Claim7.holds Tryz.pinned (.plain (OpenSpec.ofChange lookHoldsSpec)) lookHoldsCard

/-- THE SECOND FORM's CARD OF 'yuccalaw17.LookRelations'. -/
def lookRelationsUptoCard : Claim7 := { stood := { row := lookRelationsUptoRow, standIns := [], harness := (true, "b52d88bcd176940b29e5459e5dd51b3d714166e2f7cc91336b83b362bbcd6ff1"), looks := false }, kinds := [], alts := [], laidByText := true, laidKinds := [.data], laidTests := true, laidLooks := .later }
def LookRelationsUptoCardSaid : Prop := Claim7.holds Tryz.pinned (.plain (OpenSpec.upto lookRelationsSpec)) lookRelationsUptoCard

/-- THE SECOND FORM's CARD OF 'yuccalaw17.LookBacks'. -/
def lookBacksUptoCard : Claim7 := { stood := { row := lookBacksUptoRow, standIns := [], harness := (true, "b52d88bcd176940b29e5459e5dd51b3d714166e2f7cc91336b83b362bbcd6ff1"), looks := false }, kinds := [], alts := [], laidByText := true, laidKinds := [.data], laidTests := true, laidLooks := .later }
def LookBacksUptoCardSaid : Prop := Claim7.holds Tryz.pinned (.plain (OpenSpec.upto lookBacksSpec)) lookBacksUptoCard

/-- THE SECOND FORM's CARD OF 'yuccalaw17.LookTells'. -/
def lookTellsUptoCard : Claim7 := { stood := { row := lookTellsUptoRow, standIns := [], harness := (true, "b52d88bcd176940b29e5459e5dd51b3d714166e2f7cc91336b83b362bbcd6ff1"), looks := false }, kinds := [], alts := [], laidByText := true, laidKinds := [.data], laidTests := true, laidLooks := .later }
def LookTellsUptoCardSaid : Prop := Claim7.holds Tryz.pinned (.plain (OpenSpec.upto lookTellsSpec)) lookTellsUptoCard

/-- THE SECOND FORM's CARD OF 'yuccalaw17.LookSums'. -/
def lookSumsUptoCard : Claim7 := { stood := { row := lookSumsUptoRow, standIns := [], harness := (true, "b52d88bcd176940b29e5459e5dd51b3d714166e2f7cc91336b83b362bbcd6ff1"), looks := false }, kinds := [], alts := [], laidByText := true, laidKinds := [.data], laidTests := true, laidLooks := .later }
def LookSumsUptoCardSaid : Prop := Claim7.holds Tryz.pinned (.plain (OpenSpec.upto lookSumsSpec)) lookSumsUptoCard

/-- THE SECOND FORM's CARD OF 'yuccalaw17.LookSteps'. -/
def lookStepsUptoCard : Claim7 := { stood := { row := lookStepsUptoRow, standIns := [], harness := (true, "b52d88bcd176940b29e5459e5dd51b3d714166e2f7cc91336b83b362bbcd6ff1"), looks := false }, kinds := [], alts := [], laidByText := true, laidKinds := [.data], laidTests := true, laidLooks := .later }
def LookStepsUptoCardSaid : Prop := Claim7.holds Tryz.pinned (.plain (OpenSpec.upto lookStepsSpec)) lookStepsUptoCard

/-- THE SECOND FORM's CARD OF 'yuccalaw17.LookReal'. -/
def lookRealUptoCard : Claim7 := { stood := { row := lookRealUptoRow, standIns := [], harness := (true, "b52d88bcd176940b29e5459e5dd51b3d714166e2f7cc91336b83b362bbcd6ff1"), looks := false }, kinds := [], alts := [], laidByText := true, laidKinds := [.data], laidTests := true, laidLooks := .later }
def LookRealUptoCardSaid : Prop := Claim7.holds Tryz.pinned (.plain (OpenSpec.upto lookRealSpec)) lookRealUptoCard

/-- THE SECOND FORM's CARD OF 'yuccalaw17.LookHolds'. -/
def lookHoldsUptoCard : Claim7 := { stood := { row := lookHoldsUptoRow, standIns := [], harness := (true, "b52d88bcd176940b29e5459e5dd51b3d714166e2f7cc91336b83b362bbcd6ff1"), looks := false }, kinds := [], alts := [], laidByText := true, laidKinds := [.data], laidTests := true, laidLooks := .later }
def LookHoldsUptoCardSaid : Prop := Claim7.holds Tryz.pinned (.plain (OpenSpec.upto lookHoldsSpec)) lookHoldsUptoCard
end Rows
end Go.Proofs.YtkcegflhobejmaaGreatDoor
