/-
  DERIVED. GIVEN WITH THE SEED: THE CARDS: each row of YtjdjdbkoplmjeaaDoorRows.lean that lists a variable, with what it lists TIED to the program's text (the seventh form; the later family's looks); each row that meets fmt, with fmt's text TOLD by the authors' own Lean function (tested against real Go, not proved from fmt's source: count such statements apart). THE CARD IS WHAT COUNTS. Prove the row's statement (the work); the ties are given (YtjdjdbkoplmjeaaDoorTie.lean); close each card by the builder's one call (the guide's Derived/Test/ToyasCard.lean, 'card_holds'). Laid BY PROGRAM, IN A SANDBOX (cutbox-door.mjs). By AI agents, Wed Nov 11 2026. No macro, syntax, notation, axiom, sorry.
-/
import Derived.Test.YtjdjdbkoplmjeaaDoorRows
import GoSem.ClaimSeven
namespace Go.Proofs.YtjdjdbkoplmjeaaDoor
namespace Rows

/-- THE TIED CARD OF 'yuccalaw11.VainRules'. -/
def vainRulesCard : Claim7 := { stood := { row := vainRulesRow, standIns := [], harness := (true, "bd895e46c1e5b02f3bf5b4377217fd7b0491fd67231ab80639bebe39ae8e941f"), looks := false }, kinds := [], alts := [], laidByText := true, laidKinds := [.data], laidTests := true, laidLooks := .later }
def VainRulesCardSaid : Prop := Claim7.holds Tryd.pinned (.plain (OpenSpec.ofChange vainRulesSpec)) vainRulesCard

/-- THE TIED CARD OF 'yuccalaw11.VainChain'. -/
def vainChainCard : Claim7 := { stood := { row := vainChainRow, standIns := [], harness := (true, "bd895e46c1e5b02f3bf5b4377217fd7b0491fd67231ab80639bebe39ae8e941f"), looks := false }, kinds := [], alts := [], laidByText := true, laidKinds := [.data], laidTests := true, laidLooks := .later }
def VainChainCardSaid : Prop := Claim7.holds Tryd.pinned (.plain (OpenSpec.ofChange vainChainSpec)) vainChainCard

/-- THE TIED CARD OF 'yuccalaw11.VainRounds'. -/
def vainRoundsCard : Claim7 := { stood := { row := vainRoundsRow, standIns := [], harness := (true, "bd895e46c1e5b02f3bf5b4377217fd7b0491fd67231ab80639bebe39ae8e941f"), looks := false }, kinds := [], alts := [], laidByText := true, laidKinds := [.data], laidTests := true, laidLooks := .later }
def VainRoundsCardSaid : Prop := Claim7.holds Tryd.pinned (.plain (OpenSpec.ofChange vainRoundsSpec)) vainRoundsCard

/-- THE SECOND FORM's CARD OF 'yuccalaw11.VainRules'. -/
def vainRulesUptoCard : Claim7 := { stood := { row := vainRulesUptoRow, standIns := [], harness := (true, "bd895e46c1e5b02f3bf5b4377217fd7b0491fd67231ab80639bebe39ae8e941f"), looks := false }, kinds := [], alts := [], laidByText := true, laidKinds := [.data], laidTests := true, laidLooks := .later }
def VainRulesUptoCardSaid : Prop := Claim7.holds Tryd.pinned (.plain (OpenSpec.upto vainRulesSpec)) vainRulesUptoCard

/-- THE SECOND FORM's CARD OF 'yuccalaw11.VainChain'. -/
def vainChainUptoCard : Claim7 := { stood := { row := vainChainUptoRow, standIns := [], harness := (true, "bd895e46c1e5b02f3bf5b4377217fd7b0491fd67231ab80639bebe39ae8e941f"), looks := false }, kinds := [], alts := [], laidByText := true, laidKinds := [.data], laidTests := true, laidLooks := .later }
def VainChainUptoCardSaid : Prop := Claim7.holds Tryd.pinned (.plain (OpenSpec.upto vainChainSpec)) vainChainUptoCard

/-- THE SECOND FORM's CARD OF 'yuccalaw11.VainRounds'. -/
def vainRoundsUptoCard : Claim7 := { stood := { row := vainRoundsUptoRow, standIns := [], harness := (true, "bd895e46c1e5b02f3bf5b4377217fd7b0491fd67231ab80639bebe39ae8e941f"), looks := false }, kinds := [], alts := [], laidByText := true, laidKinds := [.data], laidTests := true, laidLooks := .later }
def VainRoundsUptoCardSaid : Prop := Claim7.holds Tryd.pinned (.plain (OpenSpec.upto vainRoundsSpec)) vainRoundsUptoCard
end Rows
end Go.Proofs.YtjdjdbkoplmjeaaDoor
