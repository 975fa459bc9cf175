/-
  DERIVED. GIVEN WITH THE SEED: THE CARDS: each row of YtnglccjjgbdfgaaDoorRows.lean that lists a variable, with what it lists TIED to the program's text (the seventh form; the later family's looks); each row that meets fmt, with fmt's text TOLD by the authors' own Lean function (tested against real Go, not proved from fmt's source: count such statements apart). THE CARD IS WHAT COUNTS. Prove the row's statement (the work); the ties are given (YtnglccjjgbdfgaaDoorTie.lean); close each card by the builder's one call (the guide's Derived/Test/ToyasCard.lean, 'card_holds'). Laid BY PROGRAM, IN A SANDBOX (cutbox-door.mjs). By AI agents, Wed Nov 11 2026. No macro, syntax, notation, axiom, sorry.
-/
import Derived.Test.YtnglccjjgbdfgaaDoorRows
import GoSem.ClaimSeven
namespace Go.Proofs.YtnglccjjgbdfgaaDoor
namespace Rows

/-- THE TIED CARD OF 'yuccalaw3.GraphClose'. -/
def graphCloseCard : Claim7 := { stood := { row := graphCloseRow, standIns := [], harness := (true, "309192e84f9e6039fac85bc93ba3c878b5212f0b5a43ade62a7dff70a0c71d52"), looks := false }, kinds := [], alts := [], laidByText := true, laidKinds := [.data], laidTests := true, laidLooks := .later }
def GraphCloseCardSaid : Prop := Claim7.holds Tryd.pinned (.plain (OpenSpec.ofChange graphCloseSpec)) graphCloseCard

/-- THE TIED CARD OF 'yuccalaw3.GraphComps'. -/
def graphCompsCard : Claim7 := { stood := { row := graphCompsRow, standIns := [], harness := (true, "309192e84f9e6039fac85bc93ba3c878b5212f0b5a43ade62a7dff70a0c71d52"), looks := false }, kinds := [], alts := [], laidByText := true, laidKinds := [.data], laidTests := true, laidLooks := .later }
def GraphCompsCardSaid : Prop := Claim7.holds Tryd.pinned (.plain (OpenSpec.ofChange graphCompsSpec)) graphCompsCard

/-- THE TIED CARD OF 'yuccalaw3.GraphChains'. -/
def graphChainsCard : Claim7 := { stood := { row := graphChainsRow, standIns := [], harness := (true, "309192e84f9e6039fac85bc93ba3c878b5212f0b5a43ade62a7dff70a0c71d52"), looks := false }, kinds := [], alts := [], laidByText := true, laidKinds := [.data], laidTests := true, laidLooks := .later }
def GraphChainsCardSaid : Prop := Claim7.holds Tryd.pinned (.plain (OpenSpec.ofChange graphChainsSpec)) graphChainsCard

/-- THE TIED CARD OF 'yuccalaw3.GraphTwice'. -/
def graphTwiceCard : Claim7 := { stood := { row := graphTwiceRow, standIns := [], harness := (true, "309192e84f9e6039fac85bc93ba3c878b5212f0b5a43ade62a7dff70a0c71d52"), looks := false }, kinds := [], alts := [], laidByText := true, laidKinds := [.data], laidTests := true, laidLooks := .later }
def GraphTwiceCardSaid : Prop := Claim7.holds Tryd.pinned (.plain (OpenSpec.ofChange graphTwiceSpec)) graphTwiceCard

/-- THE TIED CARD OF 'yuccalaw3.GraphMany'. -/
def graphManyCard : Claim7 := { stood := { row := graphManyRow, standIns := [], harness := (true, "309192e84f9e6039fac85bc93ba3c878b5212f0b5a43ade62a7dff70a0c71d52"), looks := false }, kinds := [], alts := [], laidByText := true, laidKinds := [.data], laidTests := true, laidLooks := .later }
def GraphManyCardSaid : Prop := Claim7.holds Tryd.pinned (.plain (OpenSpec.ofChange graphManySpec)) graphManyCard

/-- THE SECOND FORM's CARD OF 'yuccalaw3.GraphClose'. -/
def graphCloseUptoCard : Claim7 := { stood := { row := graphCloseUptoRow, standIns := [], harness := (true, "309192e84f9e6039fac85bc93ba3c878b5212f0b5a43ade62a7dff70a0c71d52"), looks := false }, kinds := [], alts := [], laidByText := true, laidKinds := [.data], laidTests := true, laidLooks := .later }
def GraphCloseUptoCardSaid : Prop := Claim7.holds Tryd.pinned (.plain (OpenSpec.upto graphCloseSpec)) graphCloseUptoCard

/-- THE SECOND FORM's CARD OF 'yuccalaw3.GraphComps'. -/
def graphCompsUptoCard : Claim7 := { stood := { row := graphCompsUptoRow, standIns := [], harness := (true, "309192e84f9e6039fac85bc93ba3c878b5212f0b5a43ade62a7dff70a0c71d52"), looks := false }, kinds := [], alts := [], laidByText := true, laidKinds := [.data], laidTests := true, laidLooks := .later }
def GraphCompsUptoCardSaid : Prop := Claim7.holds Tryd.pinned (.plain (OpenSpec.upto graphCompsSpec)) graphCompsUptoCard

/-- THE SECOND FORM's CARD OF 'yuccalaw3.GraphChains'. -/
def graphChainsUptoCard : Claim7 := { stood := { row := graphChainsUptoRow, standIns := [], harness := (true, "309192e84f9e6039fac85bc93ba3c878b5212f0b5a43ade62a7dff70a0c71d52"), looks := false }, kinds := [], alts := [], laidByText := true, laidKinds := [.data], laidTests := true, laidLooks := .later }
def GraphChainsUptoCardSaid : Prop := Claim7.holds Tryd.pinned (.plain (OpenSpec.upto graphChainsSpec)) graphChainsUptoCard

/-- THE SECOND FORM's CARD OF 'yuccalaw3.GraphTwice'. -/
def graphTwiceUptoCard : Claim7 := { stood := { row := graphTwiceUptoRow, standIns := [], harness := (true, "309192e84f9e6039fac85bc93ba3c878b5212f0b5a43ade62a7dff70a0c71d52"), looks := false }, kinds := [], alts := [], laidByText := true, laidKinds := [.data], laidTests := true, laidLooks := .later }
def GraphTwiceUptoCardSaid : Prop := Claim7.holds Tryd.pinned (.plain (OpenSpec.upto graphTwiceSpec)) graphTwiceUptoCard

/-- THE SECOND FORM's CARD OF 'yuccalaw3.GraphMany'. -/
def graphManyUptoCard : Claim7 := { stood := { row := graphManyUptoRow, standIns := [], harness := (true, "309192e84f9e6039fac85bc93ba3c878b5212f0b5a43ade62a7dff70a0c71d52"), looks := false }, kinds := [], alts := [], laidByText := true, laidKinds := [.data], laidTests := true, laidLooks := .later }
def GraphManyUptoCardSaid : Prop := Claim7.holds Tryd.pinned (.plain (OpenSpec.upto graphManySpec)) graphManyUptoCard
end Rows
end Go.Proofs.YtnglccjjgbdfgaaDoor
