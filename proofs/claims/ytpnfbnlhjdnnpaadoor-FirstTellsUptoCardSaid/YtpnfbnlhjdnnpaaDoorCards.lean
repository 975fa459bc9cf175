/-
  DERIVED. GIVEN WITH THE SEED: THE CARDS: each row of YtpnfbnlhjdnnpaaDoorRows.lean that lists a variable, with what it lists TIED to the program's text (the seventh form; the later family's looks); each row that meets fmt, with fmt's text TOLD by the authors' own Lean function (tested against real Go, not proved from fmt's source: count such statements apart). THE CARD IS WHAT COUNTS. Prove the row's statement (the work); the ties are given (YtpnfbnlhjdnnpaaDoorTie.lean); close each card by the builder's one call (the guide's Derived/Test/ToyasCard.lean, 'card_holds'). Laid BY PROGRAM, IN A SANDBOX (cutbox-door.mjs). By AI agents, Wed Nov 11 2026. No macro, syntax, notation, axiom, sorry.
-/
import Derived.Test.YtpnfbnlhjdnnpaaDoorRows
import GoSem.ClaimSeven
namespace Go.Proofs.YtpnfbnlhjdnnpaaDoor
namespace Rows

/-- THE TIED CARD OF 'yuccalaw12.FirstTells'. -/
def firstTellsCard : Claim7 := { stood := { row := firstTellsRow, standIns := [], harness := (true, "693a275ad7c54f4432d3ca80b9f6e95e3d595d293341d8002fa2a190be359ee1"), looks := false }, kinds := [], alts := [], laidByText := true, laidKinds := [.data], laidTests := true, laidLooks := .later }
def FirstTellsCardSaid : Prop := Claim7.holds Tryd.pinned (.plain (OpenSpec.ofChange firstTellsSpec)) firstTellsCard

/-- THE TIED CARD OF 'yuccalaw12.FirstSplits'. -/
def firstSplitsCard : Claim7 := { stood := { row := firstSplitsRow, standIns := [], harness := (true, "693a275ad7c54f4432d3ca80b9f6e95e3d595d293341d8002fa2a190be359ee1"), looks := false }, kinds := [], alts := [], laidByText := true, laidKinds := [.data], laidTests := true, laidLooks := .later }
def FirstSplitsCardSaid : Prop := Claim7.holds Tryd.pinned (.plain (OpenSpec.ofChange firstSplitsSpec)) firstSplitsCard

/-- THE TIED CARD OF 'yuccalaw12.FirstChain'. -/
def firstChainCard : Claim7 := { stood := { row := firstChainRow, standIns := [], harness := (true, "693a275ad7c54f4432d3ca80b9f6e95e3d595d293341d8002fa2a190be359ee1"), looks := false }, kinds := [], alts := [], laidByText := true, laidKinds := [.data], laidTests := true, laidLooks := .later }
def FirstChainCardSaid : Prop := Claim7.holds Tryd.pinned (.plain (OpenSpec.ofChange firstChainSpec)) firstChainCard

/-- THE TIED CARD OF 'yuccalaw12.FirstRules'. -/
def firstRulesCard : Claim7 := { stood := { row := firstRulesRow, standIns := [], harness := (true, "693a275ad7c54f4432d3ca80b9f6e95e3d595d293341d8002fa2a190be359ee1"), looks := false }, kinds := [], alts := [], laidByText := true, laidKinds := [.data], laidTests := true, laidLooks := .later }
def FirstRulesCardSaid : Prop := Claim7.holds Tryd.pinned (.plain (OpenSpec.ofChange firstRulesSpec)) firstRulesCard

/-- THE TIED CARD OF 'yuccalaw14.ManyBegins'. -/
def manyBeginsCard : Claim7 := { stood := { row := manyBeginsRow, standIns := [], harness := (true, "693a275ad7c54f4432d3ca80b9f6e95e3d595d293341d8002fa2a190be359ee1"), looks := false }, kinds := [], alts := [], laidByText := true, laidKinds := [.data], laidTests := true, laidLooks := .later }
def ManyBeginsCardSaid : Prop := Claim7.holds Tryd.pinned (.plain (OpenSpec.ofChange manyBeginsSpec)) manyBeginsCard

/-- THE SECOND FORM's CARD OF 'yuccalaw12.FirstTells'. -/
def firstTellsUptoCard : Claim7 := { stood := { row := firstTellsUptoRow, standIns := [], harness := (true, "693a275ad7c54f4432d3ca80b9f6e95e3d595d293341d8002fa2a190be359ee1"), looks := false }, kinds := [], alts := [], laidByText := true, laidKinds := [.data], laidTests := true, laidLooks := .later }
def FirstTellsUptoCardSaid : Prop := Claim7.holds Tryd.pinned (.plain (OpenSpec.upto firstTellsSpec)) firstTellsUptoCard

/-- THE SECOND FORM's CARD OF 'yuccalaw12.FirstSplits'. -/
def firstSplitsUptoCard : Claim7 := { stood := { row := firstSplitsUptoRow, standIns := [], harness := (true, "693a275ad7c54f4432d3ca80b9f6e95e3d595d293341d8002fa2a190be359ee1"), looks := false }, kinds := [], alts := [], laidByText := true, laidKinds := [.data], laidTests := true, laidLooks := .later }
def FirstSplitsUptoCardSaid : Prop := Claim7.holds Tryd.pinned (.plain (OpenSpec.upto firstSplitsSpec)) firstSplitsUptoCard

/-- THE SECOND FORM's CARD OF 'yuccalaw12.FirstChain'. -/
def firstChainUptoCard : Claim7 := { stood := { row := firstChainUptoRow, standIns := [], harness := (true, "693a275ad7c54f4432d3ca80b9f6e95e3d595d293341d8002fa2a190be359ee1"), looks := false }, kinds := [], alts := [], laidByText := true, laidKinds := [.data], laidTests := true, laidLooks := .later }
def FirstChainUptoCardSaid : Prop := Claim7.holds Tryd.pinned (.plain (OpenSpec.upto firstChainSpec)) firstChainUptoCard

/-- THE SECOND FORM's CARD OF 'yuccalaw12.FirstRules'. -/
def firstRulesUptoCard : Claim7 := { stood := { row := firstRulesUptoRow, standIns := [], harness := (true, "693a275ad7c54f4432d3ca80b9f6e95e3d595d293341d8002fa2a190be359ee1"), looks := false }, kinds := [], alts := [], laidByText := true, laidKinds := [.data], laidTests := true, laidLooks := .later }
def FirstRulesUptoCardSaid : Prop := Claim7.holds Tryd.pinned (.plain (OpenSpec.upto firstRulesSpec)) firstRulesUptoCard

/-- THE SECOND FORM's CARD OF 'yuccalaw14.ManyBegins'. -/
def manyBeginsUptoCard : Claim7 := { stood := { row := manyBeginsUptoRow, standIns := [], harness := (true, "693a275ad7c54f4432d3ca80b9f6e95e3d595d293341d8002fa2a190be359ee1"), looks := false }, kinds := [], alts := [], laidByText := true, laidKinds := [.data], laidTests := true, laidLooks := .later }
def ManyBeginsUptoCardSaid : Prop := Claim7.holds Tryd.pinned (.plain (OpenSpec.upto manyBeginsSpec)) manyBeginsUptoCard
end Rows
end Go.Proofs.YtpnfbnlhjdnnpaaDoor
