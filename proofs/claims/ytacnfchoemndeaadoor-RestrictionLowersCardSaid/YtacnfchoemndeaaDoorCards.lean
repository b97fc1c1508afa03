/-
  DERIVED. GIVEN WITH THE SEED: THE CARDS: each row of YtacnfchoemndeaaDoorRows.lean that lists a variable, with what it lists TIED to the program's text (the seventh form; the later family's looks); each row that meets fmt, with fmt's text TOLD by the authors' own Lean function (tested against real Go, not proved from fmt's source: count such statements apart). THE CARD IS WHAT COUNTS. Prove the row's statement (the work); the ties are given (YtacnfchoemndeaaDoorTie.lean); close each card by the builder's one call (the guide's Derived/Test/ToyasCard.lean, 'card_holds'). Laid BY PROGRAM, IN A SANDBOX (cutbox-door.mjs). By AI agents, Wed Nov 11 2026. No macro, syntax, notation, axiom, sorry.
-/
import Derived.Test.YtacnfchoemndeaaDoorRows
import GoSem.ClaimSeven
namespace Go.Proofs.YtacnfchoemndeaaDoor
namespace Rows

/-- THE TIED CARD OF 'signallinglaw43.RestrictionPuts'. -/
def restrictionPutsCard : Claim7 := { stood := { row := restrictionPutsRow, standIns := [], harness := (true, "307c15f3858f44efed5916a863f9b2d56b5e35613f3caf539ecc00609de7a832"), looks := false }, kinds := [], alts := [], laidByText := true, laidKinds := [.data], laidTests := true, laidLooks := .later }
def RestrictionPutsCardSaid : Prop := Claim7.holds Tryd.pinned (.plain (OpenSpec.ofChange restrictionPutsSpec)) restrictionPutsCard

/-- THE TIED CARD OF 'signallinglaw43.RestrictionSets'. -/
def restrictionSetsCard : Claim7 := { stood := { row := restrictionSetsRow, standIns := [], harness := (true, "307c15f3858f44efed5916a863f9b2d56b5e35613f3caf539ecc00609de7a832"), looks := false }, kinds := [], alts := [], laidByText := true, laidKinds := [.data], laidTests := true, laidLooks := .later }
def RestrictionSetsCardSaid : Prop := Claim7.holds Tryd.pinned (.plain (OpenSpec.ofChange restrictionSetsSpec)) restrictionSetsCard

/-- THE TIED CARD OF 'signallinglaw43.RestrictionApplies'. -/
def restrictionAppliesCard : Claim7 := { stood := { row := restrictionAppliesRow, standIns := [], harness := (true, "307c15f3858f44efed5916a863f9b2d56b5e35613f3caf539ecc00609de7a832"), looks := false }, kinds := [], alts := [], laidByText := true, laidKinds := [.data], laidTests := true, laidLooks := .later }
def RestrictionAppliesCardSaid : Prop := Claim7.holds Tryd.pinned (.plain (OpenSpec.ofChange restrictionAppliesSpec)) restrictionAppliesCard

/-- THE TIED CARD OF 'signallinglaw43.RestrictionLowers'. -/
def restrictionLowersCard : Claim7 := { stood := { row := restrictionLowersRow, standIns := [], harness := (true, "307c15f3858f44efed5916a863f9b2d56b5e35613f3caf539ecc00609de7a832"), looks := false }, kinds := [], alts := [], laidByText := true, laidKinds := [.data], laidTests := true, laidLooks := .later }
def RestrictionLowersCardSaid : Prop := Claim7.holds Tryd.pinned (.plain (OpenSpec.ofChange restrictionLowersSpec)) restrictionLowersCard

/-- THE TIED CARD OF 'signallinglaw43.RestrictionPasses'. -/
def restrictionPassesCard : Claim7 := { stood := { row := restrictionPassesRow, standIns := [], harness := (true, "307c15f3858f44efed5916a863f9b2d56b5e35613f3caf539ecc00609de7a832"), looks := false }, kinds := [], alts := [], laidByText := true, laidKinds := [.data], laidTests := true, laidLooks := .later }
def RestrictionPassesCardSaid : Prop := Claim7.holds Tryd.pinned (.plain (OpenSpec.ofChange restrictionPassesSpec)) restrictionPassesCard

/-- THE SECOND FORM's CARD OF 'signallinglaw43.RestrictionPuts'. -/
def restrictionPutsUptoCard : Claim7 := { stood := { row := restrictionPutsUptoRow, standIns := [], harness := (true, "307c15f3858f44efed5916a863f9b2d56b5e35613f3caf539ecc00609de7a832"), looks := false }, kinds := [], alts := [], laidByText := true, laidKinds := [.data], laidTests := true, laidLooks := .later }
def RestrictionPutsUptoCardSaid : Prop := Claim7.holds Tryd.pinned (.plain (OpenSpec.upto restrictionPutsSpec)) restrictionPutsUptoCard

/-- THE SECOND FORM's CARD OF 'signallinglaw43.RestrictionSets'. -/
def restrictionSetsUptoCard : Claim7 := { stood := { row := restrictionSetsUptoRow, standIns := [], harness := (true, "307c15f3858f44efed5916a863f9b2d56b5e35613f3caf539ecc00609de7a832"), looks := false }, kinds := [], alts := [], laidByText := true, laidKinds := [.data], laidTests := true, laidLooks := .later }
def RestrictionSetsUptoCardSaid : Prop := Claim7.holds Tryd.pinned (.plain (OpenSpec.upto restrictionSetsSpec)) restrictionSetsUptoCard

/-- THE SECOND FORM's CARD OF 'signallinglaw43.RestrictionApplies'. -/
def restrictionAppliesUptoCard : Claim7 := { stood := { row := restrictionAppliesUptoRow, standIns := [], harness := (true, "307c15f3858f44efed5916a863f9b2d56b5e35613f3caf539ecc00609de7a832"), looks := false }, kinds := [], alts := [], laidByText := true, laidKinds := [.data], laidTests := true, laidLooks := .later }
def RestrictionAppliesUptoCardSaid : Prop := Claim7.holds Tryd.pinned (.plain (OpenSpec.upto restrictionAppliesSpec)) restrictionAppliesUptoCard

/-- THE SECOND FORM's CARD OF 'signallinglaw43.RestrictionLowers'. -/
def restrictionLowersUptoCard : Claim7 := { stood := { row := restrictionLowersUptoRow, standIns := [], harness := (true, "307c15f3858f44efed5916a863f9b2d56b5e35613f3caf539ecc00609de7a832"), looks := false }, kinds := [], alts := [], laidByText := true, laidKinds := [.data], laidTests := true, laidLooks := .later }
def RestrictionLowersUptoCardSaid : Prop := Claim7.holds Tryd.pinned (.plain (OpenSpec.upto restrictionLowersSpec)) restrictionLowersUptoCard

/-- THE SECOND FORM's CARD OF 'signallinglaw43.RestrictionPasses'. -/
def restrictionPassesUptoCard : Claim7 := { stood := { row := restrictionPassesUptoRow, standIns := [], harness := (true, "307c15f3858f44efed5916a863f9b2d56b5e35613f3caf539ecc00609de7a832"), looks := false }, kinds := [], alts := [], laidByText := true, laidKinds := [.data], laidTests := true, laidLooks := .later }
def RestrictionPassesUptoCardSaid : Prop := Claim7.holds Tryd.pinned (.plain (OpenSpec.upto restrictionPassesSpec)) restrictionPassesUptoCard
end Rows
end Go.Proofs.YtacnfchoemndeaaDoor
