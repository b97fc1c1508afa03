/-
  DERIVED. GIVEN WITH THE SEED: THE CARDS: each row of YtbgmknkmfhpgeaaDoorRows.lean that lists a variable, with what it lists TIED to the program's text (the seventh form; the later family's looks); each row that meets fmt, with fmt's text TOLD by the authors' own Lean function (tested against real Go, not proved from fmt's source: count such statements apart). THE CARD IS WHAT COUNTS. Prove the row's statement (the work); the ties are given (YtbgmknkmfhpgeaaDoorTie.lean); close each card by the builder's one call (the guide's Derived/Test/ToyasCard.lean, 'card_holds'). Laid BY PROGRAM, IN A SANDBOX (cutbox-door.mjs). By AI agents, Wed Nov 11 2026. No macro, syntax, notation, axiom, sorry.
-/
import Derived.Test.YtbgmknkmfhpgeaaDoorRows
import GoSem.ClaimSeven
namespace Go.Proofs.YtbgmknkmfhpgeaaDoor
namespace Rows

/-- THE TIED CARD OF 'signallinglaw46.CabReceives'. -/
def cabReceivesCard : Claim7 := { stood := { row := cabReceivesRow, standIns := [], harness := (true, "0b48bbd558549b5b7dca3078b8ee99039488641a2ee2774b88073a97246ac3b4"), looks := false }, kinds := [], alts := [], laidByText := true, laidKinds := [.data], laidTests := true, laidLooks := .later }
def CabReceivesCardSaid : Prop := Claim7.holds Tryd.pinned (.plain (OpenSpec.ofChange cabReceivesSpec)) cabReceivesCard

/-- THE TIED CARD OF 'signallinglaw46.CabDecides'. -/
def cabDecidesCard : Claim7 := { stood := { row := cabDecidesRow, standIns := [], harness := (true, "0b48bbd558549b5b7dca3078b8ee99039488641a2ee2774b88073a97246ac3b4"), looks := false }, kinds := [], alts := [], laidByText := true, laidKinds := [.data], laidTests := true, laidLooks := .later }
def CabDecidesCardSaid : Prop := Claim7.holds Tryd.pinned (.plain (OpenSpec.ofChange cabDecidesSpec)) cabDecidesCard

/-- THE TIED CARD OF 'signallinglaw46.CabSafe'. -/
def cabSafeCard : Claim7 := { stood := { row := cabSafeRow, standIns := [], harness := (true, "0b48bbd558549b5b7dca3078b8ee99039488641a2ee2774b88073a97246ac3b4"), looks := false }, kinds := [], alts := [], laidByText := true, laidKinds := [.data], laidTests := true, laidLooks := .later }
def CabSafeCardSaid : Prop := Claim7.holds Tryd.pinned (.plain (OpenSpec.ofChange cabSafeSpec)) cabSafeCard

/-- THE TIED CARD OF 'signallinglaw46.CabEvents'. -/
def cabEventsCard : Claim7 := { stood := { row := cabEventsRow, standIns := [], harness := (true, "0b48bbd558549b5b7dca3078b8ee99039488641a2ee2774b88073a97246ac3b4"), looks := false }, kinds := [], alts := [], laidByText := true, laidKinds := [.data, .data], laidTests := true, laidLooks := .later }
def CabEventsCardSaid : Prop := Claim7.holds Tryd.pinned (.plain (OpenSpec.ofChange cabEventsSpec)) cabEventsCard

/-- THE TIED CARD OF 'signallinglaw46.CabMeasures'. -/
def cabMeasuresCard : Claim7 := { stood := { row := cabMeasuresRow, standIns := [], harness := (true, "0b48bbd558549b5b7dca3078b8ee99039488641a2ee2774b88073a97246ac3b4"), looks := false }, kinds := [], alts := [], laidByText := true, laidKinds := [.data], laidTests := true, laidLooks := .later }
def CabMeasuresCardSaid : Prop := Claim7.holds Tryd.pinned (.plain (OpenSpec.ofChange cabMeasuresSpec)) cabMeasuresCard

/-- THE TIED CARD OF 'signallinglaw46.CabMonotone'. -/
def cabMonotoneCard : Claim7 := { stood := { row := cabMonotoneRow, standIns := [], harness := (true, "0b48bbd558549b5b7dca3078b8ee99039488641a2ee2774b88073a97246ac3b4"), looks := false }, kinds := [], alts := [], laidByText := true, laidKinds := [.data], laidTests := true, laidLooks := .later }
def CabMonotoneCardSaid : Prop := Claim7.holds Tryd.pinned (.plain (OpenSpec.ofChange cabMonotoneSpec)) cabMonotoneCard

/-- THE TIED CARD OF 'signallinglaw46.CabTrips'. -/
def cabTripsCard : Claim7 := { stood := { row := cabTripsRow, standIns := [], harness := (true, "0b48bbd558549b5b7dca3078b8ee99039488641a2ee2774b88073a97246ac3b4"), looks := false }, kinds := [], alts := [], laidByText := true, laidKinds := [.data, .data], laidTests := true, laidLooks := .later }
def CabTripsCardSaid : Prop := Claim7.holds Tryd.pinned (.plain (OpenSpec.ofChange cabTripsSpec)) cabTripsCard

/-- THE SECOND FORM's CARD OF 'signallinglaw46.CabReceives'. -/
def cabReceivesUptoCard : Claim7 := { stood := { row := cabReceivesUptoRow, standIns := [], harness := (true, "0b48bbd558549b5b7dca3078b8ee99039488641a2ee2774b88073a97246ac3b4"), looks := false }, kinds := [], alts := [], laidByText := true, laidKinds := [.data], laidTests := true, laidLooks := .later }
def CabReceivesUptoCardSaid : Prop := Claim7.holds Tryd.pinned (.plain (OpenSpec.upto cabReceivesSpec)) cabReceivesUptoCard

/-- THE SECOND FORM's CARD OF 'signallinglaw46.CabDecides'. -/
def cabDecidesUptoCard : Claim7 := { stood := { row := cabDecidesUptoRow, standIns := [], harness := (true, "0b48bbd558549b5b7dca3078b8ee99039488641a2ee2774b88073a97246ac3b4"), looks := false }, kinds := [], alts := [], laidByText := true, laidKinds := [.data], laidTests := true, laidLooks := .later }
def CabDecidesUptoCardSaid : Prop := Claim7.holds Tryd.pinned (.plain (OpenSpec.upto cabDecidesSpec)) cabDecidesUptoCard

/-- THE SECOND FORM's CARD OF 'signallinglaw46.CabSafe'. -/
def cabSafeUptoCard : Claim7 := { stood := { row := cabSafeUptoRow, standIns := [], harness := (true, "0b48bbd558549b5b7dca3078b8ee99039488641a2ee2774b88073a97246ac3b4"), looks := false }, kinds := [], alts := [], laidByText := true, laidKinds := [.data], laidTests := true, laidLooks := .later }
def CabSafeUptoCardSaid : Prop := Claim7.holds Tryd.pinned (.plain (OpenSpec.upto cabSafeSpec)) cabSafeUptoCard

/-- THE SECOND FORM's CARD OF 'signallinglaw46.CabEvents'. -/
def cabEventsUptoCard : Claim7 := { stood := { row := cabEventsUptoRow, standIns := [], harness := (true, "0b48bbd558549b5b7dca3078b8ee99039488641a2ee2774b88073a97246ac3b4"), looks := false }, kinds := [], alts := [], laidByText := true, laidKinds := [.data, .data], laidTests := true, laidLooks := .later }
def CabEventsUptoCardSaid : Prop := Claim7.holds Tryd.pinned (.plain (OpenSpec.upto cabEventsSpec)) cabEventsUptoCard

/-- THE SECOND FORM's CARD OF 'signallinglaw46.CabMeasures'. -/
def cabMeasuresUptoCard : Claim7 := { stood := { row := cabMeasuresUptoRow, standIns := [], harness := (true, "0b48bbd558549b5b7dca3078b8ee99039488641a2ee2774b88073a97246ac3b4"), looks := false }, kinds := [], alts := [], laidByText := true, laidKinds := [.data], laidTests := true, laidLooks := .later }
def CabMeasuresUptoCardSaid : Prop := Claim7.holds Tryd.pinned (.plain (OpenSpec.upto cabMeasuresSpec)) cabMeasuresUptoCard

/-- THE SECOND FORM's CARD OF 'signallinglaw46.CabMonotone'. -/
def cabMonotoneUptoCard : Claim7 := { stood := { row := cabMonotoneUptoRow, standIns := [], harness := (true, "0b48bbd558549b5b7dca3078b8ee99039488641a2ee2774b88073a97246ac3b4"), looks := false }, kinds := [], alts := [], laidByText := true, laidKinds := [.data], laidTests := true, laidLooks := .later }
def CabMonotoneUptoCardSaid : Prop := Claim7.holds Tryd.pinned (.plain (OpenSpec.upto cabMonotoneSpec)) cabMonotoneUptoCard

/-- THE SECOND FORM's CARD OF 'signallinglaw46.CabTrips'. -/
def cabTripsUptoCard : Claim7 := { stood := { row := cabTripsUptoRow, standIns := [], harness := (true, "0b48bbd558549b5b7dca3078b8ee99039488641a2ee2774b88073a97246ac3b4"), looks := false }, kinds := [], alts := [], laidByText := true, laidKinds := [.data, .data], laidTests := true, laidLooks := .later }
def CabTripsUptoCardSaid : Prop := Claim7.holds Tryd.pinned (.plain (OpenSpec.upto cabTripsSpec)) cabTripsUptoCard
end Rows
end Go.Proofs.YtbgmknkmfhpgeaaDoor
