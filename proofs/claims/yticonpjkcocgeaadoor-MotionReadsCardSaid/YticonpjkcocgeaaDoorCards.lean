/-
  DERIVED. GIVEN WITH THE SEED: THE CARDS: each row of YticonpjkcocgeaaDoorRows.lean that lists a variable, with what it lists TIED to the program's text (the seventh form; the later family's looks); each row that meets fmt, with fmt's text TOLD by the authors' own Lean function (tested against real Go, not proved from fmt's source: count such statements apart). THE CARD IS WHAT COUNTS. Prove the row's statement (the work); the ties are given (YticonpjkcocgeaaDoorTie.lean); close each card by the builder's one call (the guide's Derived/Test/ToyasCard.lean, 'card_holds'). Laid BY PROGRAM, IN A SANDBOX (cutbox-door.mjs). By AI agents, Wed Nov 11 2026. No macro, syntax, notation, axiom, sorry.
-/
import Derived.Test.YticonpjkcocgeaaDoorRows
import GoSem.ClaimSeven
namespace Go.Proofs.YticonpjkcocgeaaDoor
namespace Rows

/-- THE TIED CARD OF 'signallinglaw51.MotionOrder'. -/
def motionOrderCard : Claim7 := { stood := { row := motionOrderRow, standIns := [], harness := (true, "74c81452e71326e8d5fa75b29d3626e49e90ed16574fbc9c5b74c47ea4cf59a1"), looks := false }, kinds := [], alts := [], laidByText := true, laidKinds := [.data], laidTests := true, laidLooks := .later }
def MotionOrderCardSaid : Prop := Claim7.holds Tryd.pinned (.plain (OpenSpec.ofChange motionOrderSpec)) motionOrderCard

/-- THE TIED CARD OF 'signallinglaw51.MotionStops'. -/
def motionStopsCard : Claim7 := { stood := { row := motionStopsRow, standIns := [], harness := (true, "74c81452e71326e8d5fa75b29d3626e49e90ed16574fbc9c5b74c47ea4cf59a1"), looks := false }, kinds := [], alts := [], laidByText := true, laidKinds := [.data], laidTests := true, laidLooks := .later }
def MotionStopsCardSaid : Prop := Claim7.holds Tryd.pinned (.plain (OpenSpec.ofChange motionStopsSpec)) motionStopsCard

/-- THE TIED CARD OF 'signallinglaw51.MotionSteps'. -/
def motionStepsCard : Claim7 := { stood := { row := motionStepsRow, standIns := [], harness := (true, "74c81452e71326e8d5fa75b29d3626e49e90ed16574fbc9c5b74c47ea4cf59a1"), looks := false }, kinds := [], alts := [], laidByText := true, laidKinds := [.data], laidTests := true, laidLooks := .later }
def MotionStepsCardSaid : Prop := Claim7.holds Tryd.pinned (.plain (OpenSpec.ofChange motionStepsSpec)) motionStepsCard

/-- THE TIED CARD OF 'signallinglaw51.MotionReads'. -/
def motionReadsCard : Claim7 := { stood := { row := motionReadsRow, standIns := [], harness := (true, "74c81452e71326e8d5fa75b29d3626e49e90ed16574fbc9c5b74c47ea4cf59a1"), looks := false }, kinds := [], alts := [], laidByText := true, laidKinds := [.data], laidTests := true, laidLooks := .later }
def MotionReadsCardSaid : Prop := Claim7.holds Tryd.pinned (.plain (OpenSpec.ofChange motionReadsSpec)) motionReadsCard

/-- THE TIED CARD OF 'signallinglaw51.MotionBounded'. -/
def motionBoundedCard : Claim7 := { stood := { row := motionBoundedRow, standIns := [], harness := (true, "74c81452e71326e8d5fa75b29d3626e49e90ed16574fbc9c5b74c47ea4cf59a1"), looks := false }, kinds := [], alts := [], laidByText := true, laidKinds := [.data], laidTests := true, laidLooks := .later }
def MotionBoundedCardSaid : Prop := Claim7.holds Tryd.pinned (.plain (OpenSpec.ofChange motionBoundedSpec)) motionBoundedCard

/-- THE SECOND FORM's CARD OF 'signallinglaw51.MotionOrder'. -/
def motionOrderUptoCard : Claim7 := { stood := { row := motionOrderUptoRow, standIns := [], harness := (true, "74c81452e71326e8d5fa75b29d3626e49e90ed16574fbc9c5b74c47ea4cf59a1"), looks := false }, kinds := [], alts := [], laidByText := true, laidKinds := [.data], laidTests := true, laidLooks := .later }
def MotionOrderUptoCardSaid : Prop := Claim7.holds Tryd.pinned (.plain (OpenSpec.upto motionOrderSpec)) motionOrderUptoCard

/-- THE SECOND FORM's CARD OF 'signallinglaw51.MotionStops'. -/
def motionStopsUptoCard : Claim7 := { stood := { row := motionStopsUptoRow, standIns := [], harness := (true, "74c81452e71326e8d5fa75b29d3626e49e90ed16574fbc9c5b74c47ea4cf59a1"), looks := false }, kinds := [], alts := [], laidByText := true, laidKinds := [.data], laidTests := true, laidLooks := .later }
def MotionStopsUptoCardSaid : Prop := Claim7.holds Tryd.pinned (.plain (OpenSpec.upto motionStopsSpec)) motionStopsUptoCard

/-- THE SECOND FORM's CARD OF 'signallinglaw51.MotionSteps'. -/
def motionStepsUptoCard : Claim7 := { stood := { row := motionStepsUptoRow, standIns := [], harness := (true, "74c81452e71326e8d5fa75b29d3626e49e90ed16574fbc9c5b74c47ea4cf59a1"), looks := false }, kinds := [], alts := [], laidByText := true, laidKinds := [.data], laidTests := true, laidLooks := .later }
def MotionStepsUptoCardSaid : Prop := Claim7.holds Tryd.pinned (.plain (OpenSpec.upto motionStepsSpec)) motionStepsUptoCard

/-- THE SECOND FORM's CARD OF 'signallinglaw51.MotionReads'. -/
def motionReadsUptoCard : Claim7 := { stood := { row := motionReadsUptoRow, standIns := [], harness := (true, "74c81452e71326e8d5fa75b29d3626e49e90ed16574fbc9c5b74c47ea4cf59a1"), looks := false }, kinds := [], alts := [], laidByText := true, laidKinds := [.data], laidTests := true, laidLooks := .later }
def MotionReadsUptoCardSaid : Prop := Claim7.holds Tryd.pinned (.plain (OpenSpec.upto motionReadsSpec)) motionReadsUptoCard

/-- THE SECOND FORM's CARD OF 'signallinglaw51.MotionBounded'. -/
def motionBoundedUptoCard : Claim7 := { stood := { row := motionBoundedUptoRow, standIns := [], harness := (true, "74c81452e71326e8d5fa75b29d3626e49e90ed16574fbc9c5b74c47ea4cf59a1"), looks := false }, kinds := [], alts := [], laidByText := true, laidKinds := [.data], laidTests := true, laidLooks := .later }
def MotionBoundedUptoCardSaid : Prop := Claim7.holds Tryd.pinned (.plain (OpenSpec.upto motionBoundedSpec)) motionBoundedUptoCard
end Rows
end Go.Proofs.YticonpjkcocgeaaDoor
