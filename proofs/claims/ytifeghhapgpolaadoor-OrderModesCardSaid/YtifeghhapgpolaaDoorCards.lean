/-
  DERIVED. GIVEN WITH THE SEED: THE CARDS: each row of YtifeghhapgpolaaDoorRows.lean that lists a variable, with what it lists TIED to the program's text (the seventh form; the later family's looks); each row that meets fmt, with fmt's text TOLD by the authors' own Lean function (tested against real Go, not proved from fmt's source: count such statements apart). THE CARD IS WHAT COUNTS. Prove the row's statement (the work); the ties are given (YtifeghhapgpolaaDoorTie.lean); close each card by the builder's one call (the guide's Derived/Test/ToyasCard.lean, 'card_holds'). Laid BY PROGRAM, IN A SANDBOX (cutbox-door.mjs). By AI agents, Wed Nov 11 2026. No macro, syntax, notation, axiom, sorry.
-/
import Derived.Test.YtifeghhapgpolaaDoorRows
import GoSem.ClaimSeven
namespace Go.Proofs.YtifeghhapgpolaaDoor
namespace Rows

/-- THE TIED CARD OF 'signallinglaw44.OrderModes'. -/
def orderModesCard : Claim7 := { stood := { row := orderModesRow, standIns := [], harness := (true, "f07f918fd626a28a49bf2a6bd12cc99b936feb0ee410781234f9c3be30cae456"), looks := false }, kinds := [], alts := [], laidByText := true, laidKinds := [.data, .data], laidTests := true, laidLooks := .later }
def OrderModesCardSaid : Prop := Claim7.holds Tryd.pinned (.plain (OpenSpec.ofChange orderModesSpec)) orderModesCard

/-- THE SECOND FORM's CARD OF 'signallinglaw44.OrderModes'. -/
def orderModesUptoCard : Claim7 := { stood := { row := orderModesUptoRow, standIns := [], harness := (true, "f07f918fd626a28a49bf2a6bd12cc99b936feb0ee410781234f9c3be30cae456"), looks := false }, kinds := [], alts := [], laidByText := true, laidKinds := [.data, .data], laidTests := true, laidLooks := .later }
def OrderModesUptoCardSaid : Prop := Claim7.holds Tryd.pinned (.plain (OpenSpec.upto orderModesSpec)) orderModesUptoCard
end Rows
end Go.Proofs.YtifeghhapgpolaaDoor
