/-
  DERIVED. GIVEN WITH THE SEED: THE CARDS: each row of YtoodehilgogomaaDoorRows.lean that lists a variable, with what it lists TIED to the program's text (the seventh form; the later family's looks); each row that meets fmt, with fmt's text TOLD by the authors' own Lean function (tested against real Go, not proved from fmt's source: count such statements apart). THE CARD IS WHAT COUNTS. Prove the row's statement (the work); the ties are given (YtoodehilgogomaaDoorTie.lean); close each card by the builder's one call (the guide's Derived/Test/ToyasCard.lean, 'card_holds'). Laid BY PROGRAM, IN A SANDBOX (cutbox-door.mjs). By AI agents, Wed Nov 11 2026. No macro, syntax, notation, axiom, sorry.
-/
import Derived.Test.YtoodehilgogomaaDoorRows
import GoSem.ClaimSeven
namespace Go.Proofs.YtoodehilgogomaaDoor
namespace Rows

/-- THE TIED CARD OF 'signallinglaw10.ProfileOf'. -/
def profileOfCard : Claim7 := { stood := { row := profileOfRow, standIns := [], harness := (true, "d41dd4fcd9c8715469901f45726a54071b1f22266530296fca3628a6db15819b"), looks := false }, kinds := [], alts := [], laidByText := true, laidKinds := [.data], laidTests := true, laidLooks := .later }
def ProfileOfCardSaid : Prop := Claim7.holds Tryd.pinned (.plain (OpenSpec.ofChange profileOfSpec)) profileOfCard

/-- THE SECOND FORM's CARD OF 'signallinglaw10.ProfileOf'. -/
def profileOfUptoCard : Claim7 := { stood := { row := profileOfUptoRow, standIns := [], harness := (true, "d41dd4fcd9c8715469901f45726a54071b1f22266530296fca3628a6db15819b"), looks := false }, kinds := [], alts := [], laidByText := true, laidKinds := [.data], laidTests := true, laidLooks := .later }
def ProfileOfUptoCardSaid : Prop := Claim7.holds Tryd.pinned (.plain (OpenSpec.upto profileOfSpec)) profileOfUptoCard
end Rows
end Go.Proofs.YtoodehilgogomaaDoor
