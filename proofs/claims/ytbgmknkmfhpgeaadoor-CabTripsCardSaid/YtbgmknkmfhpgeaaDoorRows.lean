/-
  NARROWER THAN 'FOR EVERY INPUT', by the rows' own cells (each row's printed sentence says how): CabReceives: laid · CabDecides: laid · CabSafe: laid · CabEvents: laid · CabMeasures: laid · CabMonotone: laid · CabTrips: laid.
  DERIVED. THE GIVEN ROWS OF THIS SEAT. 7 by the template 'for every input the law returns true; each argument reads behind the call as it read before'; 0 by the template 'total and deterministic' (their statements: YtbgmknkmfhpgeaaDoorTotals.lean).
  GIVEN WITH THE SEED: the statements are not yours to turn. If you find one false, say at which input.
  Laid BY PROGRAM, IN A SANDBOX (cutbox-rows.mjs): the forced cells as the released guide's own fill.sh prints them over the translation f4b0337e37ae4c2e… (all of the seat's roots in one cut). By AI agents, Wed Nov 11 2026. No macro, syntax, notation, axiom, sorry.
-/
import Derived.Test.YtbgmknkmfhpgeaaDoorChecked
import GoSem.Claim
import GoSem.ClaimJoined
import GoSem.ClaimMapViews
import Derived.JoinedTies
import Derived.KernelRfl
namespace Go.Proofs.YtbgmknkmfhpgeaaDoor
/- THE CELL 'sum', in the pinned program and in every row, IS THE sha256 OF THE DUMP (.gsa) THAT YtbgmknkmfhpgeaaDoorProg.lean LOADS. Nothing in Lean hashes anything: it is a label: what it is worth is what the hold of that sum in a sandbox is worth. -/
noncomputable def Tryd.pinned : Pinned := { name := "ytbgmknkmfhpgeaadoor", sum := "f4b0337e37ae4c2e83b7598220249b98dcf046bceca44c92b538ab1a4e5da918", checked := Tryd.checked }
namespace Rows
def none {H : Type} : Left H := { results := [], args := [] }

/- WHAT THE LISTED PACKAGE-LEVEL VARIABLES READ AS WHEN THE CALL BEGINS. Each datum BY PROGRAM (the guide's laid-datum.mjs) off the statement by which the dump's own 'gosem.cut.vars' lays the variable. In a bare row this is a premise. The card (YtbgmknkmfhpgeaaDoorCards.lean) ties it to the program's text. -/
def laid_signalling_modes_limits {H : Type} : DataW H := .agg [.lit (.int .i64 0), .lit (.int .i64 0), .lit (.int .i64 10000), .lit (.int .i64 1100), .lit (.int .i64 800), .lit (.int .i64 2200), .lit (.int .i64 0), .lit (.int .i64 0)]
def laid_signalling_modes_transitions {H : Type} : DataW H := .agg [.agg [.lit (.int .i64 0), .lit (.int .i64 0), .lit (.int .i64 0), .lit (.int .i64 0), .lit (.int .i64 0), .lit (.int .i64 0), .lit (.int .i64 0), .lit (.int .i64 0)], .agg [.lit (.int .i64 0), .lit (.int .i64 2), .lit (.int .i64 0), .lit (.int .i64 0), .lit (.int .i64 3), .lit (.int .i64 4), .lit (.int .i64 5), .lit (.int .i64 0)], .agg [.lit (.int .i64 0), .lit (.int .i64 2), .lit (.int .i64 6), .lit (.int .i64 0), .lit (.int .i64 3), .lit (.int .i64 0), .lit (.int .i64 5), .lit (.int .i64 1)], .agg [.lit (.int .i64 0), .lit (.int .i64 2), .lit (.int .i64 6), .lit (.int .i64 0), .lit (.int .i64 0), .lit (.int .i64 0), .lit (.int .i64 0), .lit (.int .i64 1)], .agg [.lit (.int .i64 0), .lit (.int .i64 0), .lit (.int .i64 6), .lit (.int .i64 0), .lit (.int .i64 0), .lit (.int .i64 0), .lit (.int .i64 0), .lit (.int .i64 1)], .agg [.lit (.int .i64 0), .lit (.int .i64 2), .lit (.int .i64 6), .lit (.int .i64 0), .lit (.int .i64 0), .lit (.int .i64 0), .lit (.int .i64 0), .lit (.int .i64 1)], .agg [.lit (.int .i64 0), .lit (.int .i64 0), .lit (.int .i64 0), .lit (.int .i64 7), .lit (.int .i64 0), .lit (.int .i64 0), .lit (.int .i64 0), .lit (.int .i64 0)], .agg [.lit (.int .i64 0), .lit (.int .i64 2), .lit (.int .i64 0), .lit (.int .i64 0), .lit (.int .i64 3), .lit (.int .i64 4), .lit (.int .i64 0), .lit (.int .i64 1)]]

/-- 'signallinglaw46.CabReceives': WHATEVER THE INPUT: true; the input reads as it did. -/
def cabReceivesSpec : ChangeSpec := { name := "cabReceives", fn := fun _ => fun
  | [d1, d2, d3] => { results := [.lit (.bool true)], args := [d1, d2, d3] }
  | _ => none }
def cabReceivesRow : OpenClaim := { program := "ytbgmknkmfhpgeaadoor", sum := "f4b0337e37ae4c2e83b7598220249b98dcf046bceca44c92b538ab1a4e5da918", func := "signalling/signallinglaw46.CabReceives", spec := "cabReceives", unfollowed := true, recurses := true, named := ["signalling/modes.limits"], apart := false, laid := [("signalling/modes.limits", laid_signalling_modes_limits)] }
def CabReceivesSaid : Prop := cabReceivesRow.holds Tryd.pinned (OpenSpec.ofChange cabReceivesSpec)

/-- ITS FALSE NEIGHBOUR: 'it returns false'. Refute it at one input. -/
def cabReceivesWrong : ChangeSpec := { name := "cabReceives", fn := fun _ => fun
  | [d1, d2, d3] => { results := [.lit (.bool false)], args := [d1, d2, d3] }
  | _ => none }
def CabReceivesWrongFalsely : Prop := cabReceivesRow.holds Tryd.pinned (OpenSpec.ofChange cabReceivesWrong)

/-- 'signallinglaw46.CabDecides': WHATEVER THE INPUT: true; the input reads as it did. -/
def cabDecidesSpec : ChangeSpec := { name := "cabDecides", fn := fun _ => fun
  | [d1, d2] => { results := [.lit (.bool true)], args := [d1, d2] }
  | _ => none }
def cabDecidesRow : OpenClaim := { program := "ytbgmknkmfhpgeaadoor", sum := "f4b0337e37ae4c2e83b7598220249b98dcf046bceca44c92b538ab1a4e5da918", func := "signalling/signallinglaw46.CabDecides", spec := "cabDecides", unfollowed := true, recurses := true, named := ["signalling/modes.limits"], apart := false, laid := [("signalling/modes.limits", laid_signalling_modes_limits)] }
def CabDecidesSaid : Prop := cabDecidesRow.holds Tryd.pinned (OpenSpec.ofChange cabDecidesSpec)

/-- ITS FALSE NEIGHBOUR: 'it returns false'. Refute it at one input. -/
def cabDecidesWrong : ChangeSpec := { name := "cabDecides", fn := fun _ => fun
  | [d1, d2] => { results := [.lit (.bool false)], args := [d1, d2] }
  | _ => none }
def CabDecidesWrongFalsely : Prop := cabDecidesRow.holds Tryd.pinned (OpenSpec.ofChange cabDecidesWrong)

/-- 'signallinglaw46.CabSafe': WHATEVER THE INPUT: true; the input reads as it did. -/
def cabSafeSpec : ChangeSpec := { name := "cabSafe", fn := fun _ => fun
  | [d1, d2, d3] => { results := [.lit (.bool true)], args := [d1, d2, d3] }
  | _ => none }
def cabSafeRow : OpenClaim := { program := "ytbgmknkmfhpgeaadoor", sum := "f4b0337e37ae4c2e83b7598220249b98dcf046bceca44c92b538ab1a4e5da918", func := "signalling/signallinglaw46.CabSafe", spec := "cabSafe", unfollowed := true, recurses := true, named := ["signalling/modes.limits"], apart := false, laid := [("signalling/modes.limits", laid_signalling_modes_limits)] }
def CabSafeSaid : Prop := cabSafeRow.holds Tryd.pinned (OpenSpec.ofChange cabSafeSpec)

/-- ITS FALSE NEIGHBOUR: 'it returns false'. Refute it at one input. -/
def cabSafeWrong : ChangeSpec := { name := "cabSafe", fn := fun _ => fun
  | [d1, d2, d3] => { results := [.lit (.bool false)], args := [d1, d2, d3] }
  | _ => none }
def CabSafeWrongFalsely : Prop := cabSafeRow.holds Tryd.pinned (OpenSpec.ofChange cabSafeWrong)

/-- 'signallinglaw46.CabEvents': WHATEVER THE INPUT: true; the input reads as it did. -/
def cabEventsSpec : ChangeSpec := { name := "cabEvents", fn := fun _ => fun
  | [d1, d2, d3] => { results := [.lit (.bool true)], args := [d1, d2, d3] }
  | _ => none }
def cabEventsRow : OpenClaim := { program := "ytbgmknkmfhpgeaadoor", sum := "f4b0337e37ae4c2e83b7598220249b98dcf046bceca44c92b538ab1a4e5da918", func := "signalling/signallinglaw46.CabEvents", spec := "cabEvents", unfollowed := true, recurses := true, named := ["signalling/modes.limits", "signalling/modes.transitions"], apart := false, laid := [("signalling/modes.transitions", laid_signalling_modes_transitions), ("signalling/modes.limits", laid_signalling_modes_limits)] }
def CabEventsSaid : Prop := cabEventsRow.holds Tryd.pinned (OpenSpec.ofChange cabEventsSpec)

/-- ITS FALSE NEIGHBOUR: 'it returns false'. Refute it at one input. -/
def cabEventsWrong : ChangeSpec := { name := "cabEvents", fn := fun _ => fun
  | [d1, d2, d3] => { results := [.lit (.bool false)], args := [d1, d2, d3] }
  | _ => none }
def CabEventsWrongFalsely : Prop := cabEventsRow.holds Tryd.pinned (OpenSpec.ofChange cabEventsWrong)

/-- 'signallinglaw46.CabMeasures': WHATEVER THE INPUT: true; the input reads as it did. -/
def cabMeasuresSpec : ChangeSpec := { name := "cabMeasures", fn := fun _ => fun
  | [d1, d2] => { results := [.lit (.bool true)], args := [d1, d2] }
  | _ => none }
def cabMeasuresRow : OpenClaim := { program := "ytbgmknkmfhpgeaadoor", sum := "f4b0337e37ae4c2e83b7598220249b98dcf046bceca44c92b538ab1a4e5da918", func := "signalling/signallinglaw46.CabMeasures", spec := "cabMeasures", unfollowed := true, recurses := true, named := ["signalling/modes.limits"], apart := false, laid := [("signalling/modes.limits", laid_signalling_modes_limits)] }
def CabMeasuresSaid : Prop := cabMeasuresRow.holds Tryd.pinned (OpenSpec.ofChange cabMeasuresSpec)

/-- ITS FALSE NEIGHBOUR: 'it returns false'. Refute it at one input. -/
def cabMeasuresWrong : ChangeSpec := { name := "cabMeasures", fn := fun _ => fun
  | [d1, d2] => { results := [.lit (.bool false)], args := [d1, d2] }
  | _ => none }
def CabMeasuresWrongFalsely : Prop := cabMeasuresRow.holds Tryd.pinned (OpenSpec.ofChange cabMeasuresWrong)

/-- 'signallinglaw46.CabMonotone': WHATEVER THE INPUT: true; the input reads as it did. -/
def cabMonotoneSpec : ChangeSpec := { name := "cabMonotone", fn := fun _ => fun
  | [d] => { results := [.lit (.bool true)], args := [d] }
  | _ => none }
def cabMonotoneRow : OpenClaim := { program := "ytbgmknkmfhpgeaadoor", sum := "f4b0337e37ae4c2e83b7598220249b98dcf046bceca44c92b538ab1a4e5da918", func := "signalling/signallinglaw46.CabMonotone", spec := "cabMonotone", unfollowed := true, recurses := true, named := ["signalling/modes.limits"], apart := false, laid := [("signalling/modes.limits", laid_signalling_modes_limits)] }
def CabMonotoneSaid : Prop := cabMonotoneRow.holds Tryd.pinned (OpenSpec.ofChange cabMonotoneSpec)

/-- ITS FALSE NEIGHBOUR: 'it returns false'. Refute it at one input. -/
def cabMonotoneWrong : ChangeSpec := { name := "cabMonotone", fn := fun _ => fun
  | [d] => { results := [.lit (.bool false)], args := [d] }
  | _ => none }
def CabMonotoneWrongFalsely : Prop := cabMonotoneRow.holds Tryd.pinned (OpenSpec.ofChange cabMonotoneWrong)

/-- 'signallinglaw46.CabTrips': WHATEVER THE INPUT: true; the input reads as it did. -/
def cabTripsSpec : ChangeSpec := { name := "cabTrips", fn := fun _ => fun
  | [d1, d2, d3] => { results := [.lit (.bool true)], args := [d1, d2, d3] }
  | _ => none }
def cabTripsRow : OpenClaim := { program := "ytbgmknkmfhpgeaadoor", sum := "f4b0337e37ae4c2e83b7598220249b98dcf046bceca44c92b538ab1a4e5da918", func := "signalling/signallinglaw46.CabTrips", spec := "cabTrips", unfollowed := true, recurses := true, named := ["signalling/modes.limits", "signalling/modes.transitions"], apart := false, laid := [("signalling/modes.transitions", laid_signalling_modes_transitions), ("signalling/modes.limits", laid_signalling_modes_limits)] }
def CabTripsSaid : Prop := cabTripsRow.holds Tryd.pinned (OpenSpec.ofChange cabTripsSpec)

/-- ITS FALSE NEIGHBOUR: 'it returns false'. Refute it at one input. -/
def cabTripsWrong : ChangeSpec := { name := "cabTrips", fn := fun _ => fun
  | [d1, d2, d3] => { results := [.lit (.bool false)], args := [d1, d2, d3] }
  | _ => none }
def CabTripsWrongFalsely : Prop := cabTripsRow.holds Tryd.pinned (OpenSpec.ofChange cabTripsWrong)

/- THE SECOND FORM. 'bulk': how many values and letters a reading holds, each counted each time it is reached (what is shared counts as often as it is met; a slice's spare places count too). A statement '..UptoSaid' is the law's where the arguments, and the package variables that the reading takes, are together of bulk at most 1048576: NARROWER than '..Said'. Prove '..Said' where nothing that the law and all that it calls make is longer than what came in: it says more and counts as full. Else prove '..UptoSaid'. A law counts once. -/
mutual
def uptoBulk {H : Type} : DataW H → Nat
  | .lit (.string bytes) => bytes.length + 1
  | .lit _ => 1
  | .nil => 1
  | .ptr d => uptoBulk d + 1
  | .slice elems spare => uptoBulkAll elems + uptoBulkAll spare + 1
  | .agg parts => uptoBulkAll parts + 1
  | .iface _ d => uptoBulk d + 1
  | .map entries => uptoBulkEntries entries + 1
  | .held _ => 1
def uptoBulkAll {H : Type} : List (DataW H) → Nat
  | [] => 0
  | d :: r => uptoBulk d + uptoBulkAll r
def uptoBulkEntries {H : Type} : List (Lit × DataW H) → Nat
  | [] => 0
  | x :: r => uptoBulkEntry x + uptoBulkEntries r
def uptoBulkEntry {H : Type} : Lit × DataW H → Nat
  | (.string bytes, d) => bytes.length + uptoBulk d + 1
  | (_, d) => uptoBulk d + 1
 end
def uptoSmall : (H : Type) → List (DataW H) → Bool := fun _ ds => decide (uptoBulkAll ds ≤ 1048576)
def OpenSpec.upto (s : _root_.Go.ChangeSpec) : _root_.Go.OpenSpec := { _root_.Go.OpenSpec.ofChange s with cond := some uptoSmall }

/-- 'signallinglaw46.CabReceives', WHERE WHAT IT READS IS OF BULK AT MOST 1048576: true; the input reads as it did. -/
def cabReceivesUptoRow : OpenClaim := { program := "ytbgmknkmfhpgeaadoor", sum := "f4b0337e37ae4c2e83b7598220249b98dcf046bceca44c92b538ab1a4e5da918", func := "signalling/signallinglaw46.CabReceives", spec := "cabReceives", unfollowed := true, recurses := true, named := ["signalling/modes.limits"], apart := false, laid := [("signalling/modes.limits", laid_signalling_modes_limits)], narrowed := true }
def CabReceivesUptoSaid : Prop := cabReceivesUptoRow.holds Tryd.pinned (OpenSpec.upto cabReceivesSpec)

/-- 'signallinglaw46.CabDecides', WHERE WHAT IT READS IS OF BULK AT MOST 1048576: true; the input reads as it did. -/
def cabDecidesUptoRow : OpenClaim := { program := "ytbgmknkmfhpgeaadoor", sum := "f4b0337e37ae4c2e83b7598220249b98dcf046bceca44c92b538ab1a4e5da918", func := "signalling/signallinglaw46.CabDecides", spec := "cabDecides", unfollowed := true, recurses := true, named := ["signalling/modes.limits"], apart := false, laid := [("signalling/modes.limits", laid_signalling_modes_limits)], narrowed := true }
def CabDecidesUptoSaid : Prop := cabDecidesUptoRow.holds Tryd.pinned (OpenSpec.upto cabDecidesSpec)

/-- 'signallinglaw46.CabSafe', WHERE WHAT IT READS IS OF BULK AT MOST 1048576: true; the input reads as it did. -/
def cabSafeUptoRow : OpenClaim := { program := "ytbgmknkmfhpgeaadoor", sum := "f4b0337e37ae4c2e83b7598220249b98dcf046bceca44c92b538ab1a4e5da918", func := "signalling/signallinglaw46.CabSafe", spec := "cabSafe", unfollowed := true, recurses := true, named := ["signalling/modes.limits"], apart := false, laid := [("signalling/modes.limits", laid_signalling_modes_limits)], narrowed := true }
def CabSafeUptoSaid : Prop := cabSafeUptoRow.holds Tryd.pinned (OpenSpec.upto cabSafeSpec)

/-- 'signallinglaw46.CabEvents', WHERE WHAT IT READS IS OF BULK AT MOST 1048576: true; the input reads as it did. -/
def cabEventsUptoRow : OpenClaim := { program := "ytbgmknkmfhpgeaadoor", sum := "f4b0337e37ae4c2e83b7598220249b98dcf046bceca44c92b538ab1a4e5da918", func := "signalling/signallinglaw46.CabEvents", spec := "cabEvents", unfollowed := true, recurses := true, named := ["signalling/modes.limits", "signalling/modes.transitions"], apart := false, laid := [("signalling/modes.transitions", laid_signalling_modes_transitions), ("signalling/modes.limits", laid_signalling_modes_limits)], narrowed := true }
def CabEventsUptoSaid : Prop := cabEventsUptoRow.holds Tryd.pinned (OpenSpec.upto cabEventsSpec)

/-- 'signallinglaw46.CabMeasures', WHERE WHAT IT READS IS OF BULK AT MOST 1048576: true; the input reads as it did. -/
def cabMeasuresUptoRow : OpenClaim := { program := "ytbgmknkmfhpgeaadoor", sum := "f4b0337e37ae4c2e83b7598220249b98dcf046bceca44c92b538ab1a4e5da918", func := "signalling/signallinglaw46.CabMeasures", spec := "cabMeasures", unfollowed := true, recurses := true, named := ["signalling/modes.limits"], apart := false, laid := [("signalling/modes.limits", laid_signalling_modes_limits)], narrowed := true }
def CabMeasuresUptoSaid : Prop := cabMeasuresUptoRow.holds Tryd.pinned (OpenSpec.upto cabMeasuresSpec)

/-- 'signallinglaw46.CabMonotone', WHERE WHAT IT READS IS OF BULK AT MOST 1048576: true; the input reads as it did. -/
def cabMonotoneUptoRow : OpenClaim := { program := "ytbgmknkmfhpgeaadoor", sum := "f4b0337e37ae4c2e83b7598220249b98dcf046bceca44c92b538ab1a4e5da918", func := "signalling/signallinglaw46.CabMonotone", spec := "cabMonotone", unfollowed := true, recurses := true, named := ["signalling/modes.limits"], apart := false, laid := [("signalling/modes.limits", laid_signalling_modes_limits)], narrowed := true }
def CabMonotoneUptoSaid : Prop := cabMonotoneUptoRow.holds Tryd.pinned (OpenSpec.upto cabMonotoneSpec)

/-- 'signallinglaw46.CabTrips', WHERE WHAT IT READS IS OF BULK AT MOST 1048576: true; the input reads as it did. -/
def cabTripsUptoRow : OpenClaim := { program := "ytbgmknkmfhpgeaadoor", sum := "f4b0337e37ae4c2e83b7598220249b98dcf046bceca44c92b538ab1a4e5da918", func := "signalling/signallinglaw46.CabTrips", spec := "cabTrips", unfollowed := true, recurses := true, named := ["signalling/modes.limits", "signalling/modes.transitions"], apart := false, laid := [("signalling/modes.transitions", laid_signalling_modes_transitions), ("signalling/modes.limits", laid_signalling_modes_limits)], narrowed := true }
def CabTripsUptoSaid : Prop := cabTripsUptoRow.holds Tryd.pinned (OpenSpec.upto cabTripsSpec)

end Rows
end Go.Proofs.YtbgmknkmfhpgeaaDoor
