/-
  NARROWER THAN 'FOR EVERY INPUT', by the rows' own cells (each row's printed sentence says how): MotionOrder: laid · MotionStops: laid · MotionSteps: laid · MotionReads: laid · MotionBounded: laid.
  DERIVED. THE GIVEN ROWS OF THIS SEAT. 5 by the template 'for every input the law returns true; each argument reads behind the call as it read before'; 0 by the template 'total and deterministic' (their statements: YticonpjkcocgeaaDoorTotals.lean).
  GIVEN WITH THE SEED: the statements are not yours to turn. If you find one false, say at which input.
  Laid BY PROGRAM, IN A SANDBOX (cutbox-rows.mjs): the forced cells as the released guide's own fill.sh prints them over the translation cf872ae28be5494d… (all of the seat's roots in one cut). By AI agents, Wed Nov 11 2026. No macro, syntax, notation, axiom, sorry.
-/
import Derived.Test.YticonpjkcocgeaaDoorChecked
import GoSem.Claim
import GoSem.ClaimJoined
import GoSem.ClaimMapViews
import Derived.JoinedTies
import Derived.KernelRfl
namespace Go.Proofs.YticonpjkcocgeaaDoor
/- THE CELL 'sum', in the pinned program and in every row, IS THE sha256 OF THE DUMP (.gsa) THAT YticonpjkcocgeaaDoorProg.lean LOADS. Nothing in Lean hashes anything: it is a label: what it is worth is what the hold of that sum in a sandbox is worth. -/
noncomputable def Tryd.pinned : Pinned := { name := "yticonpjkcocgeaadoor", sum := "cf872ae28be5494dcecaac85bf8c6bf48dbc58f7f63139b9ab37e15fb9c06253", checked := Tryd.checked }
namespace Rows
def none {H : Type} : Left H := { results := [], args := [] }

/- WHAT THE LISTED PACKAGE-LEVEL VARIABLES READ AS WHEN THE CALL BEGINS. Each datum BY PROGRAM (the guide's laid-datum.mjs) off the statement by which the dump's own 'gosem.cut.vars' lays the variable. In a bare row this is a premise. The card (YticonpjkcocgeaaDoorCards.lean) ties it to the program's text. -/
def laid_signalling_rail_passages {H : Type} : DataW H := .agg [.agg [.lit (.int .i64 1), .lit (.int .i64 0), .lit (.int .i64 1), .lit (.int .i64 0)], .agg [.lit (.int .i64 1), .lit (.int .i64 1), .lit (.int .i64 0), .lit (.int .i64 0)], .agg [.lit (.int .i64 2), .lit (.int .i64 0), .lit (.int .i64 1), .lit (.int .i64 1)], .agg [.lit (.int .i64 2), .lit (.int .i64 0), .lit (.int .i64 2), .lit (.int .i64 2)], .agg [.lit (.int .i64 2), .lit (.int .i64 1), .lit (.int .i64 0), .lit (.int .i64 1)], .agg [.lit (.int .i64 2), .lit (.int .i64 2), .lit (.int .i64 0), .lit (.int .i64 2)], .agg [.lit (.int .i64 3), .lit (.int .i64 0), .lit (.int .i64 1), .lit (.int .i64 0)], .agg [.lit (.int .i64 3), .lit (.int .i64 1), .lit (.int .i64 0), .lit (.int .i64 0)], .agg [.lit (.int .i64 3), .lit (.int .i64 2), .lit (.int .i64 3), .lit (.int .i64 0)], .agg [.lit (.int .i64 3), .lit (.int .i64 3), .lit (.int .i64 2), .lit (.int .i64 0)]]

/-- 'signallinglaw51.MotionOrder': WHATEVER THE INPUT: true; the input reads as it did. -/
def motionOrderSpec : ChangeSpec := { name := "motionOrder", fn := fun _ => fun
  | [d1, d2, d3, d4] => { results := [.lit (.bool true)], args := [d1, d2, d3, d4] }
  | _ => none }
def motionOrderRow : OpenClaim := { program := "yticonpjkcocgeaadoor", sum := "cf872ae28be5494dcecaac85bf8c6bf48dbc58f7f63139b9ab37e15fb9c06253", func := "signalling/signallinglaw51.MotionOrder", spec := "motionOrder", unfollowed := true, recurses := true, named := ["signalling/rail.passages"], apart := false, laid := [("signalling/rail.passages", laid_signalling_rail_passages)] }
def MotionOrderSaid : Prop := motionOrderRow.holds Tryd.pinned (OpenSpec.ofChange motionOrderSpec)

/-- ITS FALSE NEIGHBOUR: 'it returns false'. Refute it at one input. -/
def motionOrderWrong : ChangeSpec := { name := "motionOrder", fn := fun _ => fun
  | [d1, d2, d3, d4] => { results := [.lit (.bool false)], args := [d1, d2, d3, d4] }
  | _ => none }
def MotionOrderWrongFalsely : Prop := motionOrderRow.holds Tryd.pinned (OpenSpec.ofChange motionOrderWrong)

/-- 'signallinglaw51.MotionStops': WHATEVER THE INPUT: true; the input reads as it did. -/
def motionStopsSpec : ChangeSpec := { name := "motionStops", fn := fun _ => fun
  | [d1, d2, d3, d4] => { results := [.lit (.bool true)], args := [d1, d2, d3, d4] }
  | _ => none }
def motionStopsRow : OpenClaim := { program := "yticonpjkcocgeaadoor", sum := "cf872ae28be5494dcecaac85bf8c6bf48dbc58f7f63139b9ab37e15fb9c06253", func := "signalling/signallinglaw51.MotionStops", spec := "motionStops", unfollowed := true, recurses := true, named := ["signalling/rail.passages"], apart := false, laid := [("signalling/rail.passages", laid_signalling_rail_passages)] }
def MotionStopsSaid : Prop := motionStopsRow.holds Tryd.pinned (OpenSpec.ofChange motionStopsSpec)

/-- ITS FALSE NEIGHBOUR: 'it returns false'. Refute it at one input. -/
def motionStopsWrong : ChangeSpec := { name := "motionStops", fn := fun _ => fun
  | [d1, d2, d3, d4] => { results := [.lit (.bool false)], args := [d1, d2, d3, d4] }
  | _ => none }
def MotionStopsWrongFalsely : Prop := motionStopsRow.holds Tryd.pinned (OpenSpec.ofChange motionStopsWrong)

/-- 'signallinglaw51.MotionSteps': WHATEVER THE INPUT: true; the input reads as it did. -/
def motionStepsSpec : ChangeSpec := { name := "motionSteps", fn := fun _ => fun
  | [d1, d2, d3, d4] => { results := [.lit (.bool true)], args := [d1, d2, d3, d4] }
  | _ => none }
def motionStepsRow : OpenClaim := { program := "yticonpjkcocgeaadoor", sum := "cf872ae28be5494dcecaac85bf8c6bf48dbc58f7f63139b9ab37e15fb9c06253", func := "signalling/signallinglaw51.MotionSteps", spec := "motionSteps", unfollowed := true, recurses := true, named := ["signalling/rail.passages"], apart := false, laid := [("signalling/rail.passages", laid_signalling_rail_passages)] }
def MotionStepsSaid : Prop := motionStepsRow.holds Tryd.pinned (OpenSpec.ofChange motionStepsSpec)

/-- ITS FALSE NEIGHBOUR: 'it returns false'. Refute it at one input. -/
def motionStepsWrong : ChangeSpec := { name := "motionSteps", fn := fun _ => fun
  | [d1, d2, d3, d4] => { results := [.lit (.bool false)], args := [d1, d2, d3, d4] }
  | _ => none }
def MotionStepsWrongFalsely : Prop := motionStepsRow.holds Tryd.pinned (OpenSpec.ofChange motionStepsWrong)

/-- 'signallinglaw51.MotionReads': WHATEVER THE INPUT: true; the input reads as it did. -/
def motionReadsSpec : ChangeSpec := { name := "motionReads", fn := fun _ => fun
  | [d1, d2, d3] => { results := [.lit (.bool true)], args := [d1, d2, d3] }
  | _ => none }
def motionReadsRow : OpenClaim := { program := "yticonpjkcocgeaadoor", sum := "cf872ae28be5494dcecaac85bf8c6bf48dbc58f7f63139b9ab37e15fb9c06253", func := "signalling/signallinglaw51.MotionReads", spec := "motionReads", unfollowed := true, recurses := true, named := ["signalling/rail.passages"], apart := false, laid := [("signalling/rail.passages", laid_signalling_rail_passages)] }
def MotionReadsSaid : Prop := motionReadsRow.holds Tryd.pinned (OpenSpec.ofChange motionReadsSpec)

/-- ITS FALSE NEIGHBOUR: 'it returns false'. Refute it at one input. -/
def motionReadsWrong : ChangeSpec := { name := "motionReads", fn := fun _ => fun
  | [d1, d2, d3] => { results := [.lit (.bool false)], args := [d1, d2, d3] }
  | _ => none }
def MotionReadsWrongFalsely : Prop := motionReadsRow.holds Tryd.pinned (OpenSpec.ofChange motionReadsWrong)

/-- 'signallinglaw51.MotionBounded': WHATEVER THE INPUT: true; the input reads as it did. -/
def motionBoundedSpec : ChangeSpec := { name := "motionBounded", fn := fun _ => fun
  | [d1, d2, d3, d4] => { results := [.lit (.bool true)], args := [d1, d2, d3, d4] }
  | _ => none }
def motionBoundedRow : OpenClaim := { program := "yticonpjkcocgeaadoor", sum := "cf872ae28be5494dcecaac85bf8c6bf48dbc58f7f63139b9ab37e15fb9c06253", func := "signalling/signallinglaw51.MotionBounded", spec := "motionBounded", unfollowed := true, recurses := true, named := ["signalling/rail.passages"], apart := false, laid := [("signalling/rail.passages", laid_signalling_rail_passages)] }
def MotionBoundedSaid : Prop := motionBoundedRow.holds Tryd.pinned (OpenSpec.ofChange motionBoundedSpec)

/-- ITS FALSE NEIGHBOUR: 'it returns false'. Refute it at one input. -/
def motionBoundedWrong : ChangeSpec := { name := "motionBounded", fn := fun _ => fun
  | [d1, d2, d3, d4] => { results := [.lit (.bool false)], args := [d1, d2, d3, d4] }
  | _ => none }
def MotionBoundedWrongFalsely : Prop := motionBoundedRow.holds Tryd.pinned (OpenSpec.ofChange motionBoundedWrong)

/- THE SECOND FORM. 'bulk': how many values and letters a reading holds, each counted each time it is reached (what is shared counts as often as it is met; a slice's spare places count too). A statement '..UptoSaid' is the law's where the arguments, and the package variables that the reading takes, are together of bulk at most 1048576: NARROWER than '..Said'. Prove '..Said' where nothing that the law and all that it calls make is longer than what came in: it says more and counts as full. Else prove '..UptoSaid'. A law counts once. -/
mutual
def uptoBulk {H : Type} : DataW H → Nat
  | .lit (.string bytes) => bytes.length + 1
  | .lit _ => 1
  | .nil => 1
  | .ptr d => uptoBulk d + 1
  | .slice elems spare => uptoBulkAll elems + uptoBulkAll spare + 1
  | .agg parts => uptoBulkAll parts + 1
  | .iface _ d => uptoBulk d + 1
  | .map entries => uptoBulkEntries entries + 1
  | .held _ => 1
def uptoBulkAll {H : Type} : List (DataW H) → Nat
  | [] => 0
  | d :: r => uptoBulk d + uptoBulkAll r
def uptoBulkEntries {H : Type} : List (Lit × DataW H) → Nat
  | [] => 0
  | x :: r => uptoBulkEntry x + uptoBulkEntries r
def uptoBulkEntry {H : Type} : Lit × DataW H → Nat
  | (.string bytes, d) => bytes.length + uptoBulk d + 1
  | (_, d) => uptoBulk d + 1
 end
def uptoSmall : (H : Type) → List (DataW H) → Bool := fun _ ds => decide (uptoBulkAll ds ≤ 1048576)
def OpenSpec.upto (s : _root_.Go.ChangeSpec) : _root_.Go.OpenSpec := { _root_.Go.OpenSpec.ofChange s with cond := some uptoSmall }

/-- 'signallinglaw51.MotionOrder', WHERE WHAT IT READS IS OF BULK AT MOST 1048576: true; the input reads as it did. -/
def motionOrderUptoRow : OpenClaim := { program := "yticonpjkcocgeaadoor", sum := "cf872ae28be5494dcecaac85bf8c6bf48dbc58f7f63139b9ab37e15fb9c06253", func := "signalling/signallinglaw51.MotionOrder", spec := "motionOrder", unfollowed := true, recurses := true, named := ["signalling/rail.passages"], apart := false, laid := [("signalling/rail.passages", laid_signalling_rail_passages)], narrowed := true }
def MotionOrderUptoSaid : Prop := motionOrderUptoRow.holds Tryd.pinned (OpenSpec.upto motionOrderSpec)

/-- 'signallinglaw51.MotionStops', WHERE WHAT IT READS IS OF BULK AT MOST 1048576: true; the input reads as it did. -/
def motionStopsUptoRow : OpenClaim := { program := "yticonpjkcocgeaadoor", sum := "cf872ae28be5494dcecaac85bf8c6bf48dbc58f7f63139b9ab37e15fb9c06253", func := "signalling/signallinglaw51.MotionStops", spec := "motionStops", unfollowed := true, recurses := true, named := ["signalling/rail.passages"], apart := false, laid := [("signalling/rail.passages", laid_signalling_rail_passages)], narrowed := true }
def MotionStopsUptoSaid : Prop := motionStopsUptoRow.holds Tryd.pinned (OpenSpec.upto motionStopsSpec)

/-- 'signallinglaw51.MotionSteps', WHERE WHAT IT READS IS OF BULK AT MOST 1048576: true; the input reads as it did. -/
def motionStepsUptoRow : OpenClaim := { program := "yticonpjkcocgeaadoor", sum := "cf872ae28be5494dcecaac85bf8c6bf48dbc58f7f63139b9ab37e15fb9c06253", func := "signalling/signallinglaw51.MotionSteps", spec := "motionSteps", unfollowed := true, recurses := true, named := ["signalling/rail.passages"], apart := false, laid := [("signalling/rail.passages", laid_signalling_rail_passages)], narrowed := true }
def MotionStepsUptoSaid : Prop := motionStepsUptoRow.holds Tryd.pinned (OpenSpec.upto motionStepsSpec)

/-- 'signallinglaw51.MotionReads', WHERE WHAT IT READS IS OF BULK AT MOST 1048576: true; the input reads as it did. -/
def motionReadsUptoRow : OpenClaim := { program := "yticonpjkcocgeaadoor", sum := "cf872ae28be5494dcecaac85bf8c6bf48dbc58f7f63139b9ab37e15fb9c06253", func := "signalling/signallinglaw51.MotionReads", spec := "motionReads", unfollowed := true, recurses := true, named := ["signalling/rail.passages"], apart := false, laid := [("signalling/rail.passages", laid_signalling_rail_passages)], narrowed := true }
def MotionReadsUptoSaid : Prop := motionReadsUptoRow.holds Tryd.pinned (OpenSpec.upto motionReadsSpec)

/-- 'signallinglaw51.MotionBounded', WHERE WHAT IT READS IS OF BULK AT MOST 1048576: true; the input reads as it did. -/
def motionBoundedUptoRow : OpenClaim := { program := "yticonpjkcocgeaadoor", sum := "cf872ae28be5494dcecaac85bf8c6bf48dbc58f7f63139b9ab37e15fb9c06253", func := "signalling/signallinglaw51.MotionBounded", spec := "motionBounded", unfollowed := true, recurses := true, named := ["signalling/rail.passages"], apart := false, laid := [("signalling/rail.passages", laid_signalling_rail_passages)], narrowed := true }
def MotionBoundedUptoSaid : Prop := motionBoundedUptoRow.holds Tryd.pinned (OpenSpec.upto motionBoundedSpec)

end Rows
end Go.Proofs.YticonpjkcocgeaaDoor
