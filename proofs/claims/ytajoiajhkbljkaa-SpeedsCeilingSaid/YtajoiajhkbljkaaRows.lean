/-
  No cell of these rows narrows 'for every input' (looked for: loops, veiled, ifaces, maps, wideKeys, modest, calm, conditions, laid).
  DERIVED. THE GIVEN ROWS OF THIS SEAT. 6 by the template 'for every input the law returns true; each argument reads behind the call as it read before'; 0 by the template 'total and deterministic' (their statements: YtajoiajhkbljkaaTotals.lean).
  GIVEN WITH THE SEED: the statements are not yours to turn. If you find one false, say at which input.
  Laid BY PROGRAM, IN A SANDBOX (cutbox-rows.mjs): the forced cells as the released guide's own fill.sh prints them over the translation 9bf7d0ea2d5425c2… (all of the seat's roots in one cut). By AI agents, Wed Nov 11 2026. No macro, syntax, notation, axiom, sorry.
-/
import Derived.Test.YtajoiajhkbljkaaChecked
import GoSem.Claim
import GoSem.ClaimJoined
import GoSem.ClaimMapViews
import Derived.JoinedTies
import Derived.KernelRfl
namespace Go.Proofs.Ytajoiajhkbljkaa
/- THE CELL 'sum', in the pinned program and in every row, IS THE sha256 OF THE DUMP (.gsa) THAT YtajoiajhkbljkaaProg.lean LOADS. Nothing in Lean hashes anything: it is a label: what it is worth is what the hold of that sum in a sandbox is worth. -/
noncomputable def Try.pinned : Pinned := { name := "ytajoiajhkbljkaa", sum := "9bf7d0ea2d5425c293b92cb4aa18d77372b28c51f98815763a43cb89b4a75fc5", checked := Try.checked }
namespace Rows
def none {H : Type} : Left H := { results := [], args := [] }

/-- 'signallinglaw33.SpeedsToward': WHATEVER THE INPUT: true; the input reads as it did. -/
def speedsTowardSpec : ChangeSpec := { name := "speedsToward", fn := fun _ => fun
  | [d1, d2, d3, d4] => { results := [.lit (.bool true)], args := [d1, d2, d3, d4] }
  | _ => none }
def speedsTowardRow : OpenClaim := { program := "ytajoiajhkbljkaa", sum := "9bf7d0ea2d5425c293b92cb4aa18d77372b28c51f98815763a43cb89b4a75fc5", func := "signalling/signallinglaw33.SpeedsToward", spec := "speedsToward", unfollowed := true, recurses := true, apart := false }
def SpeedsTowardSaid : Prop := speedsTowardRow.holds Try.pinned (OpenSpec.ofChange speedsTowardSpec)

/-- ITS FALSE NEIGHBOUR: 'it returns false'. Refute it at one input. -/
def speedsTowardWrong : ChangeSpec := { name := "speedsToward", fn := fun _ => fun
  | [d1, d2, d3, d4] => { results := [.lit (.bool false)], args := [d1, d2, d3, d4] }
  | _ => none }
def SpeedsTowardWrongFalsely : Prop := speedsTowardRow.holds Try.pinned (OpenSpec.ofChange speedsTowardWrong)

/-- 'signallinglaw33.SpeedsPermitted': WHATEVER THE INPUT: true; the input reads as it did. -/
def speedsPermittedSpec : ChangeSpec := { name := "speedsPermitted", fn := fun _ => fun
  | [d1, d2, d3] => { results := [.lit (.bool true)], args := [d1, d2, d3] }
  | _ => none }
def speedsPermittedRow : OpenClaim := { program := "ytajoiajhkbljkaa", sum := "9bf7d0ea2d5425c293b92cb4aa18d77372b28c51f98815763a43cb89b4a75fc5", func := "signalling/signallinglaw33.SpeedsPermitted", spec := "speedsPermitted", unfollowed := true, recurses := true, apart := false }
def SpeedsPermittedSaid : Prop := speedsPermittedRow.holds Try.pinned (OpenSpec.ofChange speedsPermittedSpec)

/-- ITS FALSE NEIGHBOUR: 'it returns false'. Refute it at one input. -/
def speedsPermittedWrong : ChangeSpec := { name := "speedsPermitted", fn := fun _ => fun
  | [d1, d2, d3] => { results := [.lit (.bool false)], args := [d1, d2, d3] }
  | _ => none }
def SpeedsPermittedWrongFalsely : Prop := speedsPermittedRow.holds Try.pinned (OpenSpec.ofChange speedsPermittedWrong)

/-- 'signallinglaw33.SpeedsReach': WHATEVER THE INPUT: true; the input reads as it did. -/
def speedsReachSpec : ChangeSpec := { name := "speedsReach", fn := fun _ => fun
  | [d1, d2, d3, d4] => { results := [.lit (.bool true)], args := [d1, d2, d3, d4] }
  | _ => none }
def speedsReachRow : OpenClaim := { program := "ytajoiajhkbljkaa", sum := "9bf7d0ea2d5425c293b92cb4aa18d77372b28c51f98815763a43cb89b4a75fc5", func := "signalling/signallinglaw33.SpeedsReach", spec := "speedsReach", unfollowed := true, recurses := true, apart := false }
def SpeedsReachSaid : Prop := speedsReachRow.holds Try.pinned (OpenSpec.ofChange speedsReachSpec)

/-- ITS FALSE NEIGHBOUR: 'it returns false'. Refute it at one input. -/
def speedsReachWrong : ChangeSpec := { name := "speedsReach", fn := fun _ => fun
  | [d1, d2, d3, d4] => { results := [.lit (.bool false)], args := [d1, d2, d3, d4] }
  | _ => none }
def SpeedsReachWrongFalsely : Prop := speedsReachRow.holds Try.pinned (OpenSpec.ofChange speedsReachWrong)

/-- 'signallinglaw33.SpeedsEnd': WHATEVER THE INPUT: true; the input reads as it did. -/
def speedsEndSpec : ChangeSpec := { name := "speedsEnd", fn := fun _ => fun
  | [d1, d2, d3] => { results := [.lit (.bool true)], args := [d1, d2, d3] }
  | _ => none }
def speedsEndRow : OpenClaim := { program := "ytajoiajhkbljkaa", sum := "9bf7d0ea2d5425c293b92cb4aa18d77372b28c51f98815763a43cb89b4a75fc5", func := "signalling/signallinglaw33.SpeedsEnd", spec := "speedsEnd", unfollowed := true, recurses := true, apart := false }
def SpeedsEndSaid : Prop := speedsEndRow.holds Try.pinned (OpenSpec.ofChange speedsEndSpec)

/-- ITS FALSE NEIGHBOUR: 'it returns false'. Refute it at one input. -/
def speedsEndWrong : ChangeSpec := { name := "speedsEnd", fn := fun _ => fun
  | [d1, d2, d3] => { results := [.lit (.bool false)], args := [d1, d2, d3] }
  | _ => none }
def SpeedsEndWrongFalsely : Prop := speedsEndRow.holds Try.pinned (OpenSpec.ofChange speedsEndWrong)

/-- 'signallinglaw33.SpeedsOrder': WHATEVER THE INPUT: true; the input reads as it did. -/
def speedsOrderSpec : ChangeSpec := { name := "speedsOrder", fn := fun _ => fun
  | [d1, d2, d3, d4, d5, d6] => { results := [.lit (.bool true)], args := [d1, d2, d3, d4, d5, d6] }
  | _ => none }
def speedsOrderRow : OpenClaim := { program := "ytajoiajhkbljkaa", sum := "9bf7d0ea2d5425c293b92cb4aa18d77372b28c51f98815763a43cb89b4a75fc5", func := "signalling/signallinglaw33.SpeedsOrder", spec := "speedsOrder", unfollowed := true, recurses := true, apart := false }
def SpeedsOrderSaid : Prop := speedsOrderRow.holds Try.pinned (OpenSpec.ofChange speedsOrderSpec)

/-- ITS FALSE NEIGHBOUR: 'it returns false'. Refute it at one input. -/
def speedsOrderWrong : ChangeSpec := { name := "speedsOrder", fn := fun _ => fun
  | [d1, d2, d3, d4, d5, d6] => { results := [.lit (.bool false)], args := [d1, d2, d3, d4, d5, d6] }
  | _ => none }
def SpeedsOrderWrongFalsely : Prop := speedsOrderRow.holds Try.pinned (OpenSpec.ofChange speedsOrderWrong)

/-- 'signallinglaw33.SpeedsCeiling': WHATEVER THE INPUT: true; the input reads as it did. -/
def speedsCeilingSpec : ChangeSpec := { name := "speedsCeiling", fn := fun _ => fun
  | [d1, d2, d3, d4] => { results := [.lit (.bool true)], args := [d1, d2, d3, d4] }
  | _ => none }
def speedsCeilingRow : OpenClaim := { program := "ytajoiajhkbljkaa", sum := "9bf7d0ea2d5425c293b92cb4aa18d77372b28c51f98815763a43cb89b4a75fc5", func := "signalling/signallinglaw33.SpeedsCeiling", spec := "speedsCeiling", unfollowed := true, recurses := true, apart := false }
def SpeedsCeilingSaid : Prop := speedsCeilingRow.holds Try.pinned (OpenSpec.ofChange speedsCeilingSpec)

/-- ITS FALSE NEIGHBOUR: 'it returns false'. Refute it at one input. -/
def speedsCeilingWrong : ChangeSpec := { name := "speedsCeiling", fn := fun _ => fun
  | [d1, d2, d3, d4] => { results := [.lit (.bool false)], args := [d1, d2, d3, d4] }
  | _ => none }
def SpeedsCeilingWrongFalsely : Prop := speedsCeilingRow.holds Try.pinned (OpenSpec.ofChange speedsCeilingWrong)

/- THE SECOND FORM. 'bulk': how many values and letters a reading holds, each counted each time it is reached (what is shared counts as often as it is met; a slice's spare places count too). A statement '..UptoSaid' is the law's where the arguments, and the package variables that the reading takes, are together of bulk at most 1048576: NARROWER than '..Said'. Prove '..Said' where nothing that the law and all that it calls make is longer than what came in: it says more and counts as full. Else prove '..UptoSaid'. A law counts once. -/
mutual
def uptoBulk {H : Type} : DataW H → Nat
  | .lit (.string bytes) => bytes.length + 1
  | .lit _ => 1
  | .nil => 1
  | .ptr d => uptoBulk d + 1
  | .slice elems spare => uptoBulkAll elems + uptoBulkAll spare + 1
  | .agg parts => uptoBulkAll parts + 1
  | .iface _ d => uptoBulk d + 1
  | .map entries => uptoBulkEntries entries + 1
  | .held _ => 1
def uptoBulkAll {H : Type} : List (DataW H) → Nat
  | [] => 0
  | d :: r => uptoBulk d + uptoBulkAll r
def uptoBulkEntries {H : Type} : List (Lit × DataW H) → Nat
  | [] => 0
  | x :: r => uptoBulkEntry x + uptoBulkEntries r
def uptoBulkEntry {H : Type} : Lit × DataW H → Nat
  | (.string bytes, d) => bytes.length + uptoBulk d + 1
  | (_, d) => uptoBulk d + 1
 end
def uptoSmall : (H : Type) → List (DataW H) → Bool := fun _ ds => decide (uptoBulkAll ds ≤ 1048576)
def OpenSpec.upto (s : _root_.Go.ChangeSpec) : _root_.Go.OpenSpec := { _root_.Go.OpenSpec.ofChange s with cond := some uptoSmall }

/-- 'signallinglaw33.SpeedsToward', WHERE WHAT IT READS IS OF BULK AT MOST 1048576: true; the input reads as it did. -/
def speedsTowardUptoRow : OpenClaim := { program := "ytajoiajhkbljkaa", sum := "9bf7d0ea2d5425c293b92cb4aa18d77372b28c51f98815763a43cb89b4a75fc5", func := "signalling/signallinglaw33.SpeedsToward", spec := "speedsToward", unfollowed := true, recurses := true, apart := false, narrowed := true }
def SpeedsTowardUptoSaid : Prop := speedsTowardUptoRow.holds Try.pinned (OpenSpec.upto speedsTowardSpec)

/-- 'signallinglaw33.SpeedsPermitted', WHERE WHAT IT READS IS OF BULK AT MOST 1048576: true; the input reads as it did. -/
def speedsPermittedUptoRow : OpenClaim := { program := "ytajoiajhkbljkaa", sum := "9bf7d0ea2d5425c293b92cb4aa18d77372b28c51f98815763a43cb89b4a75fc5", func := "signalling/signallinglaw33.SpeedsPermitted", spec := "speedsPermitted", unfollowed := true, recurses := true, apart := false, narrowed := true }
def SpeedsPermittedUptoSaid : Prop := speedsPermittedUptoRow.holds Try.pinned (OpenSpec.upto speedsPermittedSpec)

/-- 'signallinglaw33.SpeedsReach', WHERE WHAT IT READS IS OF BULK AT MOST 1048576: true; the input reads as it did. -/
def speedsReachUptoRow : OpenClaim := { program := "ytajoiajhkbljkaa", sum := "9bf7d0ea2d5425c293b92cb4aa18d77372b28c51f98815763a43cb89b4a75fc5", func := "signalling/signallinglaw33.SpeedsReach", spec := "speedsReach", unfollowed := true, recurses := true, apart := false, narrowed := true }
def SpeedsReachUptoSaid : Prop := speedsReachUptoRow.holds Try.pinned (OpenSpec.upto speedsReachSpec)

/-- 'signallinglaw33.SpeedsEnd', WHERE WHAT IT READS IS OF BULK AT MOST 1048576: true; the input reads as it did. -/
def speedsEndUptoRow : OpenClaim := { program := "ytajoiajhkbljkaa", sum := "9bf7d0ea2d5425c293b92cb4aa18d77372b28c51f98815763a43cb89b4a75fc5", func := "signalling/signallinglaw33.SpeedsEnd", spec := "speedsEnd", unfollowed := true, recurses := true, apart := false, narrowed := true }
def SpeedsEndUptoSaid : Prop := speedsEndUptoRow.holds Try.pinned (OpenSpec.upto speedsEndSpec)

/-- 'signallinglaw33.SpeedsOrder', WHERE WHAT IT READS IS OF BULK AT MOST 1048576: true; the input reads as it did. -/
def speedsOrderUptoRow : OpenClaim := { program := "ytajoiajhkbljkaa", sum := "9bf7d0ea2d5425c293b92cb4aa18d77372b28c51f98815763a43cb89b4a75fc5", func := "signalling/signallinglaw33.SpeedsOrder", spec := "speedsOrder", unfollowed := true, recurses := true, apart := false, narrowed := true }
def SpeedsOrderUptoSaid : Prop := speedsOrderUptoRow.holds Try.pinned (OpenSpec.upto speedsOrderSpec)

/-- 'signallinglaw33.SpeedsCeiling', WHERE WHAT IT READS IS OF BULK AT MOST 1048576: true; the input reads as it did. -/
def speedsCeilingUptoRow : OpenClaim := { program := "ytajoiajhkbljkaa", sum := "9bf7d0ea2d5425c293b92cb4aa18d77372b28c51f98815763a43cb89b4a75fc5", func := "signalling/signallinglaw33.SpeedsCeiling", spec := "speedsCeiling", unfollowed := true, recurses := true, apart := false, narrowed := true }
def SpeedsCeilingUptoSaid : Prop := speedsCeilingUptoRow.holds Try.pinned (OpenSpec.upto speedsCeilingSpec)

end Rows
end Go.Proofs.Ytajoiajhkbljkaa
