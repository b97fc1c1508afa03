/-
  No cell of these rows narrows 'for every input' (looked for: loops, veiled, ifaces, maps, wideKeys, modest, calm, conditions, laid).
  DERIVED. THE GIVEN ROWS OF THIS SEAT. 4 by the template 'for every input the law returns true; each argument reads behind the call as it read before'; 0 by the template 'total and deterministic' (their statements: YtifeghhapgpolaaTotals.lean).
  GIVEN WITH THE SEED: the statements are not yours to turn. If you find one false, say at which input.
  Laid BY PROGRAM, IN A SANDBOX (cutbox-rows.mjs): the forced cells as the released guide's own fill.sh prints them over the translation 4143c85f78b720f7… (all of the seat's roots in one cut). By AI agents, Wed Nov 11 2026. No macro, syntax, notation, axiom, sorry.
-/
import Derived.Test.YtifeghhapgpolaaChecked
import GoSem.Claim
import GoSem.ClaimJoined
import GoSem.ClaimMapViews
import Derived.JoinedTies
import Derived.KernelRfl
namespace Go.Proofs.Ytifeghhapgpolaa
/- THE CELL 'sum', in the pinned program and in every row, IS THE sha256 OF THE DUMP (.gsa) THAT YtifeghhapgpolaaProg.lean LOADS. Nothing in Lean hashes anything: it is a label: what it is worth is what the hold of that sum in a sandbox is worth. -/
noncomputable def Try.pinned : Pinned := { name := "ytifeghhapgpolaa", sum := "4143c85f78b720f7801b1551334d250e6009dd7900dbcb6b1b980ae1b58fe5fb", checked := Try.checked }
namespace Rows
def none {H : Type} : Left H := { results := [], args := [] }

/-- 'signallinglaw44.OrderGives': WHATEVER THE INPUT: true; the input reads as it did. -/
def orderGivesSpec : ChangeSpec := { name := "orderGives", fn := fun _ => fun
  | [d1, d2, d3] => { results := [.lit (.bool true)], args := [d1, d2, d3] }
  | _ => none }
def orderGivesRow : OpenClaim := { program := "ytifeghhapgpolaa", sum := "4143c85f78b720f7801b1551334d250e6009dd7900dbcb6b1b980ae1b58fe5fb", func := "signalling/signallinglaw44.OrderGives", spec := "orderGives", unfollowed := true, recurses := true, apart := false }
def OrderGivesSaid : Prop := orderGivesRow.holds Try.pinned (OpenSpec.ofChange orderGivesSpec)

/-- ITS FALSE NEIGHBOUR: 'it returns false'. Refute it at one input. -/
def orderGivesWrong : ChangeSpec := { name := "orderGives", fn := fun _ => fun
  | [d1, d2, d3] => { results := [.lit (.bool false)], args := [d1, d2, d3] }
  | _ => none }
def OrderGivesWrongFalsely : Prop := orderGivesRow.holds Try.pinned (OpenSpec.ofChange orderGivesWrong)

/-- 'signallinglaw44.OrderLooks': WHATEVER THE INPUT: true; the input reads as it did. -/
def orderLooksSpec : ChangeSpec := { name := "orderLooks", fn := fun _ => fun
  | [d1, d2, d3, d4] => { results := [.lit (.bool true)], args := [d1, d2, d3, d4] }
  | _ => none }
def orderLooksRow : OpenClaim := { program := "ytifeghhapgpolaa", sum := "4143c85f78b720f7801b1551334d250e6009dd7900dbcb6b1b980ae1b58fe5fb", func := "signalling/signallinglaw44.OrderLooks", spec := "orderLooks", unfollowed := true, recurses := true, apart := false }
def OrderLooksSaid : Prop := orderLooksRow.holds Try.pinned (OpenSpec.ofChange orderLooksSpec)

/-- ITS FALSE NEIGHBOUR: 'it returns false'. Refute it at one input. -/
def orderLooksWrong : ChangeSpec := { name := "orderLooks", fn := fun _ => fun
  | [d1, d2, d3, d4] => { results := [.lit (.bool false)], args := [d1, d2, d3, d4] }
  | _ => none }
def OrderLooksWrongFalsely : Prop := orderLooksRow.holds Try.pinned (OpenSpec.ofChange orderLooksWrong)

/-- 'signallinglaw44.OrderExpires': WHATEVER THE INPUT: true; the input reads as it did. -/
def orderExpiresSpec : ChangeSpec := { name := "orderExpires", fn := fun _ => fun
  | [d1, d2, d3, d4, d5, d6] => { results := [.lit (.bool true)], args := [d1, d2, d3, d4, d5, d6] }
  | _ => none }
def orderExpiresRow : OpenClaim := { program := "ytifeghhapgpolaa", sum := "4143c85f78b720f7801b1551334d250e6009dd7900dbcb6b1b980ae1b58fe5fb", func := "signalling/signallinglaw44.OrderExpires", spec := "orderExpires", unfollowed := true, recurses := true, apart := false }
def OrderExpiresSaid : Prop := orderExpiresRow.holds Try.pinned (OpenSpec.ofChange orderExpiresSpec)

/-- ITS FALSE NEIGHBOUR: 'it returns false'. Refute it at one input. -/
def orderExpiresWrong : ChangeSpec := { name := "orderExpires", fn := fun _ => fun
  | [d1, d2, d3, d4, d5, d6] => { results := [.lit (.bool false)], args := [d1, d2, d3, d4, d5, d6] }
  | _ => none }
def OrderExpiresWrongFalsely : Prop := orderExpiresRow.holds Try.pinned (OpenSpec.ofChange orderExpiresWrong)

/-- 'signallinglaw44.OrderRuns': WHATEVER THE INPUT: true; the input reads as it did. -/
def orderRunsSpec : ChangeSpec := { name := "orderRuns", fn := fun _ => fun
  | [d1, d2] => { results := [.lit (.bool true)], args := [d1, d2] }
  | _ => none }
def orderRunsRow : OpenClaim := { program := "ytifeghhapgpolaa", sum := "4143c85f78b720f7801b1551334d250e6009dd7900dbcb6b1b980ae1b58fe5fb", func := "signalling/signallinglaw44.OrderRuns", spec := "orderRuns", unfollowed := true, recurses := true, apart := false }
def OrderRunsSaid : Prop := orderRunsRow.holds Try.pinned (OpenSpec.ofChange orderRunsSpec)

/-- ITS FALSE NEIGHBOUR: 'it returns false'. Refute it at one input. -/
def orderRunsWrong : ChangeSpec := { name := "orderRuns", fn := fun _ => fun
  | [d1, d2] => { results := [.lit (.bool false)], args := [d1, d2] }
  | _ => none }
def OrderRunsWrongFalsely : Prop := orderRunsRow.holds Try.pinned (OpenSpec.ofChange orderRunsWrong)

/- THE SECOND FORM. 'bulk': how many values and letters a reading holds, each counted each time it is reached (what is shared counts as often as it is met; a slice's spare places count too). A statement '..UptoSaid' is the law's where the arguments, and the package variables that the reading takes, are together of bulk at most 1048576: NARROWER than '..Said'. Prove '..Said' where nothing that the law and all that it calls make is longer than what came in: it says more and counts as full. Else prove '..UptoSaid'. A law counts once. -/
mutual
def uptoBulk {H : Type} : DataW H → Nat
  | .lit (.string bytes) => bytes.length + 1
  | .lit _ => 1
  | .nil => 1
  | .ptr d => uptoBulk d + 1
  | .slice elems spare => uptoBulkAll elems + uptoBulkAll spare + 1
  | .agg parts => uptoBulkAll parts + 1
  | .iface _ d => uptoBulk d + 1
  | .map entries => uptoBulkEntries entries + 1
  | .held _ => 1
def uptoBulkAll {H : Type} : List (DataW H) → Nat
  | [] => 0
  | d :: r => uptoBulk d + uptoBulkAll r
def uptoBulkEntries {H : Type} : List (Lit × DataW H) → Nat
  | [] => 0
  | x :: r => uptoBulkEntry x + uptoBulkEntries r
def uptoBulkEntry {H : Type} : Lit × DataW H → Nat
  | (.string bytes, d) => bytes.length + uptoBulk d + 1
  | (_, d) => uptoBulk d + 1
 end
def uptoSmall : (H : Type) → List (DataW H) → Bool := fun _ ds => decide (uptoBulkAll ds ≤ 1048576)
def OpenSpec.upto (s : _root_.Go.ChangeSpec) : _root_.Go.OpenSpec := { _root_.Go.OpenSpec.ofChange s with cond := some uptoSmall }

/-- 'signallinglaw44.OrderGives', WHERE WHAT IT READS IS OF BULK AT MOST 1048576: true; the input reads as it did. -/
def orderGivesUptoRow : OpenClaim := { program := "ytifeghhapgpolaa", sum := "4143c85f78b720f7801b1551334d250e6009dd7900dbcb6b1b980ae1b58fe5fb", func := "signalling/signallinglaw44.OrderGives", spec := "orderGives", unfollowed := true, recurses := true, apart := false, narrowed := true }
def OrderGivesUptoSaid : Prop := orderGivesUptoRow.holds Try.pinned (OpenSpec.upto orderGivesSpec)

/-- 'signallinglaw44.OrderLooks', WHERE WHAT IT READS IS OF BULK AT MOST 1048576: true; the input reads as it did. -/
def orderLooksUptoRow : OpenClaim := { program := "ytifeghhapgpolaa", sum := "4143c85f78b720f7801b1551334d250e6009dd7900dbcb6b1b980ae1b58fe5fb", func := "signalling/signallinglaw44.OrderLooks", spec := "orderLooks", unfollowed := true, recurses := true, apart := false, narrowed := true }
def OrderLooksUptoSaid : Prop := orderLooksUptoRow.holds Try.pinned (OpenSpec.upto orderLooksSpec)

/-- 'signallinglaw44.OrderExpires', WHERE WHAT IT READS IS OF BULK AT MOST 1048576: true; the input reads as it did. -/
def orderExpiresUptoRow : OpenClaim := { program := "ytifeghhapgpolaa", sum := "4143c85f78b720f7801b1551334d250e6009dd7900dbcb6b1b980ae1b58fe5fb", func := "signalling/signallinglaw44.OrderExpires", spec := "orderExpires", unfollowed := true, recurses := true, apart := false, narrowed := true }
def OrderExpiresUptoSaid : Prop := orderExpiresUptoRow.holds Try.pinned (OpenSpec.upto orderExpiresSpec)

/-- 'signallinglaw44.OrderRuns', WHERE WHAT IT READS IS OF BULK AT MOST 1048576: true; the input reads as it did. -/
def orderRunsUptoRow : OpenClaim := { program := "ytifeghhapgpolaa", sum := "4143c85f78b720f7801b1551334d250e6009dd7900dbcb6b1b980ae1b58fe5fb", func := "signalling/signallinglaw44.OrderRuns", spec := "orderRuns", unfollowed := true, recurses := true, apart := false, narrowed := true }
def OrderRunsUptoSaid : Prop := orderRunsUptoRow.holds Try.pinned (OpenSpec.upto orderRunsSpec)

end Rows
end Go.Proofs.Ytifeghhapgpolaa
