/-
  No cell of these rows narrows 'for every input' (looked for: loops, veiled, ifaces, maps, wideKeys, modest, calm, conditions, laid).
  DERIVED. THE GIVEN ROWS OF THIS SEAT. 6 by the template 'for every input the law returns true; each argument reads behind the call as it read before'; 0 by the template 'total and deterministic' (their statements: YtjafpambbmohlaaTotals.lean).
  GIVEN WITH THE SEED: the statements are not yours to turn. If you find one false, say at which input.
  Laid BY PROGRAM, IN A SANDBOX (cutbox-rows.mjs): the forced cells as the released guide's own fill.sh prints them over the translation f70080f4ee551faf… (all of the seat's roots in one cut). By AI agents, Wed Nov 11 2026. No macro, syntax, notation, axiom, sorry.
-/
import Derived.Test.YtjafpambbmohlaaChecked
import GoSem.Claim
import GoSem.ClaimJoined
import GoSem.ClaimMapViews
import Derived.JoinedTies
import Derived.KernelRfl
namespace Go.Proofs.Ytjafpambbmohlaa
/- THE CELL 'sum', in the pinned program and in every row, IS THE sha256 OF THE DUMP (.gsa) THAT YtjafpambbmohlaaProg.lean LOADS. Nothing in Lean hashes anything: it is a label: what it is worth is what the hold of that sum in a sandbox is worth. -/
noncomputable def Try.pinned : Pinned := { name := "ytjafpambbmohlaa", sum := "f70080f4ee551faf604715bfe24ea01eba6f598e34da2f00242095561df3b571", checked := Try.checked }
namespace Rows
def none {H : Type} : Left H := { results := [], args := [] }

/-- 'signallinglaw29.BrakeEffective': WHATEVER THE INPUT: true; the input reads as it did. -/
def brakeEffectiveSpec : ChangeSpec := { name := "brakeEffective", fn := fun _ => fun
  | [d1, d2] => { results := [.lit (.bool true)], args := [d1, d2] }
  | _ => none }
def brakeEffectiveRow : OpenClaim := { program := "ytjafpambbmohlaa", sum := "f70080f4ee551faf604715bfe24ea01eba6f598e34da2f00242095561df3b571", func := "signalling/signallinglaw29.BrakeEffective", spec := "brakeEffective", apart := false }
def BrakeEffectiveSaid : Prop := brakeEffectiveRow.holds Try.pinned (OpenSpec.ofChange brakeEffectiveSpec)

/-- ITS FALSE NEIGHBOUR: 'it returns false'. Refute it at one input. -/
def brakeEffectiveWrong : ChangeSpec := { name := "brakeEffective", fn := fun _ => fun
  | [d1, d2] => { results := [.lit (.bool false)], args := [d1, d2] }
  | _ => none }
def BrakeEffectiveWrongFalsely : Prop := brakeEffectiveRow.holds Try.pinned (OpenSpec.ofChange brakeEffectiveWrong)

/-- 'signallinglaw29.BrakeDistance': WHATEVER THE INPUT: true; the input reads as it did. -/
def brakeDistanceSpec : ChangeSpec := { name := "brakeDistance", fn := fun _ => fun
  | [d1, d2, d3] => { results := [.lit (.bool true)], args := [d1, d2, d3] }
  | _ => none }
def brakeDistanceRow : OpenClaim := { program := "ytjafpambbmohlaa", sum := "f70080f4ee551faf604715bfe24ea01eba6f598e34da2f00242095561df3b571", func := "signalling/signallinglaw29.BrakeDistance", spec := "brakeDistance", apart := false }
def BrakeDistanceSaid : Prop := brakeDistanceRow.holds Try.pinned (OpenSpec.ofChange brakeDistanceSpec)

/-- ITS FALSE NEIGHBOUR: 'it returns false'. Refute it at one input. -/
def brakeDistanceWrong : ChangeSpec := { name := "brakeDistance", fn := fun _ => fun
  | [d1, d2, d3] => { results := [.lit (.bool false)], args := [d1, d2, d3] }
  | _ => none }
def BrakeDistanceWrongFalsely : Prop := brakeDistanceRow.holds Try.pinned (OpenSpec.ofChange brakeDistanceWrong)

/-- 'signallinglaw29.BrakeTimes': WHATEVER THE INPUT: true; the input reads as it did. -/
def brakeTimesSpec : ChangeSpec := { name := "brakeTimes", fn := fun _ => fun
  | [d1, d2, d3, d4] => { results := [.lit (.bool true)], args := [d1, d2, d3, d4] }
  | _ => none }
def brakeTimesRow : OpenClaim := { program := "ytjafpambbmohlaa", sum := "f70080f4ee551faf604715bfe24ea01eba6f598e34da2f00242095561df3b571", func := "signalling/signallinglaw29.BrakeTimes", spec := "brakeTimes", apart := false }
def BrakeTimesSaid : Prop := brakeTimesRow.holds Try.pinned (OpenSpec.ofChange brakeTimesSpec)

/-- ITS FALSE NEIGHBOUR: 'it returns false'. Refute it at one input. -/
def brakeTimesWrong : ChangeSpec := { name := "brakeTimes", fn := fun _ => fun
  | [d1, d2, d3, d4] => { results := [.lit (.bool false)], args := [d1, d2, d3, d4] }
  | _ => none }
def BrakeTimesWrongFalsely : Prop := brakeTimesRow.holds Try.pinned (OpenSpec.ofChange brakeTimesWrong)

/-- 'signallinglaw29.BrakeSpeed': WHATEVER THE INPUT: true; the input reads as it did. -/
def brakeSpeedSpec : ChangeSpec := { name := "brakeSpeed", fn := fun _ => fun
  | [d1, d2, d3] => { results := [.lit (.bool true)], args := [d1, d2, d3] }
  | _ => none }
def brakeSpeedRow : OpenClaim := { program := "ytjafpambbmohlaa", sum := "f70080f4ee551faf604715bfe24ea01eba6f598e34da2f00242095561df3b571", func := "signalling/signallinglaw29.BrakeSpeed", spec := "brakeSpeed", apart := false }
def BrakeSpeedSaid : Prop := brakeSpeedRow.holds Try.pinned (OpenSpec.ofChange brakeSpeedSpec)

/-- ITS FALSE NEIGHBOUR: 'it returns false'. Refute it at one input. -/
def brakeSpeedWrong : ChangeSpec := { name := "brakeSpeed", fn := fun _ => fun
  | [d1, d2, d3] => { results := [.lit (.bool false)], args := [d1, d2, d3] }
  | _ => none }
def BrakeSpeedWrongFalsely : Prop := brakeSpeedRow.holds Try.pinned (OpenSpec.ofChange brakeSpeedWrong)

/-- 'signallinglaw29.BrakeMonotone': WHATEVER THE INPUT: true; the input reads as it did. -/
def brakeMonotoneSpec : ChangeSpec := { name := "brakeMonotone", fn := fun _ => fun
  | [d1, d2, d3, d4] => { results := [.lit (.bool true)], args := [d1, d2, d3, d4] }
  | _ => none }
def brakeMonotoneRow : OpenClaim := { program := "ytjafpambbmohlaa", sum := "f70080f4ee551faf604715bfe24ea01eba6f598e34da2f00242095561df3b571", func := "signalling/signallinglaw29.BrakeMonotone", spec := "brakeMonotone", apart := false }
def BrakeMonotoneSaid : Prop := brakeMonotoneRow.holds Try.pinned (OpenSpec.ofChange brakeMonotoneSpec)

/-- ITS FALSE NEIGHBOUR: 'it returns false'. Refute it at one input. -/
def brakeMonotoneWrong : ChangeSpec := { name := "brakeMonotone", fn := fun _ => fun
  | [d1, d2, d3, d4] => { results := [.lit (.bool false)], args := [d1, d2, d3, d4] }
  | _ => none }
def BrakeMonotoneWrongFalsely : Prop := brakeMonotoneRow.holds Try.pinned (OpenSpec.ofChange brakeMonotoneWrong)

/-- 'signallinglaw29.BrakeHarder': WHATEVER THE INPUT: true; the input reads as it did. -/
def brakeHarderSpec : ChangeSpec := { name := "brakeHarder", fn := fun _ => fun
  | [d1, d2, d3, d4, d5] => { results := [.lit (.bool true)], args := [d1, d2, d3, d4, d5] }
  | _ => none }
def brakeHarderRow : OpenClaim := { program := "ytjafpambbmohlaa", sum := "f70080f4ee551faf604715bfe24ea01eba6f598e34da2f00242095561df3b571", func := "signalling/signallinglaw29.BrakeHarder", spec := "brakeHarder", apart := false }
def BrakeHarderSaid : Prop := brakeHarderRow.holds Try.pinned (OpenSpec.ofChange brakeHarderSpec)

/-- ITS FALSE NEIGHBOUR: 'it returns false'. Refute it at one input. -/
def brakeHarderWrong : ChangeSpec := { name := "brakeHarder", fn := fun _ => fun
  | [d1, d2, d3, d4, d5] => { results := [.lit (.bool false)], args := [d1, d2, d3, d4, d5] }
  | _ => none }
def BrakeHarderWrongFalsely : Prop := brakeHarderRow.holds Try.pinned (OpenSpec.ofChange brakeHarderWrong)

/- THE SECOND FORM. 'bulk': how many values and letters a reading holds, each counted each time it is reached (what is shared counts as often as it is met; a slice's spare places count too). A statement '..UptoSaid' is the law's where the arguments, and the package variables that the reading takes, are together of bulk at most 1048576: NARROWER than '..Said'. Prove '..Said' where nothing that the law and all that it calls make is longer than what came in: it says more and counts as full. Else prove '..UptoSaid'. A law counts once. -/
mutual
def uptoBulk {H : Type} : DataW H → Nat
  | .lit (.string bytes) => bytes.length + 1
  | .lit _ => 1
  | .nil => 1
  | .ptr d => uptoBulk d + 1
  | .slice elems spare => uptoBulkAll elems + uptoBulkAll spare + 1
  | .agg parts => uptoBulkAll parts + 1
  | .iface _ d => uptoBulk d + 1
  | .map entries => uptoBulkEntries entries + 1
  | .held _ => 1
def uptoBulkAll {H : Type} : List (DataW H) → Nat
  | [] => 0
  | d :: r => uptoBulk d + uptoBulkAll r
def uptoBulkEntries {H : Type} : List (Lit × DataW H) → Nat
  | [] => 0
  | x :: r => uptoBulkEntry x + uptoBulkEntries r
def uptoBulkEntry {H : Type} : Lit × DataW H → Nat
  | (.string bytes, d) => bytes.length + uptoBulk d + 1
  | (_, d) => uptoBulk d + 1
 end
def uptoSmall : (H : Type) → List (DataW H) → Bool := fun _ ds => decide (uptoBulkAll ds ≤ 1048576)
def OpenSpec.upto (s : _root_.Go.ChangeSpec) : _root_.Go.OpenSpec := { _root_.Go.OpenSpec.ofChange s with cond := some uptoSmall }

/-- 'signallinglaw29.BrakeEffective', WHERE WHAT IT READS IS OF BULK AT MOST 1048576: true; the input reads as it did. -/
def brakeEffectiveUptoRow : OpenClaim := { program := "ytjafpambbmohlaa", sum := "f70080f4ee551faf604715bfe24ea01eba6f598e34da2f00242095561df3b571", func := "signalling/signallinglaw29.BrakeEffective", spec := "brakeEffective", apart := false, narrowed := true }
def BrakeEffectiveUptoSaid : Prop := brakeEffectiveUptoRow.holds Try.pinned (OpenSpec.upto brakeEffectiveSpec)

/-- 'signallinglaw29.BrakeDistance', WHERE WHAT IT READS IS OF BULK AT MOST 1048576: true; the input reads as it did. -/
def brakeDistanceUptoRow : OpenClaim := { program := "ytjafpambbmohlaa", sum := "f70080f4ee551faf604715bfe24ea01eba6f598e34da2f00242095561df3b571", func := "signalling/signallinglaw29.BrakeDistance", spec := "brakeDistance", apart := false, narrowed := true }
def BrakeDistanceUptoSaid : Prop := brakeDistanceUptoRow.holds Try.pinned (OpenSpec.upto brakeDistanceSpec)

/-- 'signallinglaw29.BrakeTimes', WHERE WHAT IT READS IS OF BULK AT MOST 1048576: true; the input reads as it did. -/
def brakeTimesUptoRow : OpenClaim := { program := "ytjafpambbmohlaa", sum := "f70080f4ee551faf604715bfe24ea01eba6f598e34da2f00242095561df3b571", func := "signalling/signallinglaw29.BrakeTimes", spec := "brakeTimes", apart := false, narrowed := true }
def BrakeTimesUptoSaid : Prop := brakeTimesUptoRow.holds Try.pinned (OpenSpec.upto brakeTimesSpec)

/-- 'signallinglaw29.BrakeSpeed', WHERE WHAT IT READS IS OF BULK AT MOST 1048576: true; the input reads as it did. -/
def brakeSpeedUptoRow : OpenClaim := { program := "ytjafpambbmohlaa", sum := "f70080f4ee551faf604715bfe24ea01eba6f598e34da2f00242095561df3b571", func := "signalling/signallinglaw29.BrakeSpeed", spec := "brakeSpeed", apart := false, narrowed := true }
def BrakeSpeedUptoSaid : Prop := brakeSpeedUptoRow.holds Try.pinned (OpenSpec.upto brakeSpeedSpec)

/-- 'signallinglaw29.BrakeMonotone', WHERE WHAT IT READS IS OF BULK AT MOST 1048576: true; the input reads as it did. -/
def brakeMonotoneUptoRow : OpenClaim := { program := "ytjafpambbmohlaa", sum := "f70080f4ee551faf604715bfe24ea01eba6f598e34da2f00242095561df3b571", func := "signalling/signallinglaw29.BrakeMonotone", spec := "brakeMonotone", apart := false, narrowed := true }
def BrakeMonotoneUptoSaid : Prop := brakeMonotoneUptoRow.holds Try.pinned (OpenSpec.upto brakeMonotoneSpec)

/-- 'signallinglaw29.BrakeHarder', WHERE WHAT IT READS IS OF BULK AT MOST 1048576: true; the input reads as it did. -/
def brakeHarderUptoRow : OpenClaim := { program := "ytjafpambbmohlaa", sum := "f70080f4ee551faf604715bfe24ea01eba6f598e34da2f00242095561df3b571", func := "signalling/signallinglaw29.BrakeHarder", spec := "brakeHarder", apart := false, narrowed := true }
def BrakeHarderUptoSaid : Prop := brakeHarderUptoRow.holds Try.pinned (OpenSpec.upto brakeHarderSpec)

end Rows
end Go.Proofs.Ytjafpambbmohlaa
