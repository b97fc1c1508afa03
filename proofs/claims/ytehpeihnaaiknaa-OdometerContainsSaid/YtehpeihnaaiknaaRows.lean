/-
  No cell of these rows narrows 'for every input' (looked for: loops, veiled, ifaces, maps, wideKeys, modest, calm, conditions, laid).
  DERIVED. THE GIVEN ROWS OF THIS SEAT. 5 by the template 'for every input the law returns true; each argument reads behind the call as it read before'; 0 by the template 'total and deterministic' (their statements: YtehpeihnaaiknaaTotals.lean).
  GIVEN WITH THE SEED: the statements are not yours to turn. If you find one false, say at which input.
  Laid BY PROGRAM, IN A SANDBOX (cutbox-rows.mjs): the forced cells as the released guide's own fill.sh prints them over the translation 067a6c2390ba7f55… (all of the seat's roots in one cut). By AI agents, Wed Nov 11 2026. No macro, syntax, notation, axiom, sorry.
-/
import Derived.Test.YtehpeihnaaiknaaChecked
import GoSem.Claim
import GoSem.ClaimJoined
import GoSem.ClaimMapViews
import Derived.JoinedTies
import Derived.KernelRfl
namespace Go.Proofs.Ytehpeihnaaiknaa
/- THE CELL 'sum', in the pinned program and in every row, IS THE sha256 OF THE DUMP (.gsa) THAT YtehpeihnaaiknaaProg.lean LOADS. Nothing in Lean hashes anything: it is a label: what it is worth is what the hold of that sum in a sandbox is worth. -/
noncomputable def Try.pinned : Pinned := { name := "ytehpeihnaaiknaa", sum := "067a6c2390ba7f55e8643bf966ca9feec5abb23e640f9ca590369d512f3bdfed", checked := Try.checked }
namespace Rows
def none {H : Type} : Left H := { results := [], args := [] }

/-- 'signallinglaw31.OdometerMeasures': WHATEVER THE INPUT: true; the input reads as it did. -/
def odometerMeasuresSpec : ChangeSpec := { name := "odometerMeasures", fn := fun _ => fun
  | [d1, d2, d3] => { results := [.lit (.bool true)], args := [d1, d2, d3] }
  | _ => none }
def odometerMeasuresRow : OpenClaim := { program := "ytehpeihnaaiknaa", sum := "067a6c2390ba7f55e8643bf966ca9feec5abb23e640f9ca590369d512f3bdfed", func := "signalling/signallinglaw31.OdometerMeasures", spec := "odometerMeasures", unfollowed := true, recurses := true, apart := false }
def OdometerMeasuresSaid : Prop := odometerMeasuresRow.holds Try.pinned (OpenSpec.ofChange odometerMeasuresSpec)

/-- ITS FALSE NEIGHBOUR: 'it returns false'. Refute it at one input. -/
def odometerMeasuresWrong : ChangeSpec := { name := "odometerMeasures", fn := fun _ => fun
  | [d1, d2, d3] => { results := [.lit (.bool false)], args := [d1, d2, d3] }
  | _ => none }
def OdometerMeasuresWrongFalsely : Prop := odometerMeasuresRow.holds Try.pinned (OpenSpec.ofChange odometerMeasuresWrong)

/-- 'signallinglaw31.OdometerNear': WHATEVER THE INPUT: true; the input reads as it did. -/
def odometerNearSpec : ChangeSpec := { name := "odometerNear", fn := fun _ => fun
  | [d1, d2, d3] => { results := [.lit (.bool true)], args := [d1, d2, d3] }
  | _ => none }
def odometerNearRow : OpenClaim := { program := "ytehpeihnaaiknaa", sum := "067a6c2390ba7f55e8643bf966ca9feec5abb23e640f9ca590369d512f3bdfed", func := "signalling/signallinglaw31.OdometerNear", spec := "odometerNear", unfollowed := true, recurses := true, apart := false }
def OdometerNearSaid : Prop := odometerNearRow.holds Try.pinned (OpenSpec.ofChange odometerNearSpec)

/-- ITS FALSE NEIGHBOUR: 'it returns false'. Refute it at one input. -/
def odometerNearWrong : ChangeSpec := { name := "odometerNear", fn := fun _ => fun
  | [d1, d2, d3] => { results := [.lit (.bool false)], args := [d1, d2, d3] }
  | _ => none }
def OdometerNearWrongFalsely : Prop := odometerNearRow.holds Try.pinned (OpenSpec.ofChange odometerNearWrong)

/-- 'signallinglaw31.OdometerAdds': WHATEVER THE INPUT: true; the input reads as it did. -/
def odometerAddsSpec : ChangeSpec := { name := "odometerAdds", fn := fun _ => fun
  | [d1, d2, d3] => { results := [.lit (.bool true)], args := [d1, d2, d3] }
  | _ => none }
def odometerAddsRow : OpenClaim := { program := "ytehpeihnaaiknaa", sum := "067a6c2390ba7f55e8643bf966ca9feec5abb23e640f9ca590369d512f3bdfed", func := "signalling/signallinglaw31.OdometerAdds", spec := "odometerAdds", unfollowed := true, recurses := true, apart := false }
def OdometerAddsSaid : Prop := odometerAddsRow.holds Try.pinned (OpenSpec.ofChange odometerAddsSpec)

/-- ITS FALSE NEIGHBOUR: 'it returns false'. Refute it at one input. -/
def odometerAddsWrong : ChangeSpec := { name := "odometerAdds", fn := fun _ => fun
  | [d1, d2, d3] => { results := [.lit (.bool false)], args := [d1, d2, d3] }
  | _ => none }
def OdometerAddsWrongFalsely : Prop := odometerAddsRow.holds Try.pinned (OpenSpec.ofChange odometerAddsWrong)

/-- 'signallinglaw31.OdometerFixes': WHATEVER THE INPUT: true; the input reads as it did. -/
def odometerFixesSpec : ChangeSpec := { name := "odometerFixes", fn := fun _ => fun
  | [d1, d2, d3] => { results := [.lit (.bool true)], args := [d1, d2, d3] }
  | _ => none }
def odometerFixesRow : OpenClaim := { program := "ytehpeihnaaiknaa", sum := "067a6c2390ba7f55e8643bf966ca9feec5abb23e640f9ca590369d512f3bdfed", func := "signalling/signallinglaw31.OdometerFixes", spec := "odometerFixes", unfollowed := true, recurses := true, apart := false }
def OdometerFixesSaid : Prop := odometerFixesRow.holds Try.pinned (OpenSpec.ofChange odometerFixesSpec)

/-- ITS FALSE NEIGHBOUR: 'it returns false'. Refute it at one input. -/
def odometerFixesWrong : ChangeSpec := { name := "odometerFixes", fn := fun _ => fun
  | [d1, d2, d3] => { results := [.lit (.bool false)], args := [d1, d2, d3] }
  | _ => none }
def OdometerFixesWrongFalsely : Prop := odometerFixesRow.holds Try.pinned (OpenSpec.ofChange odometerFixesWrong)

/-- 'signallinglaw31.OdometerContains': WHATEVER THE INPUT: true; the input reads as it did. -/
def odometerContainsSpec : ChangeSpec := { name := "odometerContains", fn := fun _ => fun
  | [d1, d2] => { results := [.lit (.bool true)], args := [d1, d2] }
  | _ => none }
def odometerContainsRow : OpenClaim := { program := "ytehpeihnaaiknaa", sum := "067a6c2390ba7f55e8643bf966ca9feec5abb23e640f9ca590369d512f3bdfed", func := "signalling/signallinglaw31.OdometerContains", spec := "odometerContains", unfollowed := true, recurses := true, apart := false }
def OdometerContainsSaid : Prop := odometerContainsRow.holds Try.pinned (OpenSpec.ofChange odometerContainsSpec)

/-- ITS FALSE NEIGHBOUR: 'it returns false'. Refute it at one input. -/
def odometerContainsWrong : ChangeSpec := { name := "odometerContains", fn := fun _ => fun
  | [d1, d2] => { results := [.lit (.bool false)], args := [d1, d2] }
  | _ => none }
def OdometerContainsWrongFalsely : Prop := odometerContainsRow.holds Try.pinned (OpenSpec.ofChange odometerContainsWrong)

/- THE SECOND FORM. 'bulk': how many values and letters a reading holds, each counted each time it is reached (what is shared counts as often as it is met; a slice's spare places count too). A statement '..UptoSaid' is the law's where the arguments, and the package variables that the reading takes, are together of bulk at most 1048576: NARROWER than '..Said'. Prove '..Said' where nothing that the law and all that it calls make is longer than what came in: it says more and counts as full. Else prove '..UptoSaid'. A law counts once. -/
mutual
def uptoBulk {H : Type} : DataW H → Nat
  | .lit (.string bytes) => bytes.length + 1
  | .lit _ => 1
  | .nil => 1
  | .ptr d => uptoBulk d + 1
  | .slice elems spare => uptoBulkAll elems + uptoBulkAll spare + 1
  | .agg parts => uptoBulkAll parts + 1
  | .iface _ d => uptoBulk d + 1
  | .map entries => uptoBulkEntries entries + 1
  | .held _ => 1
def uptoBulkAll {H : Type} : List (DataW H) → Nat
  | [] => 0
  | d :: r => uptoBulk d + uptoBulkAll r
def uptoBulkEntries {H : Type} : List (Lit × DataW H) → Nat
  | [] => 0
  | x :: r => uptoBulkEntry x + uptoBulkEntries r
def uptoBulkEntry {H : Type} : Lit × DataW H → Nat
  | (.string bytes, d) => bytes.length + uptoBulk d + 1
  | (_, d) => uptoBulk d + 1
 end
def uptoSmall : (H : Type) → List (DataW H) → Bool := fun _ ds => decide (uptoBulkAll ds ≤ 1048576)
def OpenSpec.upto (s : _root_.Go.ChangeSpec) : _root_.Go.OpenSpec := { _root_.Go.OpenSpec.ofChange s with cond := some uptoSmall }

/-- 'signallinglaw31.OdometerMeasures', WHERE WHAT IT READS IS OF BULK AT MOST 1048576: true; the input reads as it did. -/
def odometerMeasuresUptoRow : OpenClaim := { program := "ytehpeihnaaiknaa", sum := "067a6c2390ba7f55e8643bf966ca9feec5abb23e640f9ca590369d512f3bdfed", func := "signalling/signallinglaw31.OdometerMeasures", spec := "odometerMeasures", unfollowed := true, recurses := true, apart := false, narrowed := true }
def OdometerMeasuresUptoSaid : Prop := odometerMeasuresUptoRow.holds Try.pinned (OpenSpec.upto odometerMeasuresSpec)

/-- 'signallinglaw31.OdometerNear', WHERE WHAT IT READS IS OF BULK AT MOST 1048576: true; the input reads as it did. -/
def odometerNearUptoRow : OpenClaim := { program := "ytehpeihnaaiknaa", sum := "067a6c2390ba7f55e8643bf966ca9feec5abb23e640f9ca590369d512f3bdfed", func := "signalling/signallinglaw31.OdometerNear", spec := "odometerNear", unfollowed := true, recurses := true, apart := false, narrowed := true }
def OdometerNearUptoSaid : Prop := odometerNearUptoRow.holds Try.pinned (OpenSpec.upto odometerNearSpec)

/-- 'signallinglaw31.OdometerAdds', WHERE WHAT IT READS IS OF BULK AT MOST 1048576: true; the input reads as it did. -/
def odometerAddsUptoRow : OpenClaim := { program := "ytehpeihnaaiknaa", sum := "067a6c2390ba7f55e8643bf966ca9feec5abb23e640f9ca590369d512f3bdfed", func := "signalling/signallinglaw31.OdometerAdds", spec := "odometerAdds", unfollowed := true, recurses := true, apart := false, narrowed := true }
def OdometerAddsUptoSaid : Prop := odometerAddsUptoRow.holds Try.pinned (OpenSpec.upto odometerAddsSpec)

/-- 'signallinglaw31.OdometerFixes', WHERE WHAT IT READS IS OF BULK AT MOST 1048576: true; the input reads as it did. -/
def odometerFixesUptoRow : OpenClaim := { program := "ytehpeihnaaiknaa", sum := "067a6c2390ba7f55e8643bf966ca9feec5abb23e640f9ca590369d512f3bdfed", func := "signalling/signallinglaw31.OdometerFixes", spec := "odometerFixes", unfollowed := true, recurses := true, apart := false, narrowed := true }
def OdometerFixesUptoSaid : Prop := odometerFixesUptoRow.holds Try.pinned (OpenSpec.upto odometerFixesSpec)

/-- 'signallinglaw31.OdometerContains', WHERE WHAT IT READS IS OF BULK AT MOST 1048576: true; the input reads as it did. -/
def odometerContainsUptoRow : OpenClaim := { program := "ytehpeihnaaiknaa", sum := "067a6c2390ba7f55e8643bf966ca9feec5abb23e640f9ca590369d512f3bdfed", func := "signalling/signallinglaw31.OdometerContains", spec := "odometerContains", unfollowed := true, recurses := true, apart := false, narrowed := true }
def OdometerContainsUptoSaid : Prop := odometerContainsUptoRow.holds Try.pinned (OpenSpec.upto odometerContainsSpec)

end Rows
end Go.Proofs.Ytehpeihnaaiknaa
