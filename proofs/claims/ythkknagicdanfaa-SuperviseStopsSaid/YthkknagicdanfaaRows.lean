/-
  No cell of these rows narrows 'for every input' (looked for: loops, veiled, ifaces, maps, wideKeys, modest, calm, conditions, laid).
  DERIVED. THE GIVEN ROWS OF THIS SEAT. 5 by the template 'for every input the law returns true; each argument reads behind the call as it read before'; 0 by the template 'total and deterministic' (their statements: YthkknagicdanfaaTotals.lean).
  GIVEN WITH THE SEED: the statements are not yours to turn. If you find one false, say at which input.
  Laid BY PROGRAM, IN A SANDBOX (cutbox-rows.mjs): the forced cells as the released guide's own fill.sh prints them over the translation 1eddbb1279608301… (all of the seat's roots in one cut). By AI agents, Wed Nov 11 2026. No macro, syntax, notation, axiom, sorry.
-/
import Derived.Test.YthkknagicdanfaaChecked
import GoSem.Claim
import GoSem.ClaimJoined
import GoSem.ClaimMapViews
import Derived.JoinedTies
import Derived.KernelRfl
namespace Go.Proofs.Ythkknagicdanfaa
/- THE CELL 'sum', in the pinned program and in every row, IS THE sha256 OF THE DUMP (.gsa) THAT YthkknagicdanfaaProg.lean LOADS. Nothing in Lean hashes anything: it is a label: what it is worth is what the hold of that sum in a sandbox is worth. -/
noncomputable def Try.pinned : Pinned := { name := "ythkknagicdanfaa", sum := "1eddbb1279608301f2df1d4f0e37e16184e142dd1cbad7a0181feee89a828d60", checked := Try.checked }
namespace Rows
def none {H : Type} : Left H := { results := [], args := [] }

/-- 'signallinglaw34.SuperviseJudges': WHATEVER THE INPUT: true; the input reads as it did. -/
def superviseJudgesSpec : ChangeSpec := { name := "superviseJudges", fn := fun _ => fun
  | [d1, d2, d3] => { results := [.lit (.bool true)], args := [d1, d2, d3] }
  | _ => none }
def superviseJudgesRow : OpenClaim := { program := "ythkknagicdanfaa", sum := "1eddbb1279608301f2df1d4f0e37e16184e142dd1cbad7a0181feee89a828d60", func := "signalling/signallinglaw34.SuperviseJudges", spec := "superviseJudges", unfollowed := true, recurses := true, apart := false }
def SuperviseJudgesSaid : Prop := superviseJudgesRow.holds Try.pinned (OpenSpec.ofChange superviseJudgesSpec)

/-- ITS FALSE NEIGHBOUR: 'it returns false'. Refute it at one input. -/
def superviseJudgesWrong : ChangeSpec := { name := "superviseJudges", fn := fun _ => fun
  | [d1, d2, d3] => { results := [.lit (.bool false)], args := [d1, d2, d3] }
  | _ => none }
def SuperviseJudgesWrongFalsely : Prop := superviseJudgesRow.holds Try.pinned (OpenSpec.ofChange superviseJudgesWrong)

/-- 'signallinglaw34.SuperviseDecides': WHATEVER THE INPUT: true; the input reads as it did. -/
def superviseDecidesSpec : ChangeSpec := { name := "superviseDecides", fn := fun _ => fun
  | [d1, d2, d3] => { results := [.lit (.bool true)], args := [d1, d2, d3] }
  | _ => none }
def superviseDecidesRow : OpenClaim := { program := "ythkknagicdanfaa", sum := "1eddbb1279608301f2df1d4f0e37e16184e142dd1cbad7a0181feee89a828d60", func := "signalling/signallinglaw34.SuperviseDecides", spec := "superviseDecides", unfollowed := true, recurses := true, apart := false }
def SuperviseDecidesSaid : Prop := superviseDecidesRow.holds Try.pinned (OpenSpec.ofChange superviseDecidesSpec)

/-- ITS FALSE NEIGHBOUR: 'it returns false'. Refute it at one input. -/
def superviseDecidesWrong : ChangeSpec := { name := "superviseDecides", fn := fun _ => fun
  | [d1, d2, d3] => { results := [.lit (.bool false)], args := [d1, d2, d3] }
  | _ => none }
def SuperviseDecidesWrongFalsely : Prop := superviseDecidesRow.holds Try.pinned (OpenSpec.ofChange superviseDecidesWrong)

/-- 'signallinglaw34.SuperviseEases': WHATEVER THE INPUT: true; the input reads as it did. -/
def superviseEasesSpec : ChangeSpec := { name := "superviseEases", fn := fun _ => fun
  | [d1, d2, d3] => { results := [.lit (.bool true)], args := [d1, d2, d3] }
  | _ => none }
def superviseEasesRow : OpenClaim := { program := "ythkknagicdanfaa", sum := "1eddbb1279608301f2df1d4f0e37e16184e142dd1cbad7a0181feee89a828d60", func := "signalling/signallinglaw34.SuperviseEases", spec := "superviseEases", unfollowed := true, recurses := true, apart := false }
def SuperviseEasesSaid : Prop := superviseEasesRow.holds Try.pinned (OpenSpec.ofChange superviseEasesSpec)

/-- ITS FALSE NEIGHBOUR: 'it returns false'. Refute it at one input. -/
def superviseEasesWrong : ChangeSpec := { name := "superviseEases", fn := fun _ => fun
  | [d1, d2, d3] => { results := [.lit (.bool false)], args := [d1, d2, d3] }
  | _ => none }
def SuperviseEasesWrongFalsely : Prop := superviseEasesRow.holds Try.pinned (OpenSpec.ofChange superviseEasesWrong)

/-- 'signallinglaw34.SuperviseNearer': WHATEVER THE INPUT: true; the input reads as it did. -/
def superviseNearerSpec : ChangeSpec := { name := "superviseNearer", fn := fun _ => fun
  | [d1, d2, d3] => { results := [.lit (.bool true)], args := [d1, d2, d3] }
  | _ => none }
def superviseNearerRow : OpenClaim := { program := "ythkknagicdanfaa", sum := "1eddbb1279608301f2df1d4f0e37e16184e142dd1cbad7a0181feee89a828d60", func := "signalling/signallinglaw34.SuperviseNearer", spec := "superviseNearer", unfollowed := true, recurses := true, apart := false }
def SuperviseNearerSaid : Prop := superviseNearerRow.holds Try.pinned (OpenSpec.ofChange superviseNearerSpec)

/-- ITS FALSE NEIGHBOUR: 'it returns false'. Refute it at one input. -/
def superviseNearerWrong : ChangeSpec := { name := "superviseNearer", fn := fun _ => fun
  | [d1, d2, d3] => { results := [.lit (.bool false)], args := [d1, d2, d3] }
  | _ => none }
def SuperviseNearerWrongFalsely : Prop := superviseNearerRow.holds Try.pinned (OpenSpec.ofChange superviseNearerWrong)

/-- 'signallinglaw34.SuperviseStops': WHATEVER THE INPUT: true; the input reads as it did. -/
def superviseStopsSpec : ChangeSpec := { name := "superviseStops", fn := fun _ => fun
  | [d1, d2, d3] => { results := [.lit (.bool true)], args := [d1, d2, d3] }
  | _ => none }
def superviseStopsRow : OpenClaim := { program := "ythkknagicdanfaa", sum := "1eddbb1279608301f2df1d4f0e37e16184e142dd1cbad7a0181feee89a828d60", func := "signalling/signallinglaw34.SuperviseStops", spec := "superviseStops", unfollowed := true, recurses := true, apart := false }
def SuperviseStopsSaid : Prop := superviseStopsRow.holds Try.pinned (OpenSpec.ofChange superviseStopsSpec)

/-- ITS FALSE NEIGHBOUR: 'it returns false'. Refute it at one input. -/
def superviseStopsWrong : ChangeSpec := { name := "superviseStops", fn := fun _ => fun
  | [d1, d2, d3] => { results := [.lit (.bool false)], args := [d1, d2, d3] }
  | _ => none }
def SuperviseStopsWrongFalsely : Prop := superviseStopsRow.holds Try.pinned (OpenSpec.ofChange superviseStopsWrong)

/- THE SECOND FORM. 'bulk': how many values and letters a reading holds, each counted each time it is reached (what is shared counts as often as it is met; a slice's spare places count too). A statement '..UptoSaid' is the law's where the arguments, and the package variables that the reading takes, are together of bulk at most 1048576: NARROWER than '..Said'. Prove '..Said' where nothing that the law and all that it calls make is longer than what came in: it says more and counts as full. Else prove '..UptoSaid'. A law counts once. -/
mutual
def uptoBulk {H : Type} : DataW H → Nat
  | .lit (.string bytes) => bytes.length + 1
  | .lit _ => 1
  | .nil => 1
  | .ptr d => uptoBulk d + 1
  | .slice elems spare => uptoBulkAll elems + uptoBulkAll spare + 1
  | .agg parts => uptoBulkAll parts + 1
  | .iface _ d => uptoBulk d + 1
  | .map entries => uptoBulkEntries entries + 1
  | .held _ => 1
def uptoBulkAll {H : Type} : List (DataW H) → Nat
  | [] => 0
  | d :: r => uptoBulk d + uptoBulkAll r
def uptoBulkEntries {H : Type} : List (Lit × DataW H) → Nat
  | [] => 0
  | x :: r => uptoBulkEntry x + uptoBulkEntries r
def uptoBulkEntry {H : Type} : Lit × DataW H → Nat
  | (.string bytes, d) => bytes.length + uptoBulk d + 1
  | (_, d) => uptoBulk d + 1
 end
def uptoSmall : (H : Type) → List (DataW H) → Bool := fun _ ds => decide (uptoBulkAll ds ≤ 1048576)
def OpenSpec.upto (s : _root_.Go.ChangeSpec) : _root_.Go.OpenSpec := { _root_.Go.OpenSpec.ofChange s with cond := some uptoSmall }

/-- 'signallinglaw34.SuperviseJudges', WHERE WHAT IT READS IS OF BULK AT MOST 1048576: true; the input reads as it did. -/
def superviseJudgesUptoRow : OpenClaim := { program := "ythkknagicdanfaa", sum := "1eddbb1279608301f2df1d4f0e37e16184e142dd1cbad7a0181feee89a828d60", func := "signalling/signallinglaw34.SuperviseJudges", spec := "superviseJudges", unfollowed := true, recurses := true, apart := false, narrowed := true }
def SuperviseJudgesUptoSaid : Prop := superviseJudgesUptoRow.holds Try.pinned (OpenSpec.upto superviseJudgesSpec)

/-- 'signallinglaw34.SuperviseDecides', WHERE WHAT IT READS IS OF BULK AT MOST 1048576: true; the input reads as it did. -/
def superviseDecidesUptoRow : OpenClaim := { program := "ythkknagicdanfaa", sum := "1eddbb1279608301f2df1d4f0e37e16184e142dd1cbad7a0181feee89a828d60", func := "signalling/signallinglaw34.SuperviseDecides", spec := "superviseDecides", unfollowed := true, recurses := true, apart := false, narrowed := true }
def SuperviseDecidesUptoSaid : Prop := superviseDecidesUptoRow.holds Try.pinned (OpenSpec.upto superviseDecidesSpec)

/-- 'signallinglaw34.SuperviseEases', WHERE WHAT IT READS IS OF BULK AT MOST 1048576: true; the input reads as it did. -/
def superviseEasesUptoRow : OpenClaim := { program := "ythkknagicdanfaa", sum := "1eddbb1279608301f2df1d4f0e37e16184e142dd1cbad7a0181feee89a828d60", func := "signalling/signallinglaw34.SuperviseEases", spec := "superviseEases", unfollowed := true, recurses := true, apart := false, narrowed := true }
def SuperviseEasesUptoSaid : Prop := superviseEasesUptoRow.holds Try.pinned (OpenSpec.upto superviseEasesSpec)

/-- 'signallinglaw34.SuperviseNearer', WHERE WHAT IT READS IS OF BULK AT MOST 1048576: true; the input reads as it did. -/
def superviseNearerUptoRow : OpenClaim := { program := "ythkknagicdanfaa", sum := "1eddbb1279608301f2df1d4f0e37e16184e142dd1cbad7a0181feee89a828d60", func := "signalling/signallinglaw34.SuperviseNearer", spec := "superviseNearer", unfollowed := true, recurses := true, apart := false, narrowed := true }
def SuperviseNearerUptoSaid : Prop := superviseNearerUptoRow.holds Try.pinned (OpenSpec.upto superviseNearerSpec)

/-- 'signallinglaw34.SuperviseStops', WHERE WHAT IT READS IS OF BULK AT MOST 1048576: true; the input reads as it did. -/
def superviseStopsUptoRow : OpenClaim := { program := "ythkknagicdanfaa", sum := "1eddbb1279608301f2df1d4f0e37e16184e142dd1cbad7a0181feee89a828d60", func := "signalling/signallinglaw34.SuperviseStops", spec := "superviseStops", unfollowed := true, recurses := true, apart := false, narrowed := true }
def SuperviseStopsUptoSaid : Prop := superviseStopsUptoRow.holds Try.pinned (OpenSpec.upto superviseStopsSpec)

end Rows
end Go.Proofs.Ythkknagicdanfaa
