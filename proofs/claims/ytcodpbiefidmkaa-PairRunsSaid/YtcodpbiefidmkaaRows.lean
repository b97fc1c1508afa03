/-
  No cell of these rows narrows 'for every input' (looked for: loops, veiled, ifaces, maps, wideKeys, modest, calm, conditions, laid).
  DERIVED. THE GIVEN ROWS OF THIS SEAT. 5 by the template 'for every input the law returns true; each argument reads behind the call as it read before'; 0 by the template 'total and deterministic' (their statements: YtcodpbiefidmkaaTotals.lean).
  GIVEN WITH THE SEED: the statements are not yours to turn. If you find one false, say at which input.
  Laid BY PROGRAM, IN A SANDBOX (cutbox-rows.mjs): the forced cells as the released guide's own fill.sh prints them over the translation fb6734d9af662c81… (all of the seat's roots in one cut). By AI agents, Wed Nov 11 2026. No macro, syntax, notation, axiom, sorry.
-/
import Derived.Test.YtcodpbiefidmkaaChecked
import GoSem.Claim
import GoSem.ClaimJoined
import GoSem.ClaimMapViews
import Derived.JoinedTies
import Derived.KernelRfl
namespace Go.Proofs.Ytcodpbiefidmkaa
/- THE CELL 'sum', in the pinned program and in every row, IS THE sha256 OF THE DUMP (.gsa) THAT YtcodpbiefidmkaaProg.lean LOADS. Nothing in Lean hashes anything: it is a label: what it is worth is what the hold of that sum in a sandbox is worth. -/
noncomputable def Try.pinned : Pinned := { name := "ytcodpbiefidmkaa", sum := "fb6734d9af662c816f41c158df4647d5621e14e9f2341104fa1cd289761070d8", checked := Try.checked }
namespace Rows
def none {H : Type} : Left H := { results := [], args := [] }

/-- 'signallinglaw41.PairAsks': WHATEVER THE INPUT: true; the input reads as it did. -/
def pairAsksSpec : ChangeSpec := { name := "pairAsks", fn := fun _ => fun
  | [d1, d2] => { results := [.lit (.bool true)], args := [d1, d2] }
  | _ => none }
def pairAsksRow : OpenClaim := { program := "ytcodpbiefidmkaa", sum := "fb6734d9af662c816f41c158df4647d5621e14e9f2341104fa1cd289761070d8", func := "signalling/signallinglaw41.PairAsks", spec := "pairAsks", unfollowed := true, recurses := true, apart := false }
def PairAsksSaid : Prop := pairAsksRow.holds Try.pinned (OpenSpec.ofChange pairAsksSpec)

/-- ITS FALSE NEIGHBOUR: 'it returns false'. Refute it at one input. -/
def pairAsksWrong : ChangeSpec := { name := "pairAsks", fn := fun _ => fun
  | [d1, d2] => { results := [.lit (.bool false)], args := [d1, d2] }
  | _ => none }
def PairAsksWrongFalsely : Prop := pairAsksRow.holds Try.pinned (OpenSpec.ofChange pairAsksWrong)

/-- 'signallinglaw41.PairConfirms': WHATEVER THE INPUT: true; the input reads as it did. -/
def pairConfirmsSpec : ChangeSpec := { name := "pairConfirms", fn := fun _ => fun
  | [d1, d2, d3, d4, d5] => { results := [.lit (.bool true)], args := [d1, d2, d3, d4, d5] }
  | _ => none }
def pairConfirmsRow : OpenClaim := { program := "ytcodpbiefidmkaa", sum := "fb6734d9af662c816f41c158df4647d5621e14e9f2341104fa1cd289761070d8", func := "signalling/signallinglaw41.PairConfirms", spec := "pairConfirms", unfollowed := true, recurses := true, apart := false }
def PairConfirmsSaid : Prop := pairConfirmsRow.holds Try.pinned (OpenSpec.ofChange pairConfirmsSpec)

/-- ITS FALSE NEIGHBOUR: 'it returns false'. Refute it at one input. -/
def pairConfirmsWrong : ChangeSpec := { name := "pairConfirms", fn := fun _ => fun
  | [d1, d2, d3, d4, d5] => { results := [.lit (.bool false)], args := [d1, d2, d3, d4, d5] }
  | _ => none }
def PairConfirmsWrongFalsely : Prop := pairConfirmsRow.holds Try.pinned (OpenSpec.ofChange pairConfirmsWrong)

/-- 'signallinglaw41.PairExpires': WHATEVER THE INPUT: true; the input reads as it did. -/
def pairExpiresSpec : ChangeSpec := { name := "pairExpires", fn := fun _ => fun
  | [d1, d2] => { results := [.lit (.bool true)], args := [d1, d2] }
  | _ => none }
def pairExpiresRow : OpenClaim := { program := "ytcodpbiefidmkaa", sum := "fb6734d9af662c816f41c158df4647d5621e14e9f2341104fa1cd289761070d8", func := "signalling/signallinglaw41.PairExpires", spec := "pairExpires", unfollowed := true, recurses := true, apart := false }
def PairExpiresSaid : Prop := pairExpiresRow.holds Try.pinned (OpenSpec.ofChange pairExpiresSpec)

/-- ITS FALSE NEIGHBOUR: 'it returns false'. Refute it at one input. -/
def pairExpiresWrong : ChangeSpec := { name := "pairExpires", fn := fun _ => fun
  | [d1, d2] => { results := [.lit (.bool false)], args := [d1, d2] }
  | _ => none }
def PairExpiresWrongFalsely : Prop := pairExpiresRow.holds Try.pinned (OpenSpec.ofChange pairExpiresWrong)

/-- 'signallinglaw41.PairTwo': WHATEVER THE INPUT: true; the input reads as it did. -/
def pairTwoSpec : ChangeSpec := { name := "pairTwo", fn := fun _ => fun
  | [d1, d2, d3, d4, d5] => { results := [.lit (.bool true)], args := [d1, d2, d3, d4, d5] }
  | _ => none }
def pairTwoRow : OpenClaim := { program := "ytcodpbiefidmkaa", sum := "fb6734d9af662c816f41c158df4647d5621e14e9f2341104fa1cd289761070d8", func := "signalling/signallinglaw41.PairTwo", spec := "pairTwo", unfollowed := true, recurses := true, apart := false }
def PairTwoSaid : Prop := pairTwoRow.holds Try.pinned (OpenSpec.ofChange pairTwoSpec)

/-- ITS FALSE NEIGHBOUR: 'it returns false'. Refute it at one input. -/
def pairTwoWrong : ChangeSpec := { name := "pairTwo", fn := fun _ => fun
  | [d1, d2, d3, d4, d5] => { results := [.lit (.bool false)], args := [d1, d2, d3, d4, d5] }
  | _ => none }
def PairTwoWrongFalsely : Prop := pairTwoRow.holds Try.pinned (OpenSpec.ofChange pairTwoWrong)

/-- 'signallinglaw41.PairRuns': WHATEVER THE INPUT: true; the input reads as it did. -/
def pairRunsSpec : ChangeSpec := { name := "pairRuns", fn := fun _ => fun
  | [d] => { results := [.lit (.bool true)], args := [d] }
  | _ => none }
def pairRunsRow : OpenClaim := { program := "ytcodpbiefidmkaa", sum := "fb6734d9af662c816f41c158df4647d5621e14e9f2341104fa1cd289761070d8", func := "signalling/signallinglaw41.PairRuns", spec := "pairRuns", unfollowed := true, recurses := true, apart := false }
def PairRunsSaid : Prop := pairRunsRow.holds Try.pinned (OpenSpec.ofChange pairRunsSpec)

/-- ITS FALSE NEIGHBOUR: 'it returns false'. Refute it at one input. -/
def pairRunsWrong : ChangeSpec := { name := "pairRuns", fn := fun _ => fun
  | [d] => { results := [.lit (.bool false)], args := [d] }
  | _ => none }
def PairRunsWrongFalsely : Prop := pairRunsRow.holds Try.pinned (OpenSpec.ofChange pairRunsWrong)

/- THE SECOND FORM. 'bulk': how many values and letters a reading holds, each counted each time it is reached (what is shared counts as often as it is met; a slice's spare places count too). A statement '..UptoSaid' is the law's where the arguments, and the package variables that the reading takes, are together of bulk at most 1048576: NARROWER than '..Said'. Prove '..Said' where nothing that the law and all that it calls make is longer than what came in: it says more and counts as full. Else prove '..UptoSaid'. A law counts once. -/
mutual
def uptoBulk {H : Type} : DataW H → Nat
  | .lit (.string bytes) => bytes.length + 1
  | .lit _ => 1
  | .nil => 1
  | .ptr d => uptoBulk d + 1
  | .slice elems spare => uptoBulkAll elems + uptoBulkAll spare + 1
  | .agg parts => uptoBulkAll parts + 1
  | .iface _ d => uptoBulk d + 1
  | .map entries => uptoBulkEntries entries + 1
  | .held _ => 1
def uptoBulkAll {H : Type} : List (DataW H) → Nat
  | [] => 0
  | d :: r => uptoBulk d + uptoBulkAll r
def uptoBulkEntries {H : Type} : List (Lit × DataW H) → Nat
  | [] => 0
  | x :: r => uptoBulkEntry x + uptoBulkEntries r
def uptoBulkEntry {H : Type} : Lit × DataW H → Nat
  | (.string bytes, d) => bytes.length + uptoBulk d + 1
  | (_, d) => uptoBulk d + 1
 end
def uptoSmall : (H : Type) → List (DataW H) → Bool := fun _ ds => decide (uptoBulkAll ds ≤ 1048576)
def OpenSpec.upto (s : _root_.Go.ChangeSpec) : _root_.Go.OpenSpec := { _root_.Go.OpenSpec.ofChange s with cond := some uptoSmall }

/-- 'signallinglaw41.PairAsks', WHERE WHAT IT READS IS OF BULK AT MOST 1048576: true; the input reads as it did. -/
def pairAsksUptoRow : OpenClaim := { program := "ytcodpbiefidmkaa", sum := "fb6734d9af662c816f41c158df4647d5621e14e9f2341104fa1cd289761070d8", func := "signalling/signallinglaw41.PairAsks", spec := "pairAsks", unfollowed := true, recurses := true, apart := false, narrowed := true }
def PairAsksUptoSaid : Prop := pairAsksUptoRow.holds Try.pinned (OpenSpec.upto pairAsksSpec)

/-- 'signallinglaw41.PairConfirms', WHERE WHAT IT READS IS OF BULK AT MOST 1048576: true; the input reads as it did. -/
def pairConfirmsUptoRow : OpenClaim := { program := "ytcodpbiefidmkaa", sum := "fb6734d9af662c816f41c158df4647d5621e14e9f2341104fa1cd289761070d8", func := "signalling/signallinglaw41.PairConfirms", spec := "pairConfirms", unfollowed := true, recurses := true, apart := false, narrowed := true }
def PairConfirmsUptoSaid : Prop := pairConfirmsUptoRow.holds Try.pinned (OpenSpec.upto pairConfirmsSpec)

/-- 'signallinglaw41.PairExpires', WHERE WHAT IT READS IS OF BULK AT MOST 1048576: true; the input reads as it did. -/
def pairExpiresUptoRow : OpenClaim := { program := "ytcodpbiefidmkaa", sum := "fb6734d9af662c816f41c158df4647d5621e14e9f2341104fa1cd289761070d8", func := "signalling/signallinglaw41.PairExpires", spec := "pairExpires", unfollowed := true, recurses := true, apart := false, narrowed := true }
def PairExpiresUptoSaid : Prop := pairExpiresUptoRow.holds Try.pinned (OpenSpec.upto pairExpiresSpec)

/-- 'signallinglaw41.PairTwo', WHERE WHAT IT READS IS OF BULK AT MOST 1048576: true; the input reads as it did. -/
def pairTwoUptoRow : OpenClaim := { program := "ytcodpbiefidmkaa", sum := "fb6734d9af662c816f41c158df4647d5621e14e9f2341104fa1cd289761070d8", func := "signalling/signallinglaw41.PairTwo", spec := "pairTwo", unfollowed := true, recurses := true, apart := false, narrowed := true }
def PairTwoUptoSaid : Prop := pairTwoUptoRow.holds Try.pinned (OpenSpec.upto pairTwoSpec)

/-- 'signallinglaw41.PairRuns', WHERE WHAT IT READS IS OF BULK AT MOST 1048576: true; the input reads as it did. -/
def pairRunsUptoRow : OpenClaim := { program := "ytcodpbiefidmkaa", sum := "fb6734d9af662c816f41c158df4647d5621e14e9f2341104fa1cd289761070d8", func := "signalling/signallinglaw41.PairRuns", spec := "pairRuns", unfollowed := true, recurses := true, apart := false, narrowed := true }
def PairRunsUptoSaid : Prop := pairRunsUptoRow.holds Try.pinned (OpenSpec.upto pairRunsSpec)

end Rows
end Go.Proofs.Ytcodpbiefidmkaa
