/-
  No cell of these rows narrows 'for every input' (looked for: loops, veiled, ifaces, maps, wideKeys, modest, calm, conditions, laid).
  DERIVED. THE GIVEN ROWS OF THIS SEAT. 5 by the template 'for every input the law returns true; each argument reads behind the call as it read before'; 0 by the template 'total and deterministic' (their statements: YtoodehilgogomaaTotals.lean).
  GIVEN WITH THE SEED: the statements are not yours to turn. If you find one false, say at which input.
  Laid BY PROGRAM, IN A SANDBOX (cutbox-rows.mjs): the forced cells as the released guide's own fill.sh prints them over the translation 36dfbebe4c12e513… (all of the seat's roots in one cut). By AI agents, Wed Nov 11 2026. No macro, syntax, notation, axiom, sorry.
-/
import Derived.Test.YtoodehilgogomaaChecked
import GoSem.Claim
import GoSem.ClaimJoined
import GoSem.ClaimMapViews
import Derived.JoinedTies
import Derived.KernelRfl
namespace Go.Proofs.Ytoodehilgogomaa
/- THE CELL 'sum', in the pinned program and in every row, IS THE sha256 OF THE DUMP (.gsa) THAT YtoodehilgogomaaProg.lean LOADS. Nothing in Lean hashes anything: it is a label: what it is worth is what the hold of that sum in a sandbox is worth. -/
noncomputable def Try.pinned : Pinned := { name := "ytoodehilgogomaa", sum := "36dfbebe4c12e5134623973f81100226c4faf10b11124c249311a0461ccd409b", checked := Try.checked }
namespace Rows
def none {H : Type} : Left H := { results := [], args := [] }

/-- 'signallinglaw10.ProfileReads': WHATEVER THE INPUT: true; the input reads as it did. -/
def profileReadsSpec : ChangeSpec := { name := "profileReads", fn := fun _ => fun
  | [d1, d2, d3] => { results := [.lit (.bool true)], args := [d1, d2, d3] }
  | _ => none }
def profileReadsRow : OpenClaim := { program := "ytoodehilgogomaa", sum := "36dfbebe4c12e5134623973f81100226c4faf10b11124c249311a0461ccd409b", func := "signalling/signallinglaw10.ProfileReads", spec := "profileReads", unfollowed := true, recurses := true, apart := false }
def ProfileReadsSaid : Prop := profileReadsRow.holds Try.pinned (OpenSpec.ofChange profileReadsSpec)

/-- ITS FALSE NEIGHBOUR: 'it returns false'. Refute it at one input. -/
def profileReadsWrong : ChangeSpec := { name := "profileReads", fn := fun _ => fun
  | [d1, d2, d3] => { results := [.lit (.bool false)], args := [d1, d2, d3] }
  | _ => none }
def ProfileReadsWrongFalsely : Prop := profileReadsRow.holds Try.pinned (OpenSpec.ofChange profileReadsWrong)

/-- 'signallinglaw10.ProfileLimits': WHATEVER THE INPUT: true; the input reads as it did. -/
def profileLimitsSpec : ChangeSpec := { name := "profileLimits", fn := fun _ => fun
  | [d1, d2] => { results := [.lit (.bool true)], args := [d1, d2] }
  | _ => none }
def profileLimitsRow : OpenClaim := { program := "ytoodehilgogomaa", sum := "36dfbebe4c12e5134623973f81100226c4faf10b11124c249311a0461ccd409b", func := "signalling/signallinglaw10.ProfileLimits", spec := "profileLimits", unfollowed := true, recurses := true, apart := false }
def ProfileLimitsSaid : Prop := profileLimitsRow.holds Try.pinned (OpenSpec.ofChange profileLimitsSpec)

/-- ITS FALSE NEIGHBOUR: 'it returns false'. Refute it at one input. -/
def profileLimitsWrong : ChangeSpec := { name := "profileLimits", fn := fun _ => fun
  | [d1, d2] => { results := [.lit (.bool false)], args := [d1, d2] }
  | _ => none }
def ProfileLimitsWrongFalsely : Prop := profileLimitsRow.holds Try.pinned (OpenSpec.ofChange profileLimitsWrong)

/-- 'signallinglaw10.ProfileLowers': WHATEVER THE INPUT: true; the input reads as it did. -/
def profileLowersSpec : ChangeSpec := { name := "profileLowers", fn := fun _ => fun
  | [d1, d2] => { results := [.lit (.bool true)], args := [d1, d2] }
  | _ => none }
def profileLowersRow : OpenClaim := { program := "ytoodehilgogomaa", sum := "36dfbebe4c12e5134623973f81100226c4faf10b11124c249311a0461ccd409b", func := "signalling/signallinglaw10.ProfileLowers", spec := "profileLowers", unfollowed := true, recurses := true, apart := false }
def ProfileLowersSaid : Prop := profileLowersRow.holds Try.pinned (OpenSpec.ofChange profileLowersSpec)

/-- ITS FALSE NEIGHBOUR: 'it returns false'. Refute it at one input. -/
def profileLowersWrong : ChangeSpec := { name := "profileLowers", fn := fun _ => fun
  | [d1, d2] => { results := [.lit (.bool false)], args := [d1, d2] }
  | _ => none }
def ProfileLowersWrongFalsely : Prop := profileLowersRow.holds Try.pinned (OpenSpec.ofChange profileLowersWrong)

/-- 'signallinglaw10.ProfileJoinsTwo': WHATEVER THE INPUT: true; the input reads as it did. -/
def profileJoinsTwoSpec : ChangeSpec := { name := "profileJoinsTwo", fn := fun _ => fun
  | [d1, d2] => { results := [.lit (.bool true)], args := [d1, d2] }
  | _ => none }
def profileJoinsTwoRow : OpenClaim := { program := "ytoodehilgogomaa", sum := "36dfbebe4c12e5134623973f81100226c4faf10b11124c249311a0461ccd409b", func := "signalling/signallinglaw10.ProfileJoinsTwo", spec := "profileJoinsTwo", unfollowed := true, recurses := true, apart := false }
def ProfileJoinsTwoSaid : Prop := profileJoinsTwoRow.holds Try.pinned (OpenSpec.ofChange profileJoinsTwoSpec)

/-- ITS FALSE NEIGHBOUR: 'it returns false'. Refute it at one input. -/
def profileJoinsTwoWrong : ChangeSpec := { name := "profileJoinsTwo", fn := fun _ => fun
  | [d1, d2] => { results := [.lit (.bool false)], args := [d1, d2] }
  | _ => none }
def ProfileJoinsTwoWrongFalsely : Prop := profileJoinsTwoRow.holds Try.pinned (OpenSpec.ofChange profileJoinsTwoWrong)

/-- 'signallinglaw10.ProfileCuts': WHATEVER THE INPUT: true; the input reads as it did. -/
def profileCutsSpec : ChangeSpec := { name := "profileCuts", fn := fun _ => fun
  | [d1, d2] => { results := [.lit (.bool true)], args := [d1, d2] }
  | _ => none }
def profileCutsRow : OpenClaim := { program := "ytoodehilgogomaa", sum := "36dfbebe4c12e5134623973f81100226c4faf10b11124c249311a0461ccd409b", func := "signalling/signallinglaw10.ProfileCuts", spec := "profileCuts", unfollowed := true, recurses := true, apart := false }
def ProfileCutsSaid : Prop := profileCutsRow.holds Try.pinned (OpenSpec.ofChange profileCutsSpec)

/-- ITS FALSE NEIGHBOUR: 'it returns false'. Refute it at one input. -/
def profileCutsWrong : ChangeSpec := { name := "profileCuts", fn := fun _ => fun
  | [d1, d2] => { results := [.lit (.bool false)], args := [d1, d2] }
  | _ => none }
def ProfileCutsWrongFalsely : Prop := profileCutsRow.holds Try.pinned (OpenSpec.ofChange profileCutsWrong)

/- THE SECOND FORM. 'bulk': how many values and letters a reading holds, each counted each time it is reached (what is shared counts as often as it is met; a slice's spare places count too). A statement '..UptoSaid' is the law's where the arguments, and the package variables that the reading takes, are together of bulk at most 1048576: NARROWER than '..Said'. Prove '..Said' where nothing that the law and all that it calls make is longer than what came in: it says more and counts as full. Else prove '..UptoSaid'. A law counts once. -/
mutual
def uptoBulk {H : Type} : DataW H → Nat
  | .lit (.string bytes) => bytes.length + 1
  | .lit _ => 1
  | .nil => 1
  | .ptr d => uptoBulk d + 1
  | .slice elems spare => uptoBulkAll elems + uptoBulkAll spare + 1
  | .agg parts => uptoBulkAll parts + 1
  | .iface _ d => uptoBulk d + 1
  | .map entries => uptoBulkEntries entries + 1
  | .held _ => 1
def uptoBulkAll {H : Type} : List (DataW H) → Nat
  | [] => 0
  | d :: r => uptoBulk d + uptoBulkAll r
def uptoBulkEntries {H : Type} : List (Lit × DataW H) → Nat
  | [] => 0
  | x :: r => uptoBulkEntry x + uptoBulkEntries r
def uptoBulkEntry {H : Type} : Lit × DataW H → Nat
  | (.string bytes, d) => bytes.length + uptoBulk d + 1
  | (_, d) => uptoBulk d + 1
 end
def uptoSmall : (H : Type) → List (DataW H) → Bool := fun _ ds => decide (uptoBulkAll ds ≤ 1048576)
def OpenSpec.upto (s : _root_.Go.ChangeSpec) : _root_.Go.OpenSpec := { _root_.Go.OpenSpec.ofChange s with cond := some uptoSmall }

/-- 'signallinglaw10.ProfileReads', WHERE WHAT IT READS IS OF BULK AT MOST 1048576: true; the input reads as it did. -/
def profileReadsUptoRow : OpenClaim := { program := "ytoodehilgogomaa", sum := "36dfbebe4c12e5134623973f81100226c4faf10b11124c249311a0461ccd409b", func := "signalling/signallinglaw10.ProfileReads", spec := "profileReads", unfollowed := true, recurses := true, apart := false, narrowed := true }
def ProfileReadsUptoSaid : Prop := profileReadsUptoRow.holds Try.pinned (OpenSpec.upto profileReadsSpec)

/-- 'signallinglaw10.ProfileLimits', WHERE WHAT IT READS IS OF BULK AT MOST 1048576: true; the input reads as it did. -/
def profileLimitsUptoRow : OpenClaim := { program := "ytoodehilgogomaa", sum := "36dfbebe4c12e5134623973f81100226c4faf10b11124c249311a0461ccd409b", func := "signalling/signallinglaw10.ProfileLimits", spec := "profileLimits", unfollowed := true, recurses := true, apart := false, narrowed := true }
def ProfileLimitsUptoSaid : Prop := profileLimitsUptoRow.holds Try.pinned (OpenSpec.upto profileLimitsSpec)

/-- 'signallinglaw10.ProfileLowers', WHERE WHAT IT READS IS OF BULK AT MOST 1048576: true; the input reads as it did. -/
def profileLowersUptoRow : OpenClaim := { program := "ytoodehilgogomaa", sum := "36dfbebe4c12e5134623973f81100226c4faf10b11124c249311a0461ccd409b", func := "signalling/signallinglaw10.ProfileLowers", spec := "profileLowers", unfollowed := true, recurses := true, apart := false, narrowed := true }
def ProfileLowersUptoSaid : Prop := profileLowersUptoRow.holds Try.pinned (OpenSpec.upto profileLowersSpec)

/-- 'signallinglaw10.ProfileJoinsTwo', WHERE WHAT IT READS IS OF BULK AT MOST 1048576: true; the input reads as it did. -/
def profileJoinsTwoUptoRow : OpenClaim := { program := "ytoodehilgogomaa", sum := "36dfbebe4c12e5134623973f81100226c4faf10b11124c249311a0461ccd409b", func := "signalling/signallinglaw10.ProfileJoinsTwo", spec := "profileJoinsTwo", unfollowed := true, recurses := true, apart := false, narrowed := true }
def ProfileJoinsTwoUptoSaid : Prop := profileJoinsTwoUptoRow.holds Try.pinned (OpenSpec.upto profileJoinsTwoSpec)

/-- 'signallinglaw10.ProfileCuts', WHERE WHAT IT READS IS OF BULK AT MOST 1048576: true; the input reads as it did. -/
def profileCutsUptoRow : OpenClaim := { program := "ytoodehilgogomaa", sum := "36dfbebe4c12e5134623973f81100226c4faf10b11124c249311a0461ccd409b", func := "signalling/signallinglaw10.ProfileCuts", spec := "profileCuts", unfollowed := true, recurses := true, apart := false, narrowed := true }
def ProfileCutsUptoSaid : Prop := profileCutsUptoRow.holds Try.pinned (OpenSpec.upto profileCutsSpec)

end Rows
end Go.Proofs.Ytoodehilgogomaa
