/-
  NARROWER THAN 'FOR EVERY INPUT', by the rows' own cells (each row's printed sentence says how): RestrictionPuts: laid · RestrictionSets: laid · RestrictionApplies: laid · RestrictionLowers: laid · RestrictionPasses: laid.
  DERIVED. THE GIVEN ROWS OF THIS SEAT. 5 by the template 'for every input the law returns true; each argument reads behind the call as it read before'; 0 by the template 'total and deterministic' (their statements: YtacnfchoemndeaaDoorTotals.lean).
  GIVEN WITH THE SEED: the statements are not yours to turn. If you find one false, say at which input.
  Laid BY PROGRAM, IN A SANDBOX (cutbox-rows.mjs): the forced cells as the released guide's own fill.sh prints them over the translation 644517a0e36c6366… (all of the seat's roots in one cut). By AI agents, Wed Nov 11 2026. No macro, syntax, notation, axiom, sorry.
-/
import Derived.Test.YtacnfchoemndeaaDoorChecked
import GoSem.Claim
import GoSem.ClaimJoined
import GoSem.ClaimMapViews
import Derived.JoinedTies
import Derived.KernelRfl
namespace Go.Proofs.YtacnfchoemndeaaDoor
/- THE CELL 'sum', in the pinned program and in every row, IS THE sha256 OF THE DUMP (.gsa) THAT YtacnfchoemndeaaDoorProg.lean LOADS. Nothing in Lean hashes anything: it is a label: what it is worth is what the hold of that sum in a sandbox is worth. -/
noncomputable def Tryd.pinned : Pinned := { name := "ytacnfchoemndeaadoor", sum := "644517a0e36c63661dd7eb92a8b76688dff92b574c02d26c4b35c273fa91c579", checked := Tryd.checked }
namespace Rows
def none {H : Type} : Left H := { results := [], args := [] }

/- WHAT THE LISTED PACKAGE-LEVEL VARIABLES READ AS WHEN THE CALL BEGINS. Each datum BY PROGRAM (the guide's laid-datum.mjs) off the statement by which the dump's own 'gosem.cut.vars' lays the variable. In a bare row this is a premise. The card (YtacnfchoemndeaaDoorCards.lean) ties it to the program's text. -/
def laid_signalling_rail_passages {H : Type} : DataW H := .agg [.agg [.lit (.int .i64 1), .lit (.int .i64 0), .lit (.int .i64 1), .lit (.int .i64 0)], .agg [.lit (.int .i64 1), .lit (.int .i64 1), .lit (.int .i64 0), .lit (.int .i64 0)], .agg [.lit (.int .i64 2), .lit (.int .i64 0), .lit (.int .i64 1), .lit (.int .i64 1)], .agg [.lit (.int .i64 2), .lit (.int .i64 0), .lit (.int .i64 2), .lit (.int .i64 2)], .agg [.lit (.int .i64 2), .lit (.int .i64 1), .lit (.int .i64 0), .lit (.int .i64 1)], .agg [.lit (.int .i64 2), .lit (.int .i64 2), .lit (.int .i64 0), .lit (.int .i64 2)], .agg [.lit (.int .i64 3), .lit (.int .i64 0), .lit (.int .i64 1), .lit (.int .i64 0)], .agg [.lit (.int .i64 3), .lit (.int .i64 1), .lit (.int .i64 0), .lit (.int .i64 0)], .agg [.lit (.int .i64 3), .lit (.int .i64 2), .lit (.int .i64 3), .lit (.int .i64 0)], .agg [.lit (.int .i64 3), .lit (.int .i64 3), .lit (.int .i64 2), .lit (.int .i64 0)]]

/-- 'signallinglaw43.RestrictionPuts': WHATEVER THE INPUT: true; the input reads as it did. -/
def restrictionPutsSpec : ChangeSpec := { name := "restrictionPuts", fn := fun _ => fun
  | [d1, d2, d3] => { results := [.lit (.bool true)], args := [d1, d2, d3] }
  | _ => none }
def restrictionPutsRow : OpenClaim := { program := "ytacnfchoemndeaadoor", sum := "644517a0e36c63661dd7eb92a8b76688dff92b574c02d26c4b35c273fa91c579", func := "signalling/signallinglaw43.RestrictionPuts", spec := "restrictionPuts", unfollowed := true, recurses := true, named := ["signalling/rail.passages"], apart := false, laid := [("signalling/rail.passages", laid_signalling_rail_passages)] }
def RestrictionPutsSaid : Prop := restrictionPutsRow.holds Tryd.pinned (OpenSpec.ofChange restrictionPutsSpec)

/-- ITS FALSE NEIGHBOUR: 'it returns false'. Refute it at one input. -/
def restrictionPutsWrong : ChangeSpec := { name := "restrictionPuts", fn := fun _ => fun
  | [d1, d2, d3] => { results := [.lit (.bool false)], args := [d1, d2, d3] }
  | _ => none }
def RestrictionPutsWrongFalsely : Prop := restrictionPutsRow.holds Tryd.pinned (OpenSpec.ofChange restrictionPutsWrong)

/-- 'signallinglaw43.RestrictionSets': WHATEVER THE INPUT: true; the input reads as it did. -/
def restrictionSetsSpec : ChangeSpec := { name := "restrictionSets", fn := fun _ => fun
  | [d1, d2, d3] => { results := [.lit (.bool true)], args := [d1, d2, d3] }
  | _ => none }
def restrictionSetsRow : OpenClaim := { program := "ytacnfchoemndeaadoor", sum := "644517a0e36c63661dd7eb92a8b76688dff92b574c02d26c4b35c273fa91c579", func := "signalling/signallinglaw43.RestrictionSets", spec := "restrictionSets", unfollowed := true, recurses := true, named := ["signalling/rail.passages"], apart := false, laid := [("signalling/rail.passages", laid_signalling_rail_passages)] }
def RestrictionSetsSaid : Prop := restrictionSetsRow.holds Tryd.pinned (OpenSpec.ofChange restrictionSetsSpec)

/-- ITS FALSE NEIGHBOUR: 'it returns false'. Refute it at one input. -/
def restrictionSetsWrong : ChangeSpec := { name := "restrictionSets", fn := fun _ => fun
  | [d1, d2, d3] => { results := [.lit (.bool false)], args := [d1, d2, d3] }
  | _ => none }
def RestrictionSetsWrongFalsely : Prop := restrictionSetsRow.holds Tryd.pinned (OpenSpec.ofChange restrictionSetsWrong)

/-- 'signallinglaw43.RestrictionApplies': WHATEVER THE INPUT: true; the input reads as it did. -/
def restrictionAppliesSpec : ChangeSpec := { name := "restrictionApplies", fn := fun _ => fun
  | [d1, d2, d3] => { results := [.lit (.bool true)], args := [d1, d2, d3] }
  | _ => none }
def restrictionAppliesRow : OpenClaim := { program := "ytacnfchoemndeaadoor", sum := "644517a0e36c63661dd7eb92a8b76688dff92b574c02d26c4b35c273fa91c579", func := "signalling/signallinglaw43.RestrictionApplies", spec := "restrictionApplies", unfollowed := true, recurses := true, named := ["signalling/rail.passages"], apart := false, laid := [("signalling/rail.passages", laid_signalling_rail_passages)] }
def RestrictionAppliesSaid : Prop := restrictionAppliesRow.holds Tryd.pinned (OpenSpec.ofChange restrictionAppliesSpec)

/-- ITS FALSE NEIGHBOUR: 'it returns false'. Refute it at one input. -/
def restrictionAppliesWrong : ChangeSpec := { name := "restrictionApplies", fn := fun _ => fun
  | [d1, d2, d3] => { results := [.lit (.bool false)], args := [d1, d2, d3] }
  | _ => none }
def RestrictionAppliesWrongFalsely : Prop := restrictionAppliesRow.holds Tryd.pinned (OpenSpec.ofChange restrictionAppliesWrong)

/-- 'signallinglaw43.RestrictionLowers': WHATEVER THE INPUT: true; the input reads as it did. -/
def restrictionLowersSpec : ChangeSpec := { name := "restrictionLowers", fn := fun _ => fun
  | [d1, d2, d3] => { results := [.lit (.bool true)], args := [d1, d2, d3] }
  | _ => none }
def restrictionLowersRow : OpenClaim := { program := "ytacnfchoemndeaadoor", sum := "644517a0e36c63661dd7eb92a8b76688dff92b574c02d26c4b35c273fa91c579", func := "signalling/signallinglaw43.RestrictionLowers", spec := "restrictionLowers", unfollowed := true, recurses := true, named := ["signalling/rail.passages"], apart := false, laid := [("signalling/rail.passages", laid_signalling_rail_passages)] }
def RestrictionLowersSaid : Prop := restrictionLowersRow.holds Tryd.pinned (OpenSpec.ofChange restrictionLowersSpec)

/-- ITS FALSE NEIGHBOUR: 'it returns false'. Refute it at one input. -/
def restrictionLowersWrong : ChangeSpec := { name := "restrictionLowers", fn := fun _ => fun
  | [d1, d2, d3] => { results := [.lit (.bool false)], args := [d1, d2, d3] }
  | _ => none }
def RestrictionLowersWrongFalsely : Prop := restrictionLowersRow.holds Tryd.pinned (OpenSpec.ofChange restrictionLowersWrong)

/-- 'signallinglaw43.RestrictionPasses': WHATEVER THE INPUT: true; the input reads as it did. -/
def restrictionPassesSpec : ChangeSpec := { name := "restrictionPasses", fn := fun _ => fun
  | [d1, d2, d3] => { results := [.lit (.bool true)], args := [d1, d2, d3] }
  | _ => none }
def restrictionPassesRow : OpenClaim := { program := "ytacnfchoemndeaadoor", sum := "644517a0e36c63661dd7eb92a8b76688dff92b574c02d26c4b35c273fa91c579", func := "signalling/signallinglaw43.RestrictionPasses", spec := "restrictionPasses", unfollowed := true, recurses := true, named := ["signalling/rail.passages"], apart := false, laid := [("signalling/rail.passages", laid_signalling_rail_passages)] }
def RestrictionPassesSaid : Prop := restrictionPassesRow.holds Tryd.pinned (OpenSpec.ofChange restrictionPassesSpec)

/-- ITS FALSE NEIGHBOUR: 'it returns false'. Refute it at one input. -/
def restrictionPassesWrong : ChangeSpec := { name := "restrictionPasses", fn := fun _ => fun
  | [d1, d2, d3] => { results := [.lit (.bool false)], args := [d1, d2, d3] }
  | _ => none }
def RestrictionPassesWrongFalsely : Prop := restrictionPassesRow.holds Tryd.pinned (OpenSpec.ofChange restrictionPassesWrong)

/- THE SECOND FORM. 'bulk': how many values and letters a reading holds, each counted each time it is reached (what is shared counts as often as it is met; a slice's spare places count too). A statement '..UptoSaid' is the law's where the arguments, and the package variables that the reading takes, are together of bulk at most 1048576: NARROWER than '..Said'. Prove '..Said' where nothing that the law and all that it calls make is longer than what came in: it says more and counts as full. Else prove '..UptoSaid'. A law counts once. -/
mutual
def uptoBulk {H : Type} : DataW H → Nat
  | .lit (.string bytes) => bytes.length + 1
  | .lit _ => 1
  | .nil => 1
  | .ptr d => uptoBulk d + 1
  | .slice elems spare => uptoBulkAll elems + uptoBulkAll spare + 1
  | .agg parts => uptoBulkAll parts + 1
  | .iface _ d => uptoBulk d + 1
  | .map entries => uptoBulkEntries entries + 1
  | .held _ => 1
def uptoBulkAll {H : Type} : List (DataW H) → Nat
  | [] => 0
  | d :: r => uptoBulk d + uptoBulkAll r
def uptoBulkEntries {H : Type} : List (Lit × DataW H) → Nat
  | [] => 0
  | x :: r => uptoBulkEntry x + uptoBulkEntries r
def uptoBulkEntry {H : Type} : Lit × DataW H → Nat
  | (.string bytes, d) => bytes.length + uptoBulk d + 1
  | (_, d) => uptoBulk d + 1
 end
def uptoSmall : (H : Type) → List (DataW H) → Bool := fun _ ds => decide (uptoBulkAll ds ≤ 1048576)
def OpenSpec.upto (s : _root_.Go.ChangeSpec) : _root_.Go.OpenSpec := { _root_.Go.OpenSpec.ofChange s with cond := some uptoSmall }

/-- 'signallinglaw43.RestrictionPuts', WHERE WHAT IT READS IS OF BULK AT MOST 1048576: true; the input reads as it did. -/
def restrictionPutsUptoRow : OpenClaim := { program := "ytacnfchoemndeaadoor", sum := "644517a0e36c63661dd7eb92a8b76688dff92b574c02d26c4b35c273fa91c579", func := "signalling/signallinglaw43.RestrictionPuts", spec := "restrictionPuts", unfollowed := true, recurses := true, named := ["signalling/rail.passages"], apart := false, laid := [("signalling/rail.passages", laid_signalling_rail_passages)], narrowed := true }
def RestrictionPutsUptoSaid : Prop := restrictionPutsUptoRow.holds Tryd.pinned (OpenSpec.upto restrictionPutsSpec)

/-- 'signallinglaw43.RestrictionSets', WHERE WHAT IT READS IS OF BULK AT MOST 1048576: true; the input reads as it did. -/
def restrictionSetsUptoRow : OpenClaim := { program := "ytacnfchoemndeaadoor", sum := "644517a0e36c63661dd7eb92a8b76688dff92b574c02d26c4b35c273fa91c579", func := "signalling/signallinglaw43.RestrictionSets", spec := "restrictionSets", unfollowed := true, recurses := true, named := ["signalling/rail.passages"], apart := false, laid := [("signalling/rail.passages", laid_signalling_rail_passages)], narrowed := true }
def RestrictionSetsUptoSaid : Prop := restrictionSetsUptoRow.holds Tryd.pinned (OpenSpec.upto restrictionSetsSpec)

/-- 'signallinglaw43.RestrictionApplies', WHERE WHAT IT READS IS OF BULK AT MOST 1048576: true; the input reads as it did. -/
def restrictionAppliesUptoRow : OpenClaim := { program := "ytacnfchoemndeaadoor", sum := "644517a0e36c63661dd7eb92a8b76688dff92b574c02d26c4b35c273fa91c579", func := "signalling/signallinglaw43.RestrictionApplies", spec := "restrictionApplies", unfollowed := true, recurses := true, named := ["signalling/rail.passages"], apart := false, laid := [("signalling/rail.passages", laid_signalling_rail_passages)], narrowed := true }
def RestrictionAppliesUptoSaid : Prop := restrictionAppliesUptoRow.holds Tryd.pinned (OpenSpec.upto restrictionAppliesSpec)

/-- 'signallinglaw43.RestrictionLowers', WHERE WHAT IT READS IS OF BULK AT MOST 1048576: true; the input reads as it did. -/
def restrictionLowersUptoRow : OpenClaim := { program := "ytacnfchoemndeaadoor", sum := "644517a0e36c63661dd7eb92a8b76688dff92b574c02d26c4b35c273fa91c579", func := "signalling/signallinglaw43.RestrictionLowers", spec := "restrictionLowers", unfollowed := true, recurses := true, named := ["signalling/rail.passages"], apart := false, laid := [("signalling/rail.passages", laid_signalling_rail_passages)], narrowed := true }
def RestrictionLowersUptoSaid : Prop := restrictionLowersUptoRow.holds Tryd.pinned (OpenSpec.upto restrictionLowersSpec)

/-- 'signallinglaw43.RestrictionPasses', WHERE WHAT IT READS IS OF BULK AT MOST 1048576: true; the input reads as it did. -/
def restrictionPassesUptoRow : OpenClaim := { program := "ytacnfchoemndeaadoor", sum := "644517a0e36c63661dd7eb92a8b76688dff92b574c02d26c4b35c273fa91c579", func := "signalling/signallinglaw43.RestrictionPasses", spec := "restrictionPasses", unfollowed := true, recurses := true, named := ["signalling/rail.passages"], apart := false, laid := [("signalling/rail.passages", laid_signalling_rail_passages)], narrowed := true }
def RestrictionPassesUptoSaid : Prop := restrictionPassesUptoRow.holds Tryd.pinned (OpenSpec.upto restrictionPassesSpec)

end Rows
end Go.Proofs.YtacnfchoemndeaaDoor
