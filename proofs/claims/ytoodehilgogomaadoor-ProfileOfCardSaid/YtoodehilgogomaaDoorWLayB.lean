/- Walks: signallingref06.Need, Joined (both), exists, possible, need, passage, Next. -/
import Derived.Test.YtoodehilgogomaaDoorWLayA
set_option linter.unusedVariables false
set_option linter.unusedSimpArgs false
set_option maxRecDepth 100000
namespace Go.Proofs.YtoodehilgogomaaDoor
open Go.ChangeShapes Go.WideShapes Go.ChangeAt Go.RowKit
open Sg

theorem rneed_leaf {k i o n : Int} {b : Bool} {w : World} (h : needO k i o = if b = true then some n else none) (h0 : b = false → n = 0) : Ending.returned (.tuple #[.int .i64 n, .bool b]) = .returned (.tuple #[.int .i64 (needV k i o), .bool (needB k i o)]) ∧ Below w.heap.size w w := by
  refine ⟨?_, Ext.refl _⟩
  unfold needV needB
  rw [h]
  cases b
  · rw [h0 rfl]; rfl
  · rfl
set_option maxHeartbeats 8000000 in
theorem rneed_any (k i o : Int) (w : World) : Calls Tryd.prog 24 #[.int .i64 k, .int .i64 i, .int .i64 o] w fun e w' => e = .returned (.tuple #[.int .i64 (needV k i o), .bool (needB k i o)]) ∧ Below w.heap.size w w' := by
  by_cases k1 : k = 1
  · subst k1
    go_enter Tryd.func24, Tryd.ntmps24
    go_wp2
    all_goals go_ret2
    all_goals refine rneed_leaf ?_ (by simp)
    all_goals (unfold needO; repeat' split)
    all_goals first | rfl | (exfalso; omega) | simp_all
  by_cases k3 : k = 3
  · subst k3
    clear k1
    go_enter Tryd.func24, Tryd.ntmps24
    go_wp2
    all_goals go_ret2
    all_goals refine rneed_leaf ?_ (by simp)
    all_goals (unfold needO; repeat' split)
    all_goals first | rfl | (exfalso; omega) | simp_all
  by_cases k2 : k = 2
  · subst k2
    clear k1 k3
    rcases Int.lt_or_le i o with hio | hio
    · go_enter Tryd.func24, Tryd.ntmps24
      go_wp2
      all_goals go_ret2
      all_goals refine rneed_leaf ?_ (by simp)
      all_goals (unfold needO; repeat' split)
      all_goals first | rfl | (exfalso; omega) | simp_all
    · go_enter Tryd.func24, Tryd.ntmps24
      go_wp2
      all_goals go_ret2
      all_goals refine rneed_leaf ?_ (by simp)
      all_goals (unfold needO; repeat' split)
      all_goals first | rfl | (exfalso; omega) | simp_all
  · have b1 : (k == 1) = false := by simp; omega
    have b2 : (k == 2) = false := by simp; omega
    have b3 : (k == 3) = false := by simp; omega
    have HN : Hid (needO k i o = none) := (by unfold needO; rw [if_neg (by omega), if_neg (by omega), if_neg (by omega), if_neg (by omega)] : needO k i o = none)
    clear k1 k2 k3
    go_enter Tryd.func24, Tryd.ntmps24
    go_wp2
    all_goals go_ret2
    all_goals exact rneed_leaf HN.out (by simp)
end Go.Proofs.YtoodehilgogomaaDoor
