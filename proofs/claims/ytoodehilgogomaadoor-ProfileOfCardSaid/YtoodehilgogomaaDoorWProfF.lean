/- Walks of package profile and of its reference: the reference's Slowest and Steepest; Cut. -/
import Derived.Test.YtoodehilgogomaaDoorWProfE
import Derived.RegionTactic
set_option linter.unusedVariables false
set_option linter.unusedSimpArgs false
namespace Go.Proofs.YtoodehilgogomaaDoor
open Go.ChangeShapes Go.WideShapes Go.ChangeAt Go.RowKit
open Sg

set_option maxHeartbeats 4000000 in
theorem part_any (f t : Int) (s : Sgm) (w : World) : Calls Tryd.prog 39 #[.agg #[.int .i64 f, .int .i64 t], .agg #[.int .i64 s.from_, .int .i64 s.to_, .int .i64 s.grade, .int .i64 s.speed]] w fun e w' => e = .returned (.tuple #[.agg #[.int .i64 (partS f t s).from_, .int .i64 (partS f t s).to_, .int .i64 (partS f t s).grade, .int .i64 (partS f t s).speed], .bool (partB f t s)]) ∧ Below w.heap.size w w' := by
  have k1 : (f ≤ s.from_ ∧ max s.from_ f = s.from_) ∨ (s.from_ < f ∧ max s.from_ f = f) := by omega
  have k2 : (s.to_ ≤ t ∧ min s.to_ t = s.to_) ∨ (t < s.to_ ∧ min s.to_ t = t) := by omega
  have HP : Hid (partS f t s = ⟨max s.from_ f, min s.to_ t, s.grade, s.speed⟩) := rfl
  have HB : Hid (partB f t s = decide (max s.from_ f < min s.to_ t)) := rfl
  rcases k1 with ⟨k1, e1⟩ | ⟨k1, e1⟩
  all_goals rcases k2 with ⟨k2, e2⟩ | ⟨k2, e2⟩
  all_goals rw [e1, e2] at HP HB
  all_goals clear e1 e2
  all_goals go_enter Tryd.func39, Tryd.ntmps39
  all_goals go_wp2
  all_goals go_region
  all_goals go_wp2
  all_goals go_region
  all_goals go_wp2
  all_goals exact bodyPost_ret (v := .tuple #[.agg #[.int .i64 (partS f t s).from_, .int .i64 (partS f t s).to_, .int .i64 (partS f t s).grade, .int .i64 (partS f t s).speed], .bool (partB f t s)]) (by rw [HP.out, HB.out]; simp [results, Tryd.results39, go_sem]) rfl ⟨rfl, ((((Below.refl _ _).alloc (Nat.le_refl _) _).alloc (by simp) _).alloc (by simp; omega) _).drew.drew⟩
end Go.Proofs.YtoodehilgogomaaDoor
