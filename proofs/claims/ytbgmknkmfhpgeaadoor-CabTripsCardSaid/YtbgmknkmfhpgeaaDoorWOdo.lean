/- Walks of package odometer and of its reference: what each function returns. -/
import Derived.Test.YtbgmknkmfhpgeaaDoorWTrain
import Derived.Test.YtbgmknkmfhpgeaaDoorTail
set_option linter.unusedVariables false
set_option linter.unusedSimpArgs false
namespace Go.Proofs.YtbgmknkmfhpgeaaDoor
open Go.ChangeShapes Go.WideShapes Go.ChangeAt Go.RowKit
open Sg

theorem ocoord_any (n : Int) (w : World) : Calls Tryd.prog 86 #[.int .i64 n] w fun e w' => e = .returned (.int .i64 (clampV n (-1073741824) 1073741824)) ∧ w = w' := by
  go_enter Tryd.func86, Tryd.ntmps86
  go_wp2_with (go_at_call 84; refine (clamp_any _ _ _ _).mono ?_; rintro e w' ⟨rfl, rfl⟩)
  go_ret
  exact ⟨rfl, rfl⟩
theorem ocoord_is (n x : Int) (hx : x = clampV n (-1073741824) 1073741824) (w : World) : Calls Tryd.prog 86 #[.int .i64 n] w fun e w' => e = .returned (.int .i64 x) ∧ w = w' := by
  subst hx; exact ocoord_any n w
end Go.Proofs.YtbgmknkmfhpgeaaDoor
