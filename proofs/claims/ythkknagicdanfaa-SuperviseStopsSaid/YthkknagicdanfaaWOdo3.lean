/- Walks of package odometer and of its reference, the rest: what each function returns. -/
import Derived.Test.YthkknagicdanfaaWOdo
set_option linter.unusedVariables false
set_option linter.unusedSimpArgs false
namespace Go.Proofs.Ythkknagicdanfaa
open Go.ChangeShapes Go.WideShapes Go.ChangeAt Go.RowKit
open Sg

theorem rclamp_is (n lo hi x : Int) (hx : x = clampV n lo hi) (w : World) : Calls Try.prog 32 #[.int .i64 n, .int .i64 lo, .int .i64 hi] w fun e w' => e = .returned (.int .i64 x) ∧ w = w' := by
  subst hx; exact rclamp_any n lo hi w
theorem bfix {w v : World} {o1 o2 o3 o4 : Obj} {c0 c1 c2 : Value} (h : Below (((w.alloc o1).alloc o2).alloc o3).heap.size (((w.alloc o1).alloc o2).alloc o3) v) : Below w.heap.size w ((((v.setCell ⟨w.heap.size + 1 + 1, 0, none⟩ c0).setCell ⟨w.heap.size + 1 + 1, 1, none⟩ c1).setCell ⟨w.heap.size + 1 + 1, 2, none⟩ c2).alloc o4) := by
  have h0 : Below w.heap.size w v := ((((Below.refl _ _).alloc (Nat.le_refl _) _).alloc (by simp) _).alloc (by simp; omega) _).trans (h.mono (by simp; omega))
  have := h0.size
  exact (((h0.setCell (by simp; omega) _).setCell (by simp; omega) _).setCell (by simp; omega) _).alloc (by simp [World.setCell]; omega) _
theorem rhold_any (E : Es) (x v : Int) (w : World) : Calls Try.prog 20 #[.agg #[.int .i64 E.min, .int .i64 E.max, .int .i64 E.speed], .int .i64 x, .int .i64 v] w fun e w' => e = .returned (.bool (holdB E x v)) ∧ Below w.heap.size w w' := by
  have HE : Hid (holdB E x v = _) := holdB.eq_def ..
  have key : (E.min ≤ x ∧ x ≤ E.max) ∨ (E.min ≤ x ∧ decide (x ≤ E.max) = false) ∨ decide (E.min ≤ x) = false := by simp; omega
  rcases key with ⟨h1, h2⟩ | ⟨h1, h2⟩ | h1
  all_goals go_enter Try.func20, Try.ntmps20
  all_goals go_wp2
  all_goals go_ret
  all_goals refine ⟨ret_bool ?_, (Below.refl _ _).alloc (Nat.le_refl _) _⟩
  · rw [HE.out, Bool.eq_iff_iff]; simp [h1, h2]
  · rw [HE.out, h2]; simp
  · rw [HE.out, h1]; simp
end Go.Proofs.Ythkknagicdanfaa
