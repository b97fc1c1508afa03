/- Walks of package odometer and of its reference, continued: what each function returns. -/
import Derived.Test.YtbgmknkmfhpgeaaDoorWOdo
set_option linter.unusedVariables false
set_option linter.unusedSimpArgs false
namespace Go.Proofs.YtbgmknkmfhpgeaaDoor
open Go.ChangeShapes Go.WideShapes Go.ChangeAt Go.RowKit
open Sg

theorem es_ret {e e' : Es} (h : e = e') : Ending.returned (.agg #[.int .i64 e.min, .int .i64 e.max, .int .i64 e.speed]) = .returned (.agg #[.int .i64 e'.min, .int .i64 e'.max, .int .i64 e'.speed]) := by rw [h]
theorem add_any (T : Tr) (E : Es) (m : Int) (w : World) (hc : 0 ≤ T.cons ∧ T.cons ≤ 500) (hr : 0 ≤ T.rate ∧ T.rate ≤ 100) (h1 : -1073741824 ≤ E.min ∧ E.min ≤ 1073741824) (h2 : -1073741824 ≤ E.max ∧ E.max ≤ 1073741824) :
    Calls Tryd.prog 57 #[.agg #[.int .i64 T.id, .string T.name, .int .i64 T.len, .int .i64 T.speed, .int .i64 T.accel, .int .i64 T.service, .int .i64 T.emergency, .int .i64 T.delay, .int .i64 T.cons, .int .i64 T.rate], .agg #[.int .i64 E.min, .int .i64 E.max, .int .i64 E.speed], .int .i64 m] w fun e w' => e = .returned (.agg #[.int .i64 (addV T.cons T.rate E m).min, .int .i64 (addV T.cons T.rate E m).max, .int .i64 (addV T.cons T.rate E m).speed]) ∧ Below w.heap.size w w' := by
  obtain ⟨k, hk, k1, k2⟩ : ∃ k, k = clampV m 0 1073741824 ∧ 0 ≤ k ∧ k ≤ 1073741824 := ⟨_, rfl, by unfold clampV; omega, by unfold clampV; omega⟩
  have HK := Lib.hid hk
  obtain ⟨u, hu⟩ : ∃ u, u = errV T.cons T.rate k := ⟨_, rfl⟩
  obtain ⟨u1, u2⟩ := errV_bd k hc hr
  rw [← hu] at u1 u2
  have HU := Lib.hid hu
  have HE : Hid (addV T.cons T.rate E m = ⟨clampV (E.min + max 0 (k - u)) (-1073741824) 1073741824, clampV (E.max + k + u) (-1073741824) 1073741824, k + u⟩) := by
    show _ = _; rw [addV, addU, ← hk, ← hu]
  clear hk hu
  obtain ⟨h1, h1'⟩ := h1
  obtain ⟨h2, h2'⟩ := h2
  have hs' : (k ≤ u ∧ max 0 (k - u) = 0) ∨ (u < k ∧ max 0 (k - u) = k - u) := by omega
  rcases hs' with ⟨hs, hmx⟩ | ⟨hs, hmx⟩
  all_goals rw [hmx] at HE
  all_goals clear hmx
  all_goals go_enter Tryd.func57, Tryd.ntmps57
  all_goals go_wp2_with (first
      | (go_at_call 84; refine (clamp_any _ _ _ _).mono ?_; rintro e w' ⟨rfl, rfl⟩; rw [← HK.out])
      | (go_at_call 85; refine (to_after (terr_any T k _ hc hr)).mono ?_; rintro e w' ⟨x, rfl, rfl⟩; rw [← HU.out]))
  all_goals refine wp_tail_in x 19 (by kernel_rfl) (by kernel_rfl) ?_
  all_goals simp only [List.take_succ_cons, List.take_zero, List.drop_succ_cons, List.drop_zero]
  all_goals repeat (first | go_big_quiet_step (((go_at_call 86; exact after_same _ (ocoord_any _ _)))) )
  all_goals refine wpQuiet_nil ?_
  all_goals rintro _ ⟨y, rfl⟩
  all_goals go_wp2
  all_goals exact bodyPost_ret (v := .agg #[.int .i64 (addV T.cons T.rate E m).min, .int .i64 (addV T.cons T.rate E m).max, .int .i64 (addV T.cons T.rate E m).speed]) (by rw [HE.out]; simp [results, Tryd.results57, go_sem]) rfl ⟨rfl, (((((((Below.refl _ _).alloc (Nat.le_refl _) _).alloc (by simp) _).alloc (by simp; omega) _).trans (y.is.mono (by simp; omega))).setCell (by simp; omega) _).setCell (by simp; omega) _).setCell (by simp; omega) _⟩
theorem radd_any (T : Tr) (E : Es) (m : Int) (w : World) (hc : 0 ≤ T.cons ∧ T.cons ≤ 500) (hr : 0 ≤ T.rate ∧ T.rate ≤ 100) (h1 : -1073741824 ≤ E.min ∧ E.min ≤ 1073741824) (h2 : -1073741824 ≤ E.max ∧ E.max ≤ 1073741824) :
    Calls Tryd.prog 62 #[.agg #[.int .i64 T.id, .string T.name, .int .i64 T.len, .int .i64 T.speed, .int .i64 T.accel, .int .i64 T.service, .int .i64 T.emergency, .int .i64 T.delay, .int .i64 T.cons, .int .i64 T.rate], .agg #[.int .i64 E.min, .int .i64 E.max, .int .i64 E.speed], .int .i64 m] w fun e w' => e = .returned (.agg #[.int .i64 (addV T.cons T.rate E m).min, .int .i64 (addV T.cons T.rate E m).max, .int .i64 (addV T.cons T.rate E m).speed]) ∧ Below w.heap.size w w' := by
  obtain ⟨k, hk, k1, k2⟩ : ∃ k, k = clampV m 0 1073741824 ∧ 0 ≤ k ∧ k ≤ 1073741824 := ⟨_, rfl, by unfold clampV; omega, by unfold clampV; omega⟩
  have HK := Lib.hid hk
  obtain ⟨u, hu⟩ : ∃ u, u = errV T.cons T.rate k := ⟨_, rfl⟩
  obtain ⟨u1, u2⟩ := errV_bd k hc hr
  rw [← hu] at u1 u2
  have HU := Lib.hid hu
  have HE : Hid (addV T.cons T.rate E m = ⟨clampV (E.min + max 0 (k - u)) (-1073741824) 1073741824, clampV (E.max + k + u) (-1073741824) 1073741824, k + u⟩) := by
    show _ = _; rw [addV, addU, ← hk, ← hu]
  clear hk hu
  obtain ⟨h1, h1'⟩ := h1
  obtain ⟨h2, h2'⟩ := h2
  have hs' : (k < u ∧ max 0 (k - u) = 0) ∨ (u ≤ k ∧ max 0 (k - u) = k - u) := by omega
  rcases hs' with ⟨hs, hmx⟩ | ⟨hs, hmx⟩
  all_goals rw [hmx] at HE
  all_goals clear hmx
  all_goals go_enter Tryd.func62, Tryd.ntmps62
  all_goals go_wp2_with (first
      | (go_at_call 88; refine (rclamp_any _ _ _ _).mono ?_; rintro e w' ⟨rfl, rfl⟩; rw [← HK.out])
      | (go_at_call 89; refine (to_after (rerr_any T k _ hc hr)).mono ?_; rintro e w' ⟨x, rfl, rfl⟩; rw [← HU.out]))
  all_goals refine wp_tail_in x 19 (by kernel_rfl) (by kernel_rfl) ?_
  all_goals simp only [List.take_succ_cons, List.take_zero, List.drop_succ_cons, List.drop_zero]
  all_goals repeat (first | go_big_quiet_step (((go_at_call 88; exact after_same _ (rclamp_any _ _ _ _)))) )
  all_goals refine wpQuiet_nil ?_
  all_goals rintro _ ⟨y, rfl⟩
  all_goals go_wp2
  all_goals exact bodyPost_ret (v := .agg #[.int .i64 (addV T.cons T.rate E m).min, .int .i64 (addV T.cons T.rate E m).max, .int .i64 (addV T.cons T.rate E m).speed]) (by rw [HE.out]; simp [results, Tryd.results62, go_sem]) rfl ⟨rfl, (((((((Below.refl _ _).alloc (Nat.le_refl _) _).alloc (by simp) _).alloc (by simp; omega) _).trans (y.is.mono (by simp; omega))).setCell (by simp; omega) _).setCell (by simp; omega) _).setCell (by simp; omega) _⟩
end Go.Proofs.YtbgmknkmfhpgeaaDoor
