/- Walks of package odometer and of its reference, the rest: what each function returns. -/
import Derived.Test.YtbgmknkmfhpgeaaDoorWOdo
set_option linter.unusedVariables false
set_option linter.unusedSimpArgs false
namespace Go.Proofs.YtbgmknkmfhpgeaaDoor
open Go.ChangeShapes Go.WideShapes Go.ChangeAt Go.RowKit
open Sg

theorem rclamp_is (n lo hi x : Int) (hx : x = clampV n lo hi) (w : World) : Calls Tryd.prog 88 #[.int .i64 n, .int .i64 lo, .int .i64 hi] w fun e w' => e = .returned (.int .i64 x) ∧ w = w' := by
  subst hx; exact rclamp_any n lo hi w
theorem bfix {w v : World} {o1 o2 o3 o4 : Obj} {c0 c1 c2 : Value} (h : Below (((w.alloc o1).alloc o2).alloc o3).heap.size (((w.alloc o1).alloc o2).alloc o3) v) : Below w.heap.size w ((((v.setCell ⟨w.heap.size + 1 + 1, 0, none⟩ c0).setCell ⟨w.heap.size + 1 + 1, 1, none⟩ c1).setCell ⟨w.heap.size + 1 + 1, 2, none⟩ c2).alloc o4) := by
  have h0 : Below w.heap.size w v := ((((Below.refl _ _).alloc (Nat.le_refl _) _).alloc (by simp) _).alloc (by simp; omega) _).trans (h.mono (by simp; omega))
  have := h0.size
  exact (((h0.setCell (by simp; omega) _).setCell (by simp; omega) _).setCell (by simp; omega) _).alloc (by simp [World.setCell]; omega) _
set_option maxHeartbeats 2000000 in
theorem fix_any (T : Tr) (E : Es) (at_ off : Int) (w : World) (hc : 0 ≤ T.cons ∧ T.cons ≤ 500) (hr : 0 ≤ T.rate ∧ T.rate ≤ 100) :
    Calls Tryd.prog 59 #[.agg #[.int .i64 T.id, .string T.name, .int .i64 T.len, .int .i64 T.speed, .int .i64 T.accel, .int .i64 T.service, .int .i64 T.emergency, .int .i64 T.delay, .int .i64 T.cons, .int .i64 T.rate], .agg #[.int .i64 E.min, .int .i64 E.max, .int .i64 E.speed], .int .i64 at_, .int .i64 off] w fun e w' => e = .returned (.tuple #[.agg #[.int .i64 (fixV T.cons T.rate E at_ off).min, .int .i64 (fixV T.cons T.rate E at_ off).max, .int .i64 (fixV T.cons T.rate E at_ off).speed], .int .i64 (fixE T.cons T.rate E at_ off)]) ∧ Below w.heap.size w w' := by
  obtain ⟨a, ha, a1, a2⟩ : ∃ a, a = clampV at_ (-1073741824) 1073741824 ∧ -1073741824 ≤ a ∧ a ≤ 1073741824 := ⟨_, rfl, by unfold clampV; omega, by unfold clampV; omega⟩
  obtain ⟨o, ho, o1, o2⟩ : ∃ o, o = clampV off (-1073741824) 1073741824 ∧ -1073741824 ≤ o ∧ o ≤ 1073741824 := ⟨_, rfl, by unfold clampV; omega, by unfold clampV; omega⟩
  have HA := Lib.hid ha
  have HO := Lib.hid ho
  obtain ⟨u, hu⟩ : ∃ u, u = errV T.cons T.rate o := ⟨_, rfl⟩
  obtain ⟨u1, u2⟩ := errV_bd o hc hr
  rw [← hu] at u1 u2
  have HU := Lib.hid hu
  have HV : Hid ((fixV T.cons T.rate E at_ off).min = (if min E.max (a + o + u) < max E.min (a + o - u) then E.min else max E.min (a + o - u)) ∧ (fixV T.cons T.rate E at_ off).max = (if min E.max (a + o + u) < max E.min (a + o - u) then E.max else min E.max (a + o + u)) ∧
      (fixV T.cons T.rate E at_ off).speed = E.speed ∧ fixE T.cons T.rate E at_ off = (if min E.max (a + o + u) < max E.min (a + o - u) then 10 else 0)) := by
    show _ ∧ _ ∧ _ ∧ _
    unfold fixV fixE fixF coV
    rw [← ha, ← ho, ← hu]
    refine ⟨?_, ?_, ?_, rfl⟩ <;> split <;> rfl
  clear ha ho hu
  have k1 : (a + o - u ≤ E.min ∧ max E.min (a + o - u) = E.min) ∨ (E.min < a + o - u ∧ max E.min (a + o - u) = a + o - u) := by omega
  have k2 : (E.max ≤ a + o + u ∧ min E.max (a + o + u) = E.max) ∨ (a + o + u < E.max ∧ min E.max (a + o + u) = a + o + u) := by omega
  rcases k1 with ⟨k1, e1⟩ | ⟨k1, e1⟩
  all_goals rcases k2 with ⟨k2, e2⟩ | ⟨k2, e2⟩
  all_goals rw [e1, e2] at HV
  all_goals clear e1 e2
  · by_cases cf : E.max < E.min
    · have HW := Lib.hid HV.out
      rw [if_pos cf, if_pos cf, if_pos cf] at HW
      clear HV
      go_enter Tryd.func59, Tryd.ntmps59
      go_wp2_with fail
      refine (ocoord_is _ a HA.out _).mono ?_
      rintro e w' ⟨rfl, rfl⟩
      go_wp2_with fail
      refine (ocoord_is _ o HO.out _).mono ?_
      rintro e w' ⟨rfl, rfl⟩
      go_wp2_with fail
      refine (to_after (terr_any T o _ hc hr)).mono ?_
      rintro e w' ⟨x, rfl, rfl⟩
      rw [← HU.out]
      have hx : w.heap.size + 1 + 1 < x.val.heap.size := by have := x.is.size; simp at this; omega
      have hx1 : w.heap.size + 1 < x.val.heap.size := by omega
      go_wp2
      exact bodyPost_ret (v := .tuple #[.agg #[.int .i64 (fixV T.cons T.rate E at_ off).min, .int .i64 (fixV T.cons T.rate E at_ off).max, .int .i64 (fixV T.cons T.rate E at_ off).speed], .int .i64 (fixE T.cons T.rate E at_ off)]) (by obtain ⟨v1, v2, v3, v4⟩ := HW.out; rw [v1, v2, v3, v4]; simp [results, Tryd.results59, go_sem, hx]) rfl ⟨rfl, bfix x.is⟩
    · have HW := Lib.hid HV.out
      rw [if_neg cf, if_neg cf, if_neg cf] at HW
      clear HV
      go_enter Tryd.func59, Tryd.ntmps59
      go_wp2_with fail
      refine (ocoord_is _ a HA.out _).mono ?_
      rintro e w' ⟨rfl, rfl⟩
      go_wp2_with fail
      refine (ocoord_is _ o HO.out _).mono ?_
      rintro e w' ⟨rfl, rfl⟩
      go_wp2_with fail
      refine (to_after (terr_any T o _ hc hr)).mono ?_
      rintro e w' ⟨x, rfl, rfl⟩
      rw [← HU.out]
      have hx : w.heap.size + 1 + 1 < x.val.heap.size := by have := x.is.size; simp at this; omega
      have hx1 : w.heap.size + 1 < x.val.heap.size := by omega
      go_wp2
      exact bodyPost_ret (v := .tuple #[.agg #[.int .i64 (fixV T.cons T.rate E at_ off).min, .int .i64 (fixV T.cons T.rate E at_ off).max, .int .i64 (fixV T.cons T.rate E at_ off).speed], .int .i64 (fixE T.cons T.rate E at_ off)]) (by obtain ⟨v1, v2, v3, v4⟩ := HW.out; rw [v1, v2, v3, v4]; simp [results, Tryd.results59, go_sem, hx]) rfl ⟨rfl, bfix x.is⟩
  · by_cases cf : a + o + u < E.min
    · have HW := Lib.hid HV.out
      rw [if_pos cf, if_pos cf, if_pos cf] at HW
      clear HV
      go_enter Tryd.func59, Tryd.ntmps59
      go_wp2_with fail
      refine (ocoord_is _ a HA.out _).mono ?_
      rintro e w' ⟨rfl, rfl⟩
      go_wp2_with fail
      refine (ocoord_is _ o HO.out _).mono ?_
      rintro e w' ⟨rfl, rfl⟩
      go_wp2_with fail
      refine (to_after (terr_any T o _ hc hr)).mono ?_
      rintro e w' ⟨x, rfl, rfl⟩
      rw [← HU.out]
      have hx : w.heap.size + 1 + 1 < x.val.heap.size := by have := x.is.size; simp at this; omega
      have hx1 : w.heap.size + 1 < x.val.heap.size := by omega
      go_wp2
      exact bodyPost_ret (v := .tuple #[.agg #[.int .i64 (fixV T.cons T.rate E at_ off).min, .int .i64 (fixV T.cons T.rate E at_ off).max, .int .i64 (fixV T.cons T.rate E at_ off).speed], .int .i64 (fixE T.cons T.rate E at_ off)]) (by obtain ⟨v1, v2, v3, v4⟩ := HW.out; rw [v1, v2, v3, v4]; simp [results, Tryd.results59, go_sem, hx]) rfl ⟨rfl, bfix x.is⟩
    · have HW := Lib.hid HV.out
      rw [if_neg cf, if_neg cf, if_neg cf] at HW
      clear HV
      go_enter Tryd.func59, Tryd.ntmps59
      go_wp2_with fail
      refine (ocoord_is _ a HA.out _).mono ?_
      rintro e w' ⟨rfl, rfl⟩
      go_wp2_with fail
      refine (ocoord_is _ o HO.out _).mono ?_
      rintro e w' ⟨rfl, rfl⟩
      go_wp2_with fail
      refine (to_after (terr_any T o _ hc hr)).mono ?_
      rintro e w' ⟨x, rfl, rfl⟩
      rw [← HU.out]
      have hx : w.heap.size + 1 + 1 < x.val.heap.size := by have := x.is.size; simp at this; omega
      have hx1 : w.heap.size + 1 < x.val.heap.size := by omega
      go_wp2
      exact bodyPost_ret (v := .tuple #[.agg #[.int .i64 (fixV T.cons T.rate E at_ off).min, .int .i64 (fixV T.cons T.rate E at_ off).max, .int .i64 (fixV T.cons T.rate E at_ off).speed], .int .i64 (fixE T.cons T.rate E at_ off)]) (by obtain ⟨v1, v2, v3, v4⟩ := HW.out; rw [v1, v2, v3, v4]; simp [results, Tryd.results59, go_sem, hx]) rfl ⟨rfl, bfix x.is⟩
  · by_cases cf : E.max < a + o - u
    · have HW := Lib.hid HV.out
      rw [if_pos cf, if_pos cf, if_pos cf] at HW
      clear HV
      go_enter Tryd.func59, Tryd.ntmps59
      go_wp2_with fail
      refine (ocoord_is _ a HA.out _).mono ?_
      rintro e w' ⟨rfl, rfl⟩
      go_wp2_with fail
      refine (ocoord_is _ o HO.out _).mono ?_
      rintro e w' ⟨rfl, rfl⟩
      go_wp2_with fail
      refine (to_after (terr_any T o _ hc hr)).mono ?_
      rintro e w' ⟨x, rfl, rfl⟩
      rw [← HU.out]
      have hx : w.heap.size + 1 + 1 < x.val.heap.size := by have := x.is.size; simp at this; omega
      have hx1 : w.heap.size + 1 < x.val.heap.size := by omega
      go_wp2
      exact bodyPost_ret (v := .tuple #[.agg #[.int .i64 (fixV T.cons T.rate E at_ off).min, .int .i64 (fixV T.cons T.rate E at_ off).max, .int .i64 (fixV T.cons T.rate E at_ off).speed], .int .i64 (fixE T.cons T.rate E at_ off)]) (by obtain ⟨v1, v2, v3, v4⟩ := HW.out; rw [v1, v2, v3, v4]; simp [results, Tryd.results59, go_sem, hx]) rfl ⟨rfl, bfix x.is⟩
    · have HW := Lib.hid HV.out
      rw [if_neg cf, if_neg cf, if_neg cf] at HW
      clear HV
      go_enter Tryd.func59, Tryd.ntmps59
      go_wp2_with fail
      refine (ocoord_is _ a HA.out _).mono ?_
      rintro e w' ⟨rfl, rfl⟩
      go_wp2_with fail
      refine (ocoord_is _ o HO.out _).mono ?_
      rintro e w' ⟨rfl, rfl⟩
      go_wp2_with fail
      refine (to_after (terr_any T o _ hc hr)).mono ?_
      rintro e w' ⟨x, rfl, rfl⟩
      rw [← HU.out]
      have hx : w.heap.size + 1 + 1 < x.val.heap.size := by have := x.is.size; simp at this; omega
      have hx1 : w.heap.size + 1 < x.val.heap.size := by omega
      go_wp2
      exact bodyPost_ret (v := .tuple #[.agg #[.int .i64 (fixV T.cons T.rate E at_ off).min, .int .i64 (fixV T.cons T.rate E at_ off).max, .int .i64 (fixV T.cons T.rate E at_ off).speed], .int .i64 (fixE T.cons T.rate E at_ off)]) (by obtain ⟨v1, v2, v3, v4⟩ := HW.out; rw [v1, v2, v3, v4]; simp [results, Tryd.results59, go_sem, hx]) rfl ⟨rfl, bfix x.is⟩
  · by_cases cf : a + o + u < a + o - u
    · exact absurd cf (by omega)
    · have HW := Lib.hid HV.out
      rw [if_neg cf, if_neg cf, if_neg cf] at HW
      clear HV
      go_enter Tryd.func59, Tryd.ntmps59
      go_wp2_with fail
      refine (ocoord_is _ a HA.out _).mono ?_
      rintro e w' ⟨rfl, rfl⟩
      go_wp2_with fail
      refine (ocoord_is _ o HO.out _).mono ?_
      rintro e w' ⟨rfl, rfl⟩
      go_wp2_with fail
      refine (to_after (terr_any T o _ hc hr)).mono ?_
      rintro e w' ⟨x, rfl, rfl⟩
      rw [← HU.out]
      have hx : w.heap.size + 1 + 1 < x.val.heap.size := by have := x.is.size; simp at this; omega
      have hx1 : w.heap.size + 1 < x.val.heap.size := by omega
      go_wp2
      exact bodyPost_ret (v := .tuple #[.agg #[.int .i64 (fixV T.cons T.rate E at_ off).min, .int .i64 (fixV T.cons T.rate E at_ off).max, .int .i64 (fixV T.cons T.rate E at_ off).speed], .int .i64 (fixE T.cons T.rate E at_ off)]) (by obtain ⟨v1, v2, v3, v4⟩ := HW.out; rw [v1, v2, v3, v4]; simp [results, Tryd.results59, go_sem, hx]) rfl ⟨rfl, bfix x.is⟩
set_option maxHeartbeats 2000000 in
theorem rfix_any (T : Tr) (E : Es) (at_ off : Int) (w : World) (hc : 0 ≤ T.cons ∧ T.cons ≤ 500) (hr : 0 ≤ T.rate ∧ T.rate ≤ 100) :
    Calls Tryd.prog 64 #[.agg #[.int .i64 T.id, .string T.name, .int .i64 T.len, .int .i64 T.speed, .int .i64 T.accel, .int .i64 T.service, .int .i64 T.emergency, .int .i64 T.delay, .int .i64 T.cons, .int .i64 T.rate], .agg #[.int .i64 E.min, .int .i64 E.max, .int .i64 E.speed], .int .i64 at_, .int .i64 off] w fun e w' => e = .returned (.tuple #[.agg #[.int .i64 (fixV T.cons T.rate E at_ off).min, .int .i64 (fixV T.cons T.rate E at_ off).max, .int .i64 (fixV T.cons T.rate E at_ off).speed], .int .i64 (fixE T.cons T.rate E at_ off)]) ∧ Below w.heap.size w w' := by
  obtain ⟨a, ha, a1, a2⟩ : ∃ a, a = clampV at_ (-1073741824) 1073741824 ∧ -1073741824 ≤ a ∧ a ≤ 1073741824 := ⟨_, rfl, by unfold clampV; omega, by unfold clampV; omega⟩
  obtain ⟨o, ho, o1, o2⟩ : ∃ o, o = clampV off (-1073741824) 1073741824 ∧ -1073741824 ≤ o ∧ o ≤ 1073741824 := ⟨_, rfl, by unfold clampV; omega, by unfold clampV; omega⟩
  have HA := Lib.hid ha
  have HO := Lib.hid ho
  obtain ⟨u, hu⟩ : ∃ u, u = errV T.cons T.rate o := ⟨_, rfl⟩
  obtain ⟨u1, u2⟩ := errV_bd o hc hr
  rw [← hu] at u1 u2
  have HU := Lib.hid hu
  have HV : Hid ((fixV T.cons T.rate E at_ off).min = (if min E.max (a + o + u) < max E.min (a + o - u) then E.min else max E.min (a + o - u)) ∧ (fixV T.cons T.rate E at_ off).max = (if min E.max (a + o + u) < max E.min (a + o - u) then E.max else min E.max (a + o + u)) ∧
      (fixV T.cons T.rate E at_ off).speed = E.speed ∧ fixE T.cons T.rate E at_ off = (if min E.max (a + o + u) < max E.min (a + o - u) then 10 else 0)) := by
    show _ ∧ _ ∧ _ ∧ _
    unfold fixV fixE fixF coV
    rw [← ha, ← ho, ← hu]
    refine ⟨?_, ?_, ?_, rfl⟩ <;> split <;> rfl
  clear ha ho hu
  have k1 : (a + o - u ≤ E.min ∧ max E.min (a + o - u) = E.min) ∨ (E.min < a + o - u ∧ max E.min (a + o - u) = a + o - u) := by omega
  have k2 : (E.max ≤ a + o + u ∧ min E.max (a + o + u) = E.max) ∨ (a + o + u < E.max ∧ min E.max (a + o + u) = a + o + u) := by omega
  rcases k1 with ⟨k1, e1⟩ | ⟨k1, e1⟩
  all_goals rcases k2 with ⟨k2, e2⟩ | ⟨k2, e2⟩
  all_goals rw [e1, e2] at HV
  all_goals clear e1 e2
  · by_cases cf : E.max < E.min
    · have HW := Lib.hid HV.out
      rw [if_pos cf, if_pos cf, if_pos cf] at HW
      clear HV
      go_enter Tryd.func64, Tryd.ntmps64
      go_wp2_with fail
      refine (rclamp_is _ _ _ a HA.out _).mono ?_
      rintro e w' ⟨rfl, rfl⟩
      go_wp2_with fail
      refine (rclamp_is _ _ _ o HO.out _).mono ?_
      rintro e w' ⟨rfl, rfl⟩
      go_wp2_with fail
      refine (to_after (rerr_any T o _ hc hr)).mono ?_
      rintro e w' ⟨x, rfl, rfl⟩
      rw [← HU.out]
      have hx : w.heap.size + 1 + 1 < x.val.heap.size := by have := x.is.size; simp at this; omega
      have hx1 : w.heap.size + 1 < x.val.heap.size := by omega
      go_wp2
      exact bodyPost_ret (v := .tuple #[.agg #[.int .i64 (fixV T.cons T.rate E at_ off).min, .int .i64 (fixV T.cons T.rate E at_ off).max, .int .i64 (fixV T.cons T.rate E at_ off).speed], .int .i64 (fixE T.cons T.rate E at_ off)]) (by obtain ⟨v1, v2, v3, v4⟩ := HW.out; rw [v1, v2, v3, v4]; simp [results, Tryd.results64, go_sem, hx]) rfl ⟨rfl, bfix x.is⟩
    · have HW := Lib.hid HV.out
      rw [if_neg cf, if_neg cf, if_neg cf] at HW
      clear HV
      go_enter Tryd.func64, Tryd.ntmps64
      go_wp2_with fail
      refine (rclamp_is _ _ _ a HA.out _).mono ?_
      rintro e w' ⟨rfl, rfl⟩
      go_wp2_with fail
      refine (rclamp_is _ _ _ o HO.out _).mono ?_
      rintro e w' ⟨rfl, rfl⟩
      go_wp2_with fail
      refine (to_after (rerr_any T o _ hc hr)).mono ?_
      rintro e w' ⟨x, rfl, rfl⟩
      rw [← HU.out]
      have hx : w.heap.size + 1 + 1 < x.val.heap.size := by have := x.is.size; simp at this; omega
      have hx1 : w.heap.size + 1 < x.val.heap.size := by omega
      go_wp2
      exact bodyPost_ret (v := .tuple #[.agg #[.int .i64 (fixV T.cons T.rate E at_ off).min, .int .i64 (fixV T.cons T.rate E at_ off).max, .int .i64 (fixV T.cons T.rate E at_ off).speed], .int .i64 (fixE T.cons T.rate E at_ off)]) (by obtain ⟨v1, v2, v3, v4⟩ := HW.out; rw [v1, v2, v3, v4]; simp [results, Tryd.results64, go_sem, hx]) rfl ⟨rfl, bfix x.is⟩
  · by_cases cf : a + o + u < E.min
    · have HW := Lib.hid HV.out
      rw [if_pos cf, if_pos cf, if_pos cf] at HW
      clear HV
      go_enter Tryd.func64, Tryd.ntmps64
      go_wp2_with fail
      refine (rclamp_is _ _ _ a HA.out _).mono ?_
      rintro e w' ⟨rfl, rfl⟩
      go_wp2_with fail
      refine (rclamp_is _ _ _ o HO.out _).mono ?_
      rintro e w' ⟨rfl, rfl⟩
      go_wp2_with fail
      refine (to_after (rerr_any T o _ hc hr)).mono ?_
      rintro e w' ⟨x, rfl, rfl⟩
      rw [← HU.out]
      have hx : w.heap.size + 1 + 1 < x.val.heap.size := by have := x.is.size; simp at this; omega
      have hx1 : w.heap.size + 1 < x.val.heap.size := by omega
      go_wp2
      exact bodyPost_ret (v := .tuple #[.agg #[.int .i64 (fixV T.cons T.rate E at_ off).min, .int .i64 (fixV T.cons T.rate E at_ off).max, .int .i64 (fixV T.cons T.rate E at_ off).speed], .int .i64 (fixE T.cons T.rate E at_ off)]) (by obtain ⟨v1, v2, v3, v4⟩ := HW.out; rw [v1, v2, v3, v4]; simp [results, Tryd.results64, go_sem, hx]) rfl ⟨rfl, bfix x.is⟩
    · have HW := Lib.hid HV.out
      rw [if_neg cf, if_neg cf, if_neg cf] at HW
      clear HV
      go_enter Tryd.func64, Tryd.ntmps64
      go_wp2_with fail
      refine (rclamp_is _ _ _ a HA.out _).mono ?_
      rintro e w' ⟨rfl, rfl⟩
      go_wp2_with fail
      refine (rclamp_is _ _ _ o HO.out _).mono ?_
      rintro e w' ⟨rfl, rfl⟩
      go_wp2_with fail
      refine (to_after (rerr_any T o _ hc hr)).mono ?_
      rintro e w' ⟨x, rfl, rfl⟩
      rw [← HU.out]
      have hx : w.heap.size + 1 + 1 < x.val.heap.size := by have := x.is.size; simp at this; omega
      have hx1 : w.heap.size + 1 < x.val.heap.size := by omega
      go_wp2
      exact bodyPost_ret (v := .tuple #[.agg #[.int .i64 (fixV T.cons T.rate E at_ off).min, .int .i64 (fixV T.cons T.rate E at_ off).max, .int .i64 (fixV T.cons T.rate E at_ off).speed], .int .i64 (fixE T.cons T.rate E at_ off)]) (by obtain ⟨v1, v2, v3, v4⟩ := HW.out; rw [v1, v2, v3, v4]; simp [results, Tryd.results64, go_sem, hx]) rfl ⟨rfl, bfix x.is⟩
  · by_cases cf : E.max < a + o - u
    · have HW := Lib.hid HV.out
      rw [if_pos cf, if_pos cf, if_pos cf] at HW
      clear HV
      go_enter Tryd.func64, Tryd.ntmps64
      go_wp2_with fail
      refine (rclamp_is _ _ _ a HA.out _).mono ?_
      rintro e w' ⟨rfl, rfl⟩
      go_wp2_with fail
      refine (rclamp_is _ _ _ o HO.out _).mono ?_
      rintro e w' ⟨rfl, rfl⟩
      go_wp2_with fail
      refine (to_after (rerr_any T o _ hc hr)).mono ?_
      rintro e w' ⟨x, rfl, rfl⟩
      rw [← HU.out]
      have hx : w.heap.size + 1 + 1 < x.val.heap.size := by have := x.is.size; simp at this; omega
      have hx1 : w.heap.size + 1 < x.val.heap.size := by omega
      go_wp2
      exact bodyPost_ret (v := .tuple #[.agg #[.int .i64 (fixV T.cons T.rate E at_ off).min, .int .i64 (fixV T.cons T.rate E at_ off).max, .int .i64 (fixV T.cons T.rate E at_ off).speed], .int .i64 (fixE T.cons T.rate E at_ off)]) (by obtain ⟨v1, v2, v3, v4⟩ := HW.out; rw [v1, v2, v3, v4]; simp [results, Tryd.results64, go_sem, hx]) rfl ⟨rfl, bfix x.is⟩
    · have HW := Lib.hid HV.out
      rw [if_neg cf, if_neg cf, if_neg cf] at HW
      clear HV
      go_enter Tryd.func64, Tryd.ntmps64
      go_wp2_with fail
      refine (rclamp_is _ _ _ a HA.out _).mono ?_
      rintro e w' ⟨rfl, rfl⟩
      go_wp2_with fail
      refine (rclamp_is _ _ _ o HO.out _).mono ?_
      rintro e w' ⟨rfl, rfl⟩
      go_wp2_with fail
      refine (to_after (rerr_any T o _ hc hr)).mono ?_
      rintro e w' ⟨x, rfl, rfl⟩
      rw [← HU.out]
      have hx : w.heap.size + 1 + 1 < x.val.heap.size := by have := x.is.size; simp at this; omega
      have hx1 : w.heap.size + 1 < x.val.heap.size := by omega
      go_wp2
      exact bodyPost_ret (v := .tuple #[.agg #[.int .i64 (fixV T.cons T.rate E at_ off).min, .int .i64 (fixV T.cons T.rate E at_ off).max, .int .i64 (fixV T.cons T.rate E at_ off).speed], .int .i64 (fixE T.cons T.rate E at_ off)]) (by obtain ⟨v1, v2, v3, v4⟩ := HW.out; rw [v1, v2, v3, v4]; simp [results, Tryd.results64, go_sem, hx]) rfl ⟨rfl, bfix x.is⟩
  · by_cases cf : a + o + u < a + o - u
    · exact absurd cf (by omega)
    · have HW := Lib.hid HV.out
      rw [if_neg cf, if_neg cf, if_neg cf] at HW
      clear HV
      go_enter Tryd.func64, Tryd.ntmps64
      go_wp2_with fail
      refine (rclamp_is _ _ _ a HA.out _).mono ?_
      rintro e w' ⟨rfl, rfl⟩
      go_wp2_with fail
      refine (rclamp_is _ _ _ o HO.out _).mono ?_
      rintro e w' ⟨rfl, rfl⟩
      go_wp2_with fail
      refine (to_after (rerr_any T o _ hc hr)).mono ?_
      rintro e w' ⟨x, rfl, rfl⟩
      rw [← HU.out]
      have hx : w.heap.size + 1 + 1 < x.val.heap.size := by have := x.is.size; simp at this; omega
      have hx1 : w.heap.size + 1 < x.val.heap.size := by omega
      go_wp2
      exact bodyPost_ret (v := .tuple #[.agg #[.int .i64 (fixV T.cons T.rate E at_ off).min, .int .i64 (fixV T.cons T.rate E at_ off).max, .int .i64 (fixV T.cons T.rate E at_ off).speed], .int .i64 (fixE T.cons T.rate E at_ off)]) (by obtain ⟨v1, v2, v3, v4⟩ := HW.out; rw [v1, v2, v3, v4]; simp [results, Tryd.results64, go_sem, hx]) rfl ⟨rfl, bfix x.is⟩
end Go.Proofs.YtbgmknkmfhpgeaaDoor
