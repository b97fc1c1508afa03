/- Walks of chapter 31's laws. -/
import Derived.Test.YtehpeihnaaiknaaWOdo2
import Derived.Test.YtehpeihnaaiknaaWOdo3
import Derived.Test.YtehpeihnaaiknaaOpen
set_option linter.unusedVariables false
set_option linter.unusedSimpArgs false
namespace Go.Proofs.Ytehpeihnaaiknaa
open Go.ChangeShapes Go.WideShapes Go.ChangeAt Go.RowKit
open Sg

def T0 : Tr := ⟨1, ⟨#[116]⟩, 5000, 3000, 50, 50, 100, 0, 10, 20⟩
theorem example_any (w : World) : Calls Try.prog 28 #[] w fun e w' => e = .returned (.agg #[.int .i64 T0.id, .string T0.name, .int .i64 T0.len, .int .i64 T0.speed, .int .i64 T0.accel, .int .i64 T0.service, .int .i64 T0.emergency, .int .i64 T0.delay, .int .i64 T0.cons, .int .i64 T0.rate]) ∧ Below w.heap.size w w' := by
  go_enter Try.func28, Try.ntmps28
  go_wp2
  exact bodyPost_ret (v := .agg #[.int .i64 T0.id, .string T0.name, .int .i64 T0.len, .int .i64 T0.speed, .int .i64 T0.accel, .int .i64 T0.service, .int .i64 T0.emergency, .int .i64 T0.delay, .int .i64 T0.cons, .int .i64 T0.rate]) (by simp [results, Try.results28, go_sem, T0]) rfl ⟨rfl, (Below.refl _ _).alloc (Nat.le_refl _) _⟩
theorem meas_a : measV 10 20 1000 0 = 1000 := measV_of (by omega) (by omega) (by omega) ⟨by decide, .inl (by decide)⟩
theorem meas_b : measV 10 20 1000 (-500) = 971 := measV_of (by omega) (by omega) (by omega) ⟨by decide, .inr (.inr ⟨by decide, by decide⟩)⟩
theorem add_a : addV 10 20 ⟨0, 100, 50⟩ 1000 = ⟨970, 1130, 1030⟩ := rfl
theorem fix_a : fixV 10 20 ⟨970, 1130, 1030⟩ 600 500 = ⟨1080, 1120, 1030⟩ := rfl
theorem fix_b : fixE 10 20 ⟨970, 1130, 1030⟩ 600 500 = 0 := rfl
theorem fix_c : fixE 10 20 ⟨970, 1130, 1030⟩ 100 500 = 10 := rfl
theorem hold_a : holdB ⟨1080, 1120, 1030⟩ 1100 1000 = true := rfl
theorem alive_any (w : World) : Calls Try.prog 11 #[] w fun e w' => e = .returned (.bool true) ∧ Below w.heap.size w w' := by
  go_enter Try.func11, Try.ntmps11
  go_wp2_with fail
  refine (to_after (example_any _)).mono ?_
  rintro e w' ⟨x1, rfl, rfl⟩
  go_wp2_with fail
  refine (to_after (add_any T0 ⟨0, 100, 50⟩ 1000 _ (by decide) (by decide) (by decide) (by decide))).mono ?_
  rintro e w' ⟨x2, rfl, rfl⟩
  rw [show addV T0.cons T0.rate ⟨0, 100, 50⟩ 1000 = ⟨970, 1130, 1030⟩ from add_a]
  have s2 : x1.val.heap.size < x2.val.heap.size := by have := x2.is.size; simp at this; omega
  go_wp2_with fail
  refine (to_after (fix_any T0 ⟨970, 1130, 1030⟩ 600 500 _ (by decide) (by decide))).mono ?_
  rintro e w' ⟨x3, rfl, rfl⟩
  rw [show fixV T0.cons T0.rate ⟨970, 1130, 1030⟩ 600 500 = ⟨1080, 1120, 1030⟩ from fix_a, show fixE T0.cons T0.rate ⟨970, 1130, 1030⟩ 600 500 = 0 from fix_b]
  have s3 : x2.val.heap.size < x3.val.heap.size := by have := x3.is.size; simp at this; omega
  have s31 : x1.val.heap.size < x3.val.heap.size := by omega
  go_wp2_with fail
  refine (to_after (fix_any T0 ⟨970, 1130, 1030⟩ 100 500 _ (by decide) (by decide))).mono ?_
  rintro e w' ⟨x4, rfl, rfl⟩
  rw [show fixE T0.cons T0.rate ⟨970, 1130, 1030⟩ 100 500 = 10 from fix_c]
  have s4 : x3.val.heap.size < x4.val.heap.size := by have := x4.is.size; simp at this; omega
  have s41 : x1.val.heap.size < x4.val.heap.size := by omega
  have s42 : x2.val.heap.size < x4.val.heap.size := by omega
  generalize fixV T0.cons T0.rate ⟨970, 1130, 1030⟩ 100 500 = F
  go_wp2_with fail
  refine (to_after (meas_any T0 1000 0 _ (by decide) (by decide))).mono ?_
  rintro e w' ⟨x5, rfl, rfl⟩
  rw [show measV T0.cons T0.rate 1000 0 = 1000 from meas_a]
  have s5 : x4.val.heap.size < x5.val.heap.size := by have := x5.is.size; simp at this; omega
  have s51 : x1.val.heap.size < x5.val.heap.size := by omega
  have s52 : x2.val.heap.size < x5.val.heap.size := by omega
  have s53 : x3.val.heap.size < x5.val.heap.size := by omega
  go_wp2_with fail
  refine (in_after x5 (meas_any T0 1000 (-500) _ (by decide) (by decide))).mono ?_
  rintro e w' ⟨x6, rfl, rfl⟩
  rw [show measV T0.cons T0.rate 1000 (-500) = 971 from meas_b]
  go_wp2_with fail
  refine (in_after x6 (hold_any ⟨1080, 1120, 1030⟩ 1100 1000 _)).mono ?_
  rintro e w' ⟨x7, rfl, rfl⟩
  rw [hold_a]
  go_wp2_with fail
  go_ret
  refine ⟨rfl, ?_⟩
  have b1 := x1.is
  have b2 := b1.trans ((((Below.refl _ _).alloc (Nat.le_refl _) _).trans (x2.is.mono (by simp))).mono b1.size)
  have b3 := b2.trans ((((Below.refl _ _).alloc (Nat.le_refl _) _).trans (x3.is.mono (by simp))).mono b2.size)
  have b4 := b3.trans ((((Below.refl _ _).alloc (Nat.le_refl _) _).trans (x4.is.mono (by simp))).mono b3.size)
  exact b4.trans ((((Below.refl _ _).alloc (Nat.le_refl _) _).trans (x7.is.mono (by simp))).mono b4.size)
theorem lcoord_any (n : Int) (w : World) : Calls Try.prog 12 #[.int .i64 n] w fun e w' => e = .returned (.bool (inB n (-1073741824) 1073741824)) ∧ w = w' := by
  by_cases h1 : -1073741824 ≤ n
  · have HE : Hid (inB n (-1073741824) 1073741824 = decide (n ≤ 1073741824)) := by show _ = _; simp [inB, h1]
    go_enter Try.func12, Try.ntmps12
    go_wp2
    go_ret
    exact ⟨ret_bool HE.out.symm, rfl⟩
  · have h1' : decide (-1073741824 ≤ n) = false := by simpa using h1
    have HE : Hid (inB n (-1073741824) 1073741824 = false) := by show _ = _; simp [inB, h1']
    go_enter Try.func12, Try.ntmps12
    go_wp2
    go_ret
    exact ⟨ret_bool HE.out.symm, rfl⟩
theorem measures_walk (T : Tr) (d s : Int) (w : World) (hs : T.name.size ≤ maxLen) :
    Calls Try.prog 3 #[.agg #[.int .i64 T.id, .string T.name, .int .i64 T.len, .int .i64 T.speed, .int .i64 T.accel, .int .i64 T.service, .int .i64 T.emergency, .int .i64 T.delay, .int .i64 T.cons, .int .i64 T.rate], .int .i64 d, .int .i64 s] w fun e w' => e = .returned (.bool true) ∧ Below w.heap.size w w' := by
  by_cases hk : chkE T = 0
  · have ok := chkE_ok hk
    have hc := ok.cons
    have hr := ok.rate
    have hk' : (chkE T != 0) = false := by simp [hk]
    clear hk ok
    go_enter Try.func3, Try.ntmps3
    go_wp2
    refine wp_region_after (by kernel_rfl) (by kernel_rfl) ?_
    repeat (first | go_big_quiet_step ((first
      | (go_at_call 8; exact after_call _ (rcheck_any T _ hs))
      | (go_at_call 9; exact after_call _ (meas_any T _ _ _ hc hr))
      | (go_at_call 10; exact after_call _ (rmeas_any T _ _ _ hc hr))
      | (go_at_call 11; exact after_call _ (alive_any _)))))
    refine wpQuiet_nil ?_
    rintro _ ⟨y, rfl⟩
    go_wp2
    go_ret
    exact ⟨rfl, ((Below.refl _ _).alloc (Nat.le_refl _) _).trans (y.is.mono (by simp))⟩
  · have hk' : (chkE T != 0) = true := by simp [hk]
    clear hk
    go_enter Try.func3, Try.ntmps3
    go_wp2
    refine wp_region_after (by kernel_rfl) (by kernel_rfl) ?_
    repeat (first | go_big_quiet_step ((first
      | (go_at_call 8; exact after_call _ (rcheck_any T _ hs))
      | (go_at_call 11; exact after_call _ (alive_any _)))))
    refine wpQuiet_nil ?_
    rintro _ ⟨y, rfl⟩
    go_wp2
    go_ret
    exact ⟨rfl, ((Below.refl _ _).alloc (Nat.le_refl _) _).trans (y.is.mono (by simp))⟩
theorem adds_walk (T : Tr) (E : Es) (m : Int) (w : World) (hs : T.name.size ≤ maxLen) :
    Calls Try.prog 5 #[.agg #[.int .i64 T.id, .string T.name, .int .i64 T.len, .int .i64 T.speed, .int .i64 T.accel, .int .i64 T.service, .int .i64 T.emergency, .int .i64 T.delay, .int .i64 T.cons, .int .i64 T.rate], .agg #[.int .i64 E.min, .int .i64 E.max, .int .i64 E.speed], .int .i64 m] w fun e w' => e = .returned (.bool true) ∧ Below w.heap.size w w' := by
  by_cases hk : chkE T = 0
  · have ok := chkE_ok hk
    have hc := ok.cons
    have hr := ok.rate
    have hk' : (chkE T != 0) = false := by simp [hk]
    clear hk ok
    by_cases h1 : inB E.min (-1073741824) 1073741824 = true
    · by_cases h2 : inB E.max (-1073741824) 1073741824 = true
      · have b1 := inB_true.1 h1
        have b2 := inB_true.1 h2
        go_enter Try.func5, Try.ntmps5
        go_wp2_with (first
          | (go_at_call 8; refine (to_after (rcheck_any T _ hs)).mono ?_; rintro e w' ⟨x, rfl, rfl⟩)
          | (go_at_call 12; refine (lcoord_any _ _).mono ?_; rintro e w' ⟨rfl, rfl⟩))
        refine wp_region_in x (by kernel_rfl) (by kernel_rfl) ?_
        repeat (first | go_big_quiet_step ((first
          | (go_at_call 14; exact after_call _ (add_any T E m _ hc hr b1 b2))
          | (go_at_call 15; exact after_call _ (radd_any T E m _ hc hr b1 b2))
          | (go_at_call 11; exact after_call _ (alive_any _)))))
        refine wpQuiet_nil ?_
        rintro _ ⟨y, rfl⟩
        go_wp2
        go_ret
        exact ⟨rfl, (((Below.refl _ _).alloc (Nat.le_refl _) _).alloc (by simp) _).trans (y.is.mono (by simp; omega))⟩
      · have h2' : inB E.max (-1073741824) 1073741824 = false := by simpa using h2
        clear h2
        go_enter Try.func5, Try.ntmps5
        go_wp2_with (first
          | (go_at_call 8; refine (to_after (rcheck_any T _ hs)).mono ?_; rintro e w' ⟨x, rfl, rfl⟩)
          | (go_at_call 11; refine (in_after x (alive_any _)).mono ?_; rintro e w' ⟨y, rfl, rfl⟩)
          | (go_at_call 12; refine (lcoord_any _ _).mono ?_; rintro e w' ⟨rfl, rfl⟩))
        go_ret
        exact ⟨rfl, (((Below.refl _ _).alloc (Nat.le_refl _) _).alloc (by simp) _).trans (y.is.mono (by simp; omega))⟩
    · have h1' : inB E.min (-1073741824) 1073741824 = false := by simpa using h1
      clear h1
      go_enter Try.func5, Try.ntmps5
      go_wp2_with (first
        | (go_at_call 8; refine (to_after (rcheck_any T _ hs)).mono ?_; rintro e w' ⟨x, rfl, rfl⟩)
        | (go_at_call 11; refine (in_after x (alive_any _)).mono ?_; rintro e w' ⟨y, rfl, rfl⟩)
        | (go_at_call 12; refine (lcoord_any _ _).mono ?_; rintro e w' ⟨rfl, rfl⟩))
      go_ret
      exact ⟨rfl, (((Below.refl _ _).alloc (Nat.le_refl _) _).alloc (by simp) _).trans (y.is.mono (by simp; omega))⟩
  · have hk' : (chkE T != 0) = true := by simp [hk]
    clear hk
    go_enter Try.func5, Try.ntmps5
    go_wp2_with (first
      | (go_at_call 8; refine (to_after (rcheck_any T _ hs)).mono ?_; rintro e w' ⟨x, rfl, rfl⟩)
      | (go_at_call 11; refine (in_after x (alive_any _)).mono ?_; rintro e w' ⟨y, rfl, rfl⟩))
    go_ret
    exact ⟨rfl, (((Below.refl _ _).alloc (Nat.le_refl _) _).alloc (by simp) _).trans (y.is.mono (by simp; omega))⟩
theorem fixes_walk (T : Tr) (E : Es) (p0 p1 p2 p3 : Int) (w : World) (hs : T.name.size ≤ maxLen) :
    Calls Try.prog 6 #[.agg #[.int .i64 T.id, .string T.name, .int .i64 T.len, .int .i64 T.speed, .int .i64 T.accel, .int .i64 T.service, .int .i64 T.emergency, .int .i64 T.delay, .int .i64 T.cons, .int .i64 T.rate], .agg #[.int .i64 E.min, .int .i64 E.max, .int .i64 E.speed], .agg #[.int .i64 p0, .int .i64 p1, .int .i64 p2, .int .i64 p3]] w fun e w' => e = .returned (.bool true) ∧ Below w.heap.size w w' := by
  by_cases hk : chkE T = 0
  · have ok := chkE_ok hk
    have hc := ok.cons
    have hr := ok.rate
    have hk' : (chkE T != 0) = false := by simp [hk]
    clear hk ok
    go_enter Try.func6, Try.ntmps6
    go_wp2_with fail
    refine (to_after (rcheck_any T _ hs)).mono ?_
    rintro e w' ⟨x, rfl, rfl⟩
    go_wp2_with fail
    refine (in_after x (fix_any T E _ _ _ hc hr)).mono ?_
    rintro e w' ⟨y, rfl, rfl⟩
    have s1 : w.heap.size + 1 + 1 < y.val.heap.size := by have := y.is.size; simp at this; omega
    have s2 : w.heap.size + 1 < y.val.heap.size := by omega
    have s3 : w.heap.size < y.val.heap.size := by omega
    go_wp2_with fail
    refine (to_after (rfix_any T E _ _ _ hc hr)).mono ?_
    rintro e w' ⟨z, rfl, rfl⟩
    have r0 : y.val.heap.size < z.val.heap.size := by have := z.is.size; simp at this; omega
    have r1 : w.heap.size + 1 + 1 < z.val.heap.size := by omega
    have r2 : w.heap.size + 1 < z.val.heap.size := by omega
    have r3 : w.heap.size < z.val.heap.size := by omega
    go_wp2_with fail
    refine wp_region_after (by kernel_rfl) (by kernel_rfl) ?_
    repeat (first | go_big_quiet_step ((first
      | (go_at_call 18; exact after_call _ (hold_any E _ _ _))
      | (go_at_call 19; exact after_call _ (rhold_any E _ _ _))
      | (go_at_call 11; exact after_call _ (alive_any _)))))
    refine wpQuiet_nil ?_
    rintro _ ⟨v, rfl⟩
    go_wp2
    go_ret
    have b1 := ((((Below.refl _ _).alloc (Nat.le_refl _) _).alloc (by simp) _).alloc (by simp; omega) _).trans (y.is.mono (by simp; omega))
    have b2 := b1.trans ((((Below.refl _ _).alloc (Nat.le_refl _) _).trans (z.is.mono (by simp))).mono b1.size)
    exact ⟨rfl, b2.trans ((((Below.refl _ _).alloc (Nat.le_refl _) _).trans (v.is.mono (by simp))).mono b2.size)⟩
  · have hk' : (chkE T != 0) = true := by simp [hk]
    clear hk
    go_enter Try.func6, Try.ntmps6
    go_wp2_with (first
      | (go_at_call 8; refine (to_after (rcheck_any T _ hs)).mono ?_; rintro e w' ⟨x, rfl, rfl⟩)
      | (go_at_call 11; refine (in_after x (alive_any _)).mono ?_; rintro e w' ⟨y, rfl, rfl⟩))
    go_ret
    exact ⟨rfl, ((((Below.refl _ _).alloc (Nat.le_refl _) _).alloc (by simp) _).alloc (by simp; omega) _).trans (y.is.mono (by simp; omega))⟩
end Go.Proofs.Ytehpeihnaaiknaa
