/- Walks of the laws about package num: each returns true, whatever the numbers. -/
import Derived.Test.YtlnhdhkggiondaaWNum
import Derived.Test.YtlnhdhkggiondaaOpen
namespace Go.Proofs.Ytlnhdhkggiondaa
open Go.ChangeShapes Go.WideShapes Go.ChangeAt Go.RowKit
open Sg
theorem alive_any (w : World) : Calls Try.prog 13 #[] w fun e w' => e = .returned (.bool true) ∧ Below w.heap.size w w' := by
  have f1 : floV (-7) 2 = -4 := by decide
  have f2 : ceiV (-7) 2 = -3 := by decide
  have f3 : divE (-7) 2 = 0 := by decide
  have f4 : clampV 5 1 3 = 3 := by decide
  have f5 : clampV ([9223372036854775807, 1, -2] : List Int).sum (-9223372036854775808) 9223372036854775807 = 9223372036854775806 := by decide
  go_enter Try.func13, Try.ntmps13
  go_wp2_with fail
  refine (floor_any _ _ _ (by omega) (by omega)).mono ?_
  rintro e w' ⟨rfl, rfl⟩
  go_wp2_with fail
  refine (ceil_any _ _ _ (by omega) (by omega)).mono ?_
  rintro e w' ⟨rfl, rfl⟩
  go_wp2_with fail
  refine (root_any _ _ (by omega)).mono ?_
  rintro e w' ⟨r, hr, rfl, rfl⟩
  obtain rfl := root_eq (s := 9) hr (by omega) (by omega) (by omega) (by omega)
  clear hr
  go_wp2_with fail
  refine (clamp_any _ _ _ _).mono ?_
  rintro e w' ⟨rfl, rfl⟩
  go_wp2_with fail
  refine (sum_any _ [9223372036854775807, 1, -2] 3 _ (by simp) ?_ ?_).mono ?_
  · intro _
    refine ⟨_, 0, rfl, by simp, fun k hk => ?_⟩
    have hk3 : k = 0 ∨ k = 1 ∨ k = 2 := by simp at hk; omega
    rcases hk3 with rfl | rfl | rfl <;> simp [go_sem]
  · intro k hk
    have hk3 : k = 0 ∨ k = 1 ∨ k = 2 := by simp at hk; omega
    rcases hk3 with rfl | rfl | rfl <;> simp
  rintro e w' ⟨rfl, rfl⟩
  go_wp2_with fail
  go_ret
  exact ⟨rfl, (Below.refl _ _).alloc (Nat.le_refl _) _⟩

theorem wrap_wrap (a x : Int) : wrap64 (a - wrap64 x) = wrap64 (a - x) := by unfold wrap64; omega
theorem rests_walk (a0 a1 : Int) (w0 : I64 a0) (w1 : I64 a1) (w : World) :
    Calls Try.prog 4 #[.int .i64 a0, .int .i64 a1] w fun e w' => e = .returned (.bool true) ∧ Below w.heap.size w w' := by
  have hx : -9223372036854775808 ≤ a0 ∧ a0 ≤ 9223372036854775807 := w0
  have hy : -9223372036854775808 ≤ a1 ∧ a1 ≤ 9223372036854775807 := w1
  obtain ⟨hx1, hx2⟩ := hx
  obtain ⟨hy1, hy2⟩ := hy
  clear w0 w1
  by_cases hd : divE a0 a1 = 0
  · obtain ⟨hb, h17⟩ := divE_zero hd
    obtain ⟨hr1, hr2, hr3⟩ := flo_rest hd
    obtain ⟨r, hr⟩ : ∃ r, r = a0 - floV a0 a1 * a1 := ⟨_, rfl⟩
    rw [← hr] at hr1 hr2 hr3
    have hrw : wrap64 (a0 - wrap64 (floV a0 a1 * a1)) = r := by rw [wrap_wrap, ← hr]; unfold wrap64; omega
    have hcf : floV a0 a1 ≤ ceiV a0 a1 ∧ ceiV a0 a1 ≤ floV a0 a1 + 1 ∧ (r = 0 → ceiV a0 a1 = floV a0 a1) ∧ (r ≠ 0 → ceiV a0 a1 = floV a0 a1 + 1) := by
      by_cases hm : a0.tmod a1 = 0
      · have h1 := ceiV_zero hd hm; have h2 := floV_zero hd hm; have := hr3.2 hm; omega
      · have h1 := ceiV_up hd hm; have : r ≠ 0 := fun h => hm (hr3.1 h); omega
    obtain ⟨hc1, hc2, hc3, hc4⟩ := hcf
    have e1 : (divE a0 a1 != 0) = false := by simp [hd]
    have e0 : (a1 == 0) = false := by simp [hb]
    obtain ⟨hf1, hf2, hg1, hg2⟩ := floV_bd hx1 hx2 hd
    have e2 : ((r == 0) == (ceiV a0 a1 == floV a0 a1)) = true := by
      by_cases hr0 : r = 0
      · simp [hr0, hc3 hr0]
      · have g1 : (r == 0) = false := by simpa using hr0
        have g2 : (ceiV a0 a1 == floV a0 a1) = false := by have := hc4 hr0; simp; omega
        rw [g1, g2]; rfl
    clear hd hr hr3 hc3 hc4
    have hs : (0 < a1 ∧ 0 ≤ r ∧ r < a1) ∨ (a1 < 0 ∧ a1 < r ∧ r ≤ 0) := by omega
    clear hr1 hr2
    by_cases hm : a0 = -9223372036854775808
    · have e3 : (a0 == -9223372036854775808) = true := by simp [hm]
      have e4 : (a1 == -1) = false := by simp; omega
      clear hm h17 hb
      rcases hs with ⟨hs1, hs2, hs3⟩ | ⟨hs1, hs2, hs3⟩
      all_goals
        go_enter Try.func4, Try.ntmps4
        go_wp2_with (first
          | (go_at_call 9; refine (floor_any _ _ _ (by omega) (by omega)).mono ?_; rintro e w' ⟨rfl, rfl⟩)
          | (go_at_call 11; refine (ceil_any _ _ _ (by omega) (by omega)).mono ?_; rintro e w' ⟨rfl, rfl⟩)
          | (go_at_call 13; refine (alive_any _).mono ?_; rintro e w' ⟨rfl, hb⟩))
        go_ret
        exact ⟨rfl, hb⟩
    · have e3 : (a0 == -9223372036854775808) = false := by simp [hm]
      clear hm h17 hb
      rcases hs with ⟨hs1, hs2, hs3⟩ | ⟨hs1, hs2, hs3⟩
      all_goals
        go_enter Try.func4, Try.ntmps4
        go_wp2_with (first
          | (go_at_call 9; refine (floor_any _ _ _ (by omega) (by omega)).mono ?_; rintro e w' ⟨rfl, rfl⟩)
          | (go_at_call 11; refine (ceil_any _ _ _ (by omega) (by omega)).mono ?_; rintro e w' ⟨rfl, rfl⟩)
          | (go_at_call 13; refine (alive_any _).mono ?_; rintro e w' ⟨rfl, hb⟩))
        go_ret
        exact ⟨rfl, hb⟩
  · have e1 : (divE a0 a1 != 0) = true := by simp [hd]
    have e2 : (floV a0 a1 == 0) = true := by simp [floV_bad hd]
    have e3 : (ceiV a0 a1 == 0) = true := by simp [ceiV_bad hd]
    by_cases hb : a1 = 0
    · have e0 : (a1 == 0) = true := by simp [hb]
      clear hb hd
      go_enter Try.func4, Try.ntmps4
      go_wp2_with (first
        | (go_at_call 9; refine (floor_any _ _ _ (by omega) (by omega)).mono ?_; rintro e w' ⟨rfl, rfl⟩)
        | (go_at_call 11; refine (ceil_any _ _ _ (by omega) (by omega)).mono ?_; rintro e w' ⟨rfl, rfl⟩)
        | (go_at_call 13; refine (alive_any _).mono ?_; rintro e w' ⟨rfl, hb⟩))
      go_ret
      exact ⟨rfl, hb⟩
    · have h17 : a0 = -9223372036854775808 ∧ a1 = -1 := by
        refine Classical.byContradiction fun h => hd ?_
        rw [divE, if_neg hb, if_neg h]
      have e0 : (a1 == 0) = false := by simp [hb]
      have e4 : (a0 == -9223372036854775808) = true := by simp [h17.1]
      have e5 : (a1 == -1) = true := by simp [h17.2]
      clear hb hd h17
      go_enter Try.func4, Try.ntmps4
      go_wp2_with (first
        | (go_at_call 9; refine (floor_any _ _ _ (by omega) (by omega)).mono ?_; rintro e w' ⟨rfl, rfl⟩)
        | (go_at_call 11; refine (ceil_any _ _ _ (by omega) (by omega)).mono ?_; rintro e w' ⟨rfl, rfl⟩)
        | (go_at_call 13; refine (alive_any _).mono ?_; rintro e w' ⟨rfl, hb⟩))
      go_ret
      exact ⟨rfl, hb⟩

theorem roots_walk (n : Int) (w0 : I64 n) (w : World) :
    Calls Try.prog 5 #[.int .i64 n] w fun e w' => e = .returned (.bool true) ∧ Below w.heap.size w w' := by
  have hx : -9223372036854775808 ≤ n ∧ n ≤ 9223372036854775807 := w0
  obtain ⟨hx1, hx2⟩ := hx
  clear w0
  by_cases hn : n < 0
  · go_enter Try.func5, Try.ntmps5
    go_wp2_with fail
    refine (root_any _ _ (by omega)).mono ?_
    rintro e w' ⟨r, ⟨h1, h2, h3, h4⟩, rfl, rfl⟩
    obtain rfl := h3 (by omega)
    clear h3 h4
    go_wp2_with (go_at_call 13; refine (alive_any _).mono ?_; rintro e w' ⟨rfl, hb⟩)
    go_ret
    exact ⟨rfl, hb⟩
  · go_enter Try.func5, Try.ntmps5
    go_wp2_with fail
    refine (root_any _ _ (by omega)).mono ?_
    rintro e w' ⟨r, ⟨h1, h2, h3, h4⟩, rfl, rfl⟩
    have hsq : 0 ≤ r * r ∧ r * r ≤ n ∧ n / (r + 1) < r + 1 := by
      by_cases h0 : n = 0
      · obtain rfl := h3 (by omega)
        subst h0; decide
      · obtain ⟨h5, h6⟩ := h4 (by omega)
        exact ⟨Int.mul_nonneg h1 h1, h5, Int.ediv_lt_of_lt_mul (by omega) h6⟩
    obtain ⟨hs1, hs2, hs3⟩ := hsq
    clear h3 h4
    go_wp2_with (go_at_call 13; refine (alive_any _).mono ?_; rintro e w' ⟨rfl, hb⟩)
    go_ret
    exact ⟨rfl, hb⟩

theorem clamps_walk (a0 a1 a2 : Int) (w : World) :
    Calls Try.prog 6 #[.int .i64 a0, .int .i64 a1, .int .i64 a2] w fun e w' => e = .returned (.bool true) ∧ Below w.heap.size w w' := by
  have hc : clampV a0 a1 a2 = a0 ∨ clampV a0 a1 a2 = a1 ∨ clampV a0 a1 a2 = a2 := by unfold clampV; omega
  have hc' : ((clampV a0 a1 a2 == a0) = true) ∨ ((clampV a0 a1 a2 == a0) = false ∧ (clampV a0 a1 a2 == a1) = true) ∨ ((clampV a0 a1 a2 == a0) = false ∧ (clampV a0 a1 a2 == a1) = false ∧ (clampV a0 a1 a2 == a2) = true) := by
    simp only [beq_iff_eq, beq_eq_false_iff_ne]; omega
  clear hc
  rcases hc' with h1 | ⟨h1, h2⟩ | ⟨h1, h2, h3⟩
  all_goals
    go_enter Try.func6, Try.ntmps6
    go_wp2_with (first
      | (go_at_call 15; refine (clamp_any _ _ _ _).mono ?_; rintro e w' ⟨rfl, rfl⟩)
      | (go_at_call 16; refine (rclamp_any _ _ _ _).mono ?_; rintro e w' ⟨rfl, rfl⟩)
      | (go_at_call 13; refine (alive_any _).mono ?_; rintro e w' ⟨rfl, hb⟩))
    go_ret
    exact ⟨rfl, hb⟩
theorem floors_walk (a0 a1 : Int) (w0 : I64 a0) (w : World) :
    Calls Try.prog 3 #[.int .i64 a0, .int .i64 a1] w fun e w' => e = .returned (.bool true) ∧ Below w.heap.size w w' := by
  have hx : -9223372036854775808 ≤ a0 ∧ a0 ≤ 9223372036854775807 := w0
  obtain ⟨hx1, hx2⟩ := hx
  clear w0
  go_enter Try.func3, Try.ntmps3
  go_wp2_with (first
    | (go_at_call 9; refine (floor_any _ _ _ (by omega) (by omega)).mono ?_; rintro e w' ⟨rfl, rfl⟩)
    | (go_at_call 10; refine (rfloor_any _ _ _ (by omega) (by omega)).mono ?_; rintro e w' ⟨rfl, rfl⟩)
    | (go_at_call 11; refine (ceil_any _ _ _ (by omega) (by omega)).mono ?_; rintro e w' ⟨rfl, rfl⟩)
    | (go_at_call 12; refine (rceil_any _ _ _ (by omega) (by omega)).mono ?_; rintro e w' ⟨rfl, rfl⟩)
    | (go_at_call 13; refine (alive_any _).mono ?_; rintro e w' ⟨rfl, hb⟩))
  go_ret
  exact ⟨rfl, hb⟩
theorem sums_walk (A : Option Addr) (xs : List Int) (cap : Nat) (w : World) (hm : xs.length ≤ 9223372036854775807) (hr : RdI w A xs) (hb : ∀ k, k < xs.length → I64 (xs.getD k 0)) :
    Calls Try.prog 7 #[.slice A xs.length cap] w fun e w' => e = .returned (.bool true) ∧ Below w.heap.size w w' := by
  have HB := Lib.hid hb
  have HR := Lib.hid hr
  clear hb hr
  by_cases hl : xs.length ≤ 300
  · have hl' : decide (300 < xs.length) = false := by simpa using hl
    go_enter Try.func7, Try.ntmps7
    go_wp2_with (first
      | (go_at_call 17; refine (sum_any _ _ _ _ hl HR.out HB.out).mono ?_; rintro e w' ⟨rfl, rfl⟩)
      | (go_at_call 18; refine (rsum_any _ _ _ _ hl HR.out HB.out).mono ?_; rintro e w' ⟨rfl, rfl⟩)
      | (go_at_call 13; refine (alive_any _).mono ?_; rintro e w' ⟨rfl, hb⟩))
    go_ret
    exact ⟨rfl, hb⟩
  · have hl' : decide (300 < xs.length) = true := by simpa using hl
    go_enter Try.func7, Try.ntmps7
    go_wp2_with (go_at_call 13; refine (alive_any _).mono ?_; rintro e w' ⟨rfl, hb⟩)
    go_ret
    exact ⟨rfl, hb⟩
end Go.Proofs.Ytlnhdhkggiondaa
