/- Walks of the laws about package num: each returns true, whatever the numbers. -/
import Derived.Test.YtlnhdhkggiondaaWNum
import Derived.Test.YtlnhdhkggiondaaOpen
namespace Go.Proofs.Ytlnhdhkggiondaa
open Go.ChangeShapes Go.WideShapes Go.ChangeAt Go.RowKit
open Sg
theorem alive_any (w : World) : Calls Try.prog 13 #[] w fun e w' => e = .returned (.bool true) ∧ Below w.heap.size w w' := by
  have f1 : floV (-7) 2 = -4 := by decide
  have f2 : ceiV (-7) 2 = -3 := by decide
  have f3 : divE (-7) 2 = 0 := by decide
  have f4 : clampV 5 1 3 = 3 := by decide
  have f5 : clampV ([9223372036854775807, 1, -2] : List Int).sum (-9223372036854775808) 9223372036854775807 = 9223372036854775806 := by decide
  go_enter Try.func13, Try.ntmps13
  go_wp2_with fail
  refine (floor_any _ _ _ (by omega) (by omega)).mono ?_
  rintro e w' ⟨rfl, rfl⟩
  go_wp2_with fail
  refine (ceil_any _ _ _ (by omega) (by omega)).mono ?_
  rintro e w' ⟨rfl, rfl⟩
  go_wp2_with fail
  refine (root_any _ _ (by omega)).mono ?_
  rintro e w' ⟨r, hr, rfl, rfl⟩
  obtain rfl := root_eq (s := 9) hr (by omega) (by omega) (by omega) (by omega)
  clear hr
  go_wp2_with fail
  refine (clamp_any _ _ _ _).mono ?_
  rintro e w' ⟨rfl, rfl⟩
  go_wp2_with fail
  refine (sum_any _ [9223372036854775807, 1, -2] 3 _ (by simp) ?_ ?_).mono ?_
  · intro _
    refine ⟨_, 0, rfl, by simp, fun k hk => ?_⟩
    have hk3 : k = 0 ∨ k = 1 ∨ k = 2 := by simp at hk; omega
    rcases hk3 with rfl | rfl | rfl <;> simp [go_sem]
  · intro k hk
    have hk3 : k = 0 ∨ k = 1 ∨ k = 2 := by simp at hk; omega
    rcases hk3 with rfl | rfl | rfl <;> simp
  rintro e w' ⟨rfl, rfl⟩
  go_wp2_with fail
  go_ret
  exact ⟨rfl, (Below.refl _ _).alloc (Nat.le_refl _) _⟩

theorem wrap_wrap (a x : Int) : wrap64 (a - wrap64 x) = wrap64 (a - x) := by unfold wrap64; omega
theorem rests_walk (a0 a1 : Int) (w0 : I64 a0) (w1 : I64 a1) (w : World) :
    Calls Try.prog 4 #[.int .i64 a0, .int .i64 a1] w fun e w' => e = .returned (.bool true) ∧ Below w.heap.size w w' := by
  have hx : -9223372036854775808 ≤ a0 ∧ a0 ≤ 9223372036854775807 := w0
  have hy : -9223372036854775808 ≤ a1 ∧ a1 ≤ 9223372036854775807 := w1
  obtain ⟨hx1, hx2⟩ := hx
  obtain ⟨hy1, hy2⟩ := hy
  clear w0 w1
  by_cases hd : divE a0 a1 = 0
  · obtain ⟨hb, h17⟩ := divE_zero hd
    obtain ⟨hr1, hr2, hr3⟩ := flo_rest hd
    obtain ⟨r, hr⟩ : ∃ r, r = a0 - floV a0 a1 * a1 := ⟨_, rfl⟩
    rw [← hr] at hr1 hr2 hr3
    have hrw : wrap64 (a0 - wrap64 (floV a0 a1 * a1)) = r := by rw [wrap_wrap, ← hr]; unfold wrap64; omega
    have hcf : floV a0 a1 ≤ ceiV a0 a1 ∧ ceiV a0 a1 ≤ floV a0 a1 + 1 ∧ (r = 0 → ceiV a0 a1 = floV a0 a1) ∧ (r ≠ 0 → ceiV a0 a1 = floV a0 a1 + 1) := by
      by_cases hm : a0.tmod a1 = 0
      · have h1 := ceiV_zero hd hm; have h2 := floV_zero hd hm; have := hr3.2 hm; omega
      · have h1 := ceiV_up hd hm; have : r ≠ 0 := fun h => hm (hr3.1 h); omega
    obtain ⟨hc1, hc2, hc3, hc4⟩ := hcf
    have e1 : (divE a0 a1 != 0) = false := by simp [hd]
    have e0 : (a1 == 0) = false := by simp [hb]
    obtain ⟨hf1, hf2, hg1, hg2⟩ := floV_bd hx1 hx2 hd
    have e2 : ((r == 0) == (ceiV a0 a1 == floV a0 a1)) = true := by
      by_cases hr0 : r = 0
      · simp [hr0, hc3 hr0]
      · have g1 : (r == 0) = false := by simpa using hr0
        have g2 : (ceiV a0 a1 == floV a0 a1) = false := by have := hc4 hr0; simp; omega
        rw [g1, g2]; rfl
    clear hd hr hr3 hc3 hc4
    have hs : (0 < a1 ∧ 0 ≤ r ∧ r < a1) ∨ (a1 < 0 ∧ a1 < r ∧ r ≤ 0) := by omega
    clear hr1 hr2
    by_cases hm : a0 = -9223372036854775808
    · have e3 : (a0 == -9223372036854775808) = true := by simp [hm]
      have e4 : (a1 == -1) = false := by simp; omega
      clear hm h17 hb
      rcases hs with ⟨hs1, hs2, hs3⟩ | ⟨hs1, hs2, hs3⟩
      all_goals
        go_enter Try.func4, Try.ntmps4
        go_wp2_with (first
          | (go_at_call 9; refine (floor_any _ _ _ (by omega) (by omega)).mono ?_; rintro e w' ⟨rfl, rfl⟩)
          | (go_at_call 11; refine (ceil_any _ _ _ (by omega) (by omega)).mono ?_; rintro e w' ⟨rfl, rfl⟩)
          | (go_at_call 13; refine (alive_any _).mono ?_; rintro e w' ⟨rfl, hb⟩))
        go_ret
        exact ⟨rfl, hb⟩
    · have e3 : (a0 == -9223372036854775808) = false := by simp [hm]
      clear hm h17 hb
      rcases hs with ⟨hs1, hs2, hs3⟩ | ⟨hs1, hs2, hs3⟩
      all_goals
        go_enter Try.func4, Try.ntmps4
        go_wp2_with (first
          | (go_at_call 9; refine (floor_any _ _ _ (by omega) (by omega)).mono ?_; rintro e w' ⟨rfl, rfl⟩)
          | (go_at_call 11; refine (ceil_any _ _ _ (by omega) (by omega)).mono ?_; rintro e w' ⟨rfl, rfl⟩)
          | (go_at_call 13; refine (alive_any _).mono ?_; rintro e w' ⟨rfl, hb⟩))
        go_ret
        exact ⟨rfl, hb⟩
  · have e1 : (divE a0 a1 != 0) = true := by simp [hd]
    have e2 : (floV a0 a1 == 0) = true := by simp [floV_bad hd]
    have e3 : (ceiV a0 a1 == 0) = true := by simp [ceiV_bad hd]
    by_cases hb : a1 = 0
    · have e0 : (a1 == 0) = true := by simp [hb]
      clear hb hd
      go_enter Try.func4, Try.ntmps4
      go_wp2_with (first
        | (go_at_call 9; refine (floor_any _ _ _ (by omega) (by omega)).mono ?_; rintro e w' ⟨rfl, rfl⟩)
        | (go_at_call 11; refine (ceil_any _ _ _ (by omega) (by omega)).mono ?_; rintro e w' ⟨rfl, rfl⟩)
        | (go_at_call 13; refine (alive_any _).mono ?_; rintro e w' ⟨rfl, hb⟩))
      go_ret
      exact ⟨rfl, hb⟩
    · have h17 : a0 = -9223372036854775808 ∧ a1 = -1 := by
        refine Classical.byContradiction fun h => hd ?_
        rw [divE, if_neg hb, if_neg h]
      have e0 : (a1 == 0) = false := by simp [hb]
      have e4 : (a0 == -9223372036854775808) = true := by simp [h17.1]
      have e5 : (a1 == -1) = true := by simp [h17.2]
      clear hb hd h17
      go_enter Try.func4, Try.ntmps4
      go_wp2_with (first
        | (go_at_call 9; refine (floor_any _ _ _ (by omega) (by omega)).mono ?_; rintro e w' ⟨rfl, rfl⟩)
        | (go_at_call 11; refine (ceil_any _ _ _ (by omega) (by omega)).mono ?_; rintro e w' ⟨rfl, rfl⟩)
        | (go_at_call 13; refine (alive_any _).mono ?_; rintro e w' ⟨rfl, hb⟩))
      go_ret
      exact ⟨rfl, hb⟩

theorem roots_walk (n : Int) (w0 : I64 n) (w : World) :
    Calls Try.prog 5 #[.int .i64 n] w fun e w' => e = .returned (.bool true) ∧ Below w.heap.size w w' := by
  have hx : -9223372036854775808 ≤ n ∧ n ≤ 9223372036854775807 := w0
  obtain ⟨hx1, hx2⟩ := hx
  clear w0
  by_cases hn : n < 0
  · go_enter Try.func5, Try.ntmps5
    go_wp2_with fail
    refine (root_any _ _ (by omega)).mono ?_
    rintro e w' ⟨r, ⟨h1, h2, h3, h4⟩, rfl, rfl⟩
    obtain rfl := h3 (by omega)
    clear h3 h4
    go_wp2_with (go_at_call 13; refine (alive_any _).mono ?_; rintro e w' ⟨rfl, hb⟩)
    go_ret
    exact ⟨rfl, hb⟩
  · go_enter Try.func5, Try.ntmps5
    go_wp2_with fail
    refine (root_any _ _ (by omega)).mono ?_
    rintro e w' ⟨r, ⟨h1, h2, h3, h4⟩, rfl, rfl⟩
    have hsq : 0 ≤ r * r ∧ r * r ≤ n ∧ n / (r + 1) < r + 1 := by
      by_cases h0 : n = 0
      · obtain rfl := h3 (by omega)
        subst h0; decide
      · obtain ⟨h5, h6⟩ := h4 (by omega)
        exact ⟨Int.mul_nonneg h1 h1, h5, Int.ediv_lt_of_lt_mul (by omega) h6⟩
    obtain ⟨hs1, hs2, hs3⟩ := hsq
    clear h3 h4
    go_wp2_with (go_at_call 13; refine (alive_any _).mono ?_; rintro e w' ⟨rfl, hb⟩)
    go_ret
    exact ⟨rfl, hb⟩

theorem clamps_walk (a0 a1 a2 : Int) (w : World) :
    Calls Try.prog 6 #[.int .i64 a0, .int .i64 a1, .int .i64 a2] w fun e w' => e = .returned (.bool true) ∧ Below w.heap.size w w' := by
  have hc : clampV a0 a1 a2 = a0 ∨ clampV a0 a1 a2 = a1 ∨ clampV a0 a1 a2 = a2 := by unfold clampV; omega
  have hc' : ((clampV a0 a1 a2 == a0) = true) ∨ ((clampV a0 a1 a2 == a0) = false ∧ (clampV a0 a1 a2 == a1) = true) ∨ ((clampV a0 a1 a2 == a0) = false ∧ (clampV a0 a1 a2 == a1) = false ∧ (clampV a0 a1 a2 == a2) = true) := by
    simp only [beq_iff_eq, beq_eq_false_iff_ne]; omega
  clear hc
  rcases hc' with h1 | ⟨h1, h2⟩ | ⟨h1, h2, h3⟩
  all_goals
    go_enter Try.func6, Try.ntmps6
    go_wp2_with (first
      | (go_at_call 15; refine (clamp_any _ _ _ _).mono ?_; rintro e w' ⟨rfl, rfl⟩)
      | (go_at_call 16; refine (rclamp_any _ _ _ _).mono ?_; rintro e w' ⟨rfl, rfl⟩)
      | (go_at_call 13; refine (alive_any _).mono ?_; rintro e w' ⟨rfl, hb⟩))
    go_ret
    exact ⟨rfl, hb⟩
theorem floors_walk (a0 a1 : Int) (w0 : I64 a0) (w : World) :
    Calls Try.prog 3 #[.int .i64 a0, .int .i64 a1] w fun e w' => e = .returned (.bool true) ∧ Below w.heap.size w w' := by
  have hx : -9223372036854775808 ≤ a0 ∧ a0 ≤ 9223372036854775807 := w0
  obtain ⟨hx1, hx2⟩ := hx
  clear w0
  go_enter Try.func3, Try.ntmps3
  go_wp2_with (first
    | (go_at_call 9; refine (floor_any _ _ _ (by omega) (by omega)).mono ?_; rintro e w' ⟨rfl, rfl⟩)
    | (go_at_call 10; refine (rfloor_any _ _ _ (by omega) (by omega)).mono ?_; rintro e w' ⟨rfl, rfl⟩)
    | (go_at_call 11; refine (ceil_any _ _ _ (by omega) (by omega)).mono ?_; rintro e w' ⟨rfl, rfl⟩)
    | (go_at_call 12; refine (rceil_any _ _ _ (by omega) (by omega)).mono ?_; rintro e w' ⟨rfl, rfl⟩)
    | (go_at_call 13; refine (alive_any _).mono ?_; rintro e w' ⟨rfl, hb⟩))
  go_ret
  exact ⟨rfl, hb⟩
theorem sums_walk (A : Option Addr) (xs : List Int) (cap : Nat) (w : World) (hm : xs.length ≤ maxLen) (hr : RdI w A xs) (hb : ∀ k, k < xs.length → I64 (xs.getD k 0)) :
    Calls Try.prog 7 #[.slice A xs.length cap] w fun e w' => e = .returned (.bool true) ∧ Below w.heap.size w w' := by
  unfold maxLen at hm
  have HB := Lib.hid hb
  have HR := Lib.hid hr
  clear hb hr
  by_cases hl : xs.length ≤ 300
  · have hl' : decide (300 < xs.length) = false := by simpa using hl
    go_enter Try.func7, Try.ntmps7
    go_wp2_with (first
      | (go_at_call 17; refine (sum_any _ _ _ _ hl HR.out HB.out).mono ?_; rintro e w' ⟨rfl, rfl⟩)
      | (go_at_call 18; refine (rsum_any _ _ _ _ hl HR.out HB.out).mono ?_; rintro e w' ⟨rfl, rfl⟩)
      | (go_at_call 13; refine (alive_any _).mono ?_; rintro e w' ⟨rfl, hb⟩))
    go_ret
    exact ⟨rfl, hb⟩
  · have hl' : decide (300 < xs.length) = true := by simpa using hl
    go_enter Try.func7, Try.ntmps7
    go_wp2_with (go_at_call 13; refine (alive_any _).mono ?_; rintro e w' ⟨rfl, hb⟩)
    go_ret
    exact ⟨rfl, hb⟩
theorem int_info : (Try.prog.info? 3).map (fun i => (i.zero, i.size, i.bytes)) = some (some (.int .i64 0), 1, 8) := by kernel_rfl
theorem sum_n (A : Option Addr) (xs : List Int) (n cap : Nat) (w : World) (hn : xs.length = n) (hl : xs.length ≤ 300) (hr : RdI w A xs) (hb : ∀ k, k < xs.length → -9223372036854775808 ≤ xs.getD k 0 ∧ xs.getD k 0 ≤ 9223372036854775807) :
    Calls Try.prog 17 #[.slice A n cap] w fun e w' => e = .returned (.int .i64 (clampV xs.sum (-9223372036854775808) 9223372036854775807)) ∧ w = w' := by
  subst hn; exact sum_any A xs cap w hl hr hb
theorem all_i64 {xs ys : List Int} (h : ∀ k, k < xs.length → I64 (xs.getD k 0)) (hs : ∀ y ∈ ys, ∃ k, k < xs.length ∧ y = xs.getD k 0) : ∀ k, k < ys.length → -9223372036854775808 ≤ ys.getD k 0 ∧ ys.getD k 0 ≤ 9223372036854775807 := by
  intro k hk
  rw [List.getD_eq_getElem?_getD, List.getElem?_eq_getElem hk]
  obtain ⟨j, hj, e⟩ := hs ys[k] (List.getElem_mem _)
  simp only [Option.getD_some]
  rw [e]; exact h j hj
theorem backL_mem (xs : List Int) (k : Nat) (h : k ≤ xs.length) : ∀ y ∈ backL xs k, ∃ j, j < xs.length ∧ y = xs.getD j 0 := by
  intro y hy
  simp only [backL, List.mem_map, List.mem_range] at hy
  obtain ⟨i, hi, rfl⟩ := hy
  exact ⟨xs.length - 1 - i, by omega, rfl⟩
theorem turnL_mem (xs : List Int) (a k : Nat) (h : k ≤ xs.length) : ∀ y ∈ turnL xs a k, ∃ j, j < xs.length ∧ y = xs.getD j 0 := by
  intro y hy
  simp only [turnL, List.mem_map, List.mem_range] at hy
  obtain ⟨i, hi, rfl⟩ := hy
  exact ⟨(i + a) % xs.length, Nat.mod_lt _ (by omega), rfl⟩
def OrdRel (B : Nat) (w0 : World) (xs : List Int) (a k : Nat) (vb vt : Value) (wr : World) : Prop :=
  wr.ownsRow B 3 1 vb k ((backL xs k).map (Value.int .i64)) ∧ wr.ownsRow B 3 1 vt k ((turnL xs a k).map (Value.int .i64)) ∧ Apart vb vt ∧ Below B w0 wr
set_option maxHeartbeats 1000000 in
theorem orders_walk (A : Option Addr) (xs : List Int) (cap : Nat) (n : Int) (w : World) (hm : xs.length ≤ maxLen) (hr : RdI w A xs) (hb : ∀ k, k < xs.length → I64 (xs.getD k 0)) :
    Calls Try.prog 8 #[.slice A xs.length cap, .int .i64 n] w fun e w' => e = .returned (.bool true) ∧ Below w.heap.size w w' := by
  unfold maxLen at hm
  have HB := Lib.hid hb
  have HR := Lib.hid hr
  clear hb hr
  by_cases hl : xs.length ≤ 300 ∧ 0 < xs.length
  · obtain ⟨hl1, hl2⟩ := hl
    have hl' : decide (300 < xs.length) = false := by simpa using hl1
    have hl3 : ((xs.length : Int) == 0) = false := beq_eq_false_iff_ne.2 (by omega)
    obtain ⟨i0, hi, hz0, hz1, hz2⟩ := info_parts int_info
    obtain ⟨b, off, rfl, hbs, hc⟩ := HR.out hl2
    have HC := Lib.hid hc
    clear hc
    obtain ⟨m, hm', hm0⟩ : ∃ m, bits .and .i64 n 1023 = m ∧ m = n % 1024 := ⟨_, rfl, i64_and10 n⟩
    have hm1 : 0 ≤ m := by omega
    have hm2 : m ≤ 1023 := by omega
    clear hm0
    obtain ⟨a, ha⟩ : ∃ a : Nat, (a : Int) = m % xs.length := ⟨(m % xs.length).toNat, by have := Int.emod_nonneg m (show (xs.length : Int) ≠ 0 by omega); omega⟩
    have ha1 : a < xs.length := by have := Int.emod_lt_of_pos m (show (0 : Int) < xs.length by omega); omega
    have ha' := ha.symm
    clear ha
    go_enter Try.func8, Try.ntmps8
    go_wp2
    simp only [ha']
    have HAA := Lib.hid ha'
    clear ha'
    go_loopg [5, 6, 30] xs.length (fun g vb vt i wr => ∃ k : Nat, k ≤ xs.length ∧ g = xs.length - k ∧ i = .int .i64 k ∧ OrdRel w.heap.size w xs a k vb vt wr)
    case atStart => exact ⟨0, by omega, by omega, rfl, World.ownsRow_nil _ _ _ _, World.ownsRow_nil _ _ _ _, .inl rfl, Below.refl _ _⟩
    case round =>
      obtain ⟨k, hk, hg, rfl, hO⟩ := hrel
      have HG := Lib.hid hg
      have HO := Lib.hid hO
      clear hg hO
      by_cases hlt : k < xs.length
      · obtain ⟨x, hx⟩ : ∃ x, x = xs.getD (xs.length - 1 - k) 0 := ⟨_, rfl⟩
        obtain ⟨y, hy⟩ : ∃ y, y = xs.getD ((k + a) % xs.length) 0 := ⟨_, rfl⟩
        obtain ⟨q, hq⟩ : ∃ q, q = (k + a) % xs.length := ⟨_, rfl⟩
        have hmod : q < xs.length := by rw [hq]; exact Nat.mod_lt _ hl2
        have hqi : ((k : Int) + (a : Int)) % (xs.length : Int) = (q : Int) := by rw [hq]; simp
        rw [← hq] at hy
        have HQ := Lib.hid hq
        clear hq
        have hbw := HO.out.2.2.2
        have hsz := hbw.size
        have c1 : wr.cell? ⟨b, off + (xs.length - 1 - k), none⟩ = some (.int .i64 x) := by rw [hbw.cell (p := ⟨b, off + (xs.length - 1 - k), none⟩) hbs, hx]; exact HC.out _ (by omega)
        have c2 : w.cell? ⟨b, off + q, none⟩ = some (.int .i64 y) := by rw [hy]; exact HC.out _ hmod
        have HX := Lib.hid hx
        have HY := Lib.hid hy
        have HW := Lib.hid hbw
        have hown1 := HO.out.1
        have hown2 := HO.out.2.1
        clear hx hy hbw
        go_wp2_with (first
          | (at_builtin
             refine wpList_append_own_at _ rfl (.tmp 33) (.tmp 42) 31 rfl w.heap.size 3 i0 (.int .i64 0) 1 8 Try.underlying31 hi hz0 hz1 hz2 rfl (by decide) u5 k _ rfl (hown1.alloc _) ⟨wr.heap.size, 0, none⟩ 1 1 [.int .i64 x] rfl rfl (cell_one_new _ _ _) (by simp [Value.oneCell']) (by simp only [maxLen]; omega) (by omega) (by simp; omega) ?_
             intro v1 w1 hv1 hg1 _ hat1
             have hb1 := below_app rfl HW.out hsz hown1 hg1
             obtain ⟨hu1, hap1⟩ := other_kept rfl hown2 HO.out.2.2.1 hg1 hat1 hv1
             have c3 : w1.cell? ⟨b, off + q, none⟩ = some (.int .i64 y) := (hb1.cell (p := ⟨b, off + q, none⟩) hbs).trans c2
             have hsz1 := hb1.size
             have HV := Lib.hid hv1
             have HB1 := Lib.hid hb1
             have HA1 := Lib.hid hap1
             clear hv1 hb1 hap1 hg1 hat1)
          | (at_builtin
             refine wpList_append_own_at _ rfl (.tmp 44) (.tmp 54) 31 rfl w.heap.size 3 i0 (.int .i64 0) 1 8 Try.underlying31 hi hz0 hz1 hz2 rfl (by decide) u6 k _ rfl (hu1.alloc _) ⟨w1.heap.size, 0, none⟩ 1 1 [.int .i64 y] rfl rfl (cell_one_new _ _ _) (by simp [Value.oneCell']) (by simp only [maxLen]; omega) (by omega) (by simp; omega) ?_
             intro v2 w2 hv2 hg2 _ hat2
             have hb2 := below_app rfl HB1.out hsz1 hu1 hg2
             obtain ⟨hv3, hap2⟩ := other_kept rfl HV.out HA1.out.symm hg2 hat2 hv2
             have HV2 := Lib.hid hv2
             have HV3 := Lib.hid hv3
             have HB2 := Lib.hid hb2
             have HA2 := Lib.hid hap2
             clear hv2 hv3 hb2 hap2 hg2 hat2))
        go_roundg (xs.length - (k + 1))
        case measure => have := HG.out; omega
        case rel => exact ⟨k + 1, by omega, rfl, by go_num, by rw [backL_succ, List.map_append, ← HX.out]; exact HV3.out, by rw [turnL_succ, List.map_append, ← HQ.out, ← HY.out]; exact HV2.out, HA2.out.symm, HB2.out⟩
      · obtain rfl : k = xs.length := by omega
        obtain ⟨h1, h2, h3, h4⟩ := HO.out
        obtain ⟨A1, n1, c1, rfl, hr1⟩ : ∃ A1 n1 c1, u5 = .slice A1 n1 c1 ∧ n1 = xs.length := by
          rcases h1.2 with ⟨e, e2⟩ | ⟨g, c, cur, e, _⟩
          · exact ⟨_, _, _, e, e2.symm⟩
          · exact ⟨_, _, _, e, rfl⟩
        obtain ⟨A2, n2, c2, rfl, hr2⟩ : ∃ A1 n1 c1, u6 = .slice A1 n1 c1 ∧ n1 = xs.length := by
          rcases h2.2 with ⟨e, e2⟩ | ⟨g, c, cur, e, _⟩
          · exact ⟨_, _, _, e, e2.symm⟩
          · exact ⟨_, _, _, e, rfl⟩
        subst hr1 hr2
        have R1 := Lib.hid (RdI_own h1)
        have R2 := Lib.hid (RdI_own h2)
        have R0 := Lib.hid (HR.out.below h4 (Nat.le_refl _))
        have HW := Lib.hid h4
        clear h1 h2 h3 h4
        go_wp2_with fail
        refine (sum_any _ _ _ _ hl1 R0.out HB.out).mono ?_
        rintro e w' ⟨rfl, rfl⟩
        go_wp2_with fail
        refine (sum_n _ (backL xs xs.length) _ _ _ (backL_len _ _) (by rw [backL_len]; exact hl1) R1.out (all_i64 HB.out (backL_mem _ _ (Nat.le_refl _)))).mono ?_
        rintro e w' ⟨rfl, rfl⟩
        rw [backL_sum]
        go_wp2_with fail
        refine (sum_n _ (turnL xs a xs.length) _ _ _ (turnL_len _ _ _) (by rw [turnL_len]; exact hl1) R2.out (all_i64 HB.out (turnL_mem _ _ _ (Nat.le_refl _)))).mono ?_
        rintro e w' ⟨rfl, rfl⟩
        rw [turnL_sum _ _ ha1]
        go_wp2_with fail
        refine (alive_any _).mono ?_
        rintro e w' ⟨rfl, hb2⟩
        have HB2 := Lib.hid (HW.out.trans (hb2.mono HW.out.size))
        clear hb2
        go_wp2_with fail
        go_ret
        exact ⟨rfl, HB2.out⟩
  · have hz : clampV ([] : List Int).sum (-9223372036854775808) 9223372036854775807 = 0 := by decide
    by_cases hl3 : xs.length ≤ 300
    · have hl0 : xs.length = 0 := by omega
      have hl' : decide (300 < xs.length) = false := by simpa using hl3
      have hl4 : ((xs.length : Int) == 0) = true := beq_iff_eq.2 (by omega)
      clear hl hl0
      go_enter Try.func8, Try.ntmps8
      go_wp2_with (first
        | (go_at_call 17; refine (sum_n _ [] 0 _ _ rfl (by simp) RdI.nil (by simp)).mono ?_; rintro e w' ⟨rfl, rfl⟩; rw [hz])
        | (go_at_call 13; refine (alive_any _).mono ?_; rintro e w' ⟨rfl, hb⟩))
      go_ret
      exact ⟨rfl, hb⟩
    · have hl' : decide (300 < xs.length) = true := by simpa using hl3
      clear hl
      go_enter Try.func8, Try.ntmps8
      go_wp2_with (first
        | (go_at_call 17; refine (sum_n _ [] 0 _ _ rfl (by simp) RdI.nil (by simp)).mono ?_; rintro e w' ⟨rfl, rfl⟩; rw [hz])
        | (go_at_call 13; refine (alive_any _).mono ?_; rintro e w' ⟨rfl, hb⟩))
      go_ret
      exact ⟨rfl, hb⟩
end Go.Proofs.Ytlnhdhkggiondaa
