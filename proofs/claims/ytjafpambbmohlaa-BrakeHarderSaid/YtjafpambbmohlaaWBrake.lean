/- Walks of package brake (and of its reference): what each function returns. -/
import Derived.Test.YtjafpambbmohlaaWNum
import Derived.Test.YtjafpambbmohlaaPBrake
import Derived.WalkMore
import Derived.ScopeJumps
set_option linter.unusedVariables false
set_option linter.unusedSimpArgs false
namespace Go.Proofs.Ytjafpambbmohlaa
open Go.ChangeShapes Go.WideShapes Go.ChangeAt Go.RowKit
open Sg
def intOf : Value → Int | .int _ q => q | _ => 0

theorem limited29_any (n lo hi : Int) (w : World) (h : lo ≤ hi) : Calls Try.prog 21 #[.int .i64 n, .int .i64 lo, .int .i64 hi] w fun e w' => e = .returned (.int .i64 (clampV n lo hi)) ∧ w = w' := by
  go_enter Try.func21, Try.ntmps21
  go_wp2
  all_goals go_ret
  all_goals refine ⟨ret_int ?_, rfl⟩
  all_goals unfold clampV
  all_goals omega
theorem eff_any (dec grade : Int) (w : World) : Calls Try.prog 9 #[.int .i64 dec, .int .i64 grade] w fun e w' => e = .returned (.int .i64 (effV dec grade)) ∧ w = w' := by
  obtain ⟨h1, h2⟩ := @clampV_le dec 0 200 (by omega)
  obtain ⟨h3, h4⟩ := @clampV_le grade (-1000) 1000 (by omega)
  have hf : -981 ≤ floV (981 * clampV grade (-1000) 1000) 1000 ∧ floV (981 * clampV grade (-1000) 1000) 1000 ≤ 981 := by rw [floV_pos (by omega)]; omega
  obtain ⟨h5, h6⟩ := hf
  have HE := Lib.hid (effV_flo dec grade)
  go_enter Try.func9, Try.ntmps9
  go_wp2_with (first
    | (go_at_call 19; refine (clamp_any _ _ _ _).mono ?_; rintro e w' ⟨rfl, rfl⟩)
    | (go_at_call 20; refine (floor_any _ _ _ (by omega) (by omega)).mono ?_; rintro e w' ⟨rfl, rfl⟩))
  all_goals go_ret
  all_goals exact ⟨ret_int (by rw [HE.out]; omega), rfl⟩
theorem reff_any (dec grade : Int) (w : World) : Calls Try.prog 10 #[.int .i64 dec, .int .i64 grade] w fun e w' => e = .returned (.int .i64 (effV dec grade)) ∧ w = w' := by
  obtain ⟨h1, h2⟩ := @clampV_le dec 0 200 (by omega)
  obtain ⟨h3, h4⟩ := @clampV_le grade (-1000) 1000 (by omega)
  obtain ⟨q, hq⟩ : ∃ q, q = (981 * clampV grade (-1000) 1000).tdiv 1000 := ⟨_, rfl⟩
  obtain ⟨r, hr⟩ : ∃ r, r = (981 * clampV grade (-1000) 1000).tmod 1000 := ⟨_, rfl⟩
  have hqr : 1000 * q + r = 981 * clampV grade (-1000) 1000 := by rw [hq, hr]; exact Int.mul_tdiv_add_tmod _ _
  have hr1 : 0 ≤ 981 * clampV grade (-1000) 1000 → 0 ≤ r ∧ r < 1000 := fun h => by rw [hr]; exact ⟨Int.tmod_nonneg _ h, Int.tmod_lt_of_pos _ (by omega)⟩
  have hr2 : 981 * clampV grade (-1000) 1000 < 0 → r ≤ 0 ∧ -1000 < r := fun h => by
    have e : r = - (-(981 * clampV grade (-1000) 1000)).tmod 1000 := by rw [hr, Int.neg_tmod]; omega
    have := Int.tmod_nonneg 1000 (show 0 ≤ -(981 * clampV grade (-1000) 1000) by omega)
    have := Int.tmod_lt_of_pos (-(981 * clampV grade (-1000) 1000)) (show (0:Int) < 1000 by omega)
    omega
  have HE : Hid (effV dec grade = max (clampV dec 0 200 + (981 * clampV grade (-1000) 1000) / 1000) 0) := rfl
  have hb1 : -982 ≤ (981 * clampV grade (-1000) 1000).tdiv 1000 := by rw [← hq]; omega
  have hb2 : (981 * clampV grade (-1000) 1000).tdiv 1000 ≤ 982 := by rw [← hq]; omega
  by_cases hz : r = 0
  · have hz' : ((981 * clampV grade (-1000) 1000).tmod 1000 != 0) = false := by rw [← hr, hz]; rfl
    have HQ : Hid (q = 981 * clampV grade (-1000) 1000 / 1000 ∧ q = (981 * clampV grade (-1000) 1000).tdiv 1000) := ⟨by omega, hq⟩
    clear hq hr hz
    go_enter Try.func10, Try.ntmps10
    go_wp2_with (first
      | (go_at_call 21; refine (limited29_any _ _ _ _ (by omega)).mono ?_; rintro e w' ⟨rfl, rfl⟩))
    all_goals go_ret
    all_goals exact ⟨ret_int (by have := HQ.out; rw [HE.out]; omega), rfl⟩
  · have hz' : ((981 * clampV grade (-1000) 1000).tmod 1000 != 0) = true := by rw [← hr]; simpa using hz
    have HQ : Hid (q = (981 * clampV grade (-1000) 1000).tdiv 1000 ∧ (981 * clampV grade (-1000) 1000 < 0 → q - 1 = 981 * clampV grade (-1000) 1000 / 1000) ∧ (0 ≤ 981 * clampV grade (-1000) 1000 → q = 981 * clampV grade (-1000) 1000 / 1000)) := ⟨hq, by omega, by omega⟩
    clear hq hr hz
    go_enter Try.func10, Try.ntmps10
    go_wp2_with (first
      | (go_at_call 21; refine (limited29_any _ _ _ _ (by omega)).mono ?_; rintro e w' ⟨rfl, rfl⟩))
    all_goals go_ret
    all_goals exact ⟨ret_int (by have := HQ.out; rw [HE.out]; omega), rfl⟩
theorem bounds_any (v delay : Int) (w : World) : Calls Try.prog 22 #[.int .i64 v, .int .i64 delay] w fun e w' => e = .returned (.tuple #[.int .i64 (stV v), .int .i64 (wtV delay)]) ∧ w = w' := by
  go_enter Try.func22, Try.ntmps22
  go_wp2_with (go_at_call 19; refine (clamp_any _ _ _ _).mono ?_; rintro e w' ⟨rfl, rfl⟩)
  all_goals go_ret2
  all_goals exact ⟨ret_int2 (by unfold stV; omega) rfl, rfl⟩
theorem start_any (v : Int) (w : World) : Calls Try.prog 24 #[.int .i64 v] w fun e w' => e = .returned (.int .i64 (stV v)) ∧ w = w' := by
  go_enter Try.func24, Try.ntmps24
  go_wp2
  all_goals go_ret
  all_goals exact ⟨ret_int (by unfold stV; omega), rfl⟩
theorem wait_any (v : Int) (w : World) : Calls Try.prog 23 #[.int .i64 v] w fun e w' => e = .returned (.int .i64 (wtV v)) ∧ w = w' := by
  go_enter Try.func23, Try.ntmps23
  go_wp2_with (go_at_call 21; refine (limited29_any _ _ _ _ (by omega)).mono ?_; rintro e w' ⟨rfl, rfl⟩)
  all_goals go_ret
  all_goals exact ⟨rfl, rfl⟩
theorem dist_any (v dec delay : Int) (hd2 : dec ≤ 9223372036854775807) (w : World) : Calls Try.prog 12 #[.int .i64 v, .int .i64 dec, .int .i64 delay] w fun e w' => e = .returned (.int .i64 (dstV v dec delay)) ∧ w = w' := by
  by_cases hv : v ≤ 0
  · have HE : Hid (dstV v dec delay = 0) := by show _ = _; rw [dstV, if_pos hv]
    go_enter Try.func12, Try.ntmps12
    go_wp2
    go_ret
    exact ⟨ret_int HE.out.symm, rfl⟩
  by_cases hd : dec < 1
  · have HE : Hid (dstV v dec delay = 1073741824) := by show _ = _; rw [dstV, if_neg hv, if_pos hd]
    go_enter Try.func12, Try.ntmps12
    go_wp2
    go_ret
    exact ⟨ret_int HE.out.symm, rfl⟩
  have HE := Lib.hid (dstV_pos (delay := delay) (show 0 < v by omega) (show 1 ≤ dec by omega))
  obtain ⟨s1, s2⟩ := @stV_bd v (by omega)
  obtain ⟨w1, w2⟩ := wtV_bd delay
  obtain ⟨p1, p2⟩ := @wt_part v delay (by omega)
  obtain ⟨p3, p4⟩ := @dst_part v dec (by omega) (by omega)
  obtain ⟨n1, n2⟩ := @nV_bd v dec (by omega) (by omega)
  have m1 : 0 ≤ nV v dec * stV v := Int.mul_nonneg (by omega) (by omega)
  have m2 : nV v dec * stV v ≤ 20000 * 20000 := Int.mul_le_mul (by omega) (by omega) (by omega) (by omega)
  have m3 : 0 ≤ nV v dec * (nV v dec + 1) := Int.mul_nonneg (by omega) (by omega)
  have m4 : nV v dec * (nV v dec + 1) ≤ 20000 * 20000 := Int.mul_le_mul (by omega) (by omega) (by omega) (by omega)
  have m5 : 0 ≤ dec * triV (nV v dec) := Int.mul_nonneg (by omega) (triV_nonneg n1)
  have hn : (stV v - 1) / dec = nV v dec := rfl
  have ht : nV v dec * (nV v dec + 1) / 2 = triV (nV v dec) := rfl
  go_enter Try.func12, Try.ntmps12
  go_wp2_with (go_at_call 22; refine (bounds_any _ _ _).mono ?_; rintro e w' ⟨rfl, rfl⟩)
  go_ret
  exact ⟨ret_int HE.out.symm, rfl⟩
def partV (v dec delay k : Int) : Int := wtV delay * stV v + (k * stV v - dec * triV k)
theorem partV_zero (v dec delay : Int) : partV v dec delay 0 = wtV delay * stV v := by
  have : triV 0 = 0 := rfl
  rw [partV, this]; omega
theorem partV_succ (v dec delay k : Int) : partV v dec delay (k + 1) = partV v dec delay k + (stV v - (k + 1) * dec) := by
  rw [partV, partV, triV_succ]; grind
theorem rdist_any (v dec delay : Int) (hd2 : dec ≤ 9223372036854775807) (w : World) : Calls Try.prog 13 #[.int .i64 v, .int .i64 dec, .int .i64 delay] w fun e w' => e = .returned (.int .i64 (dstV v dec delay)) ∧ w = w' := by
  by_cases hv : v ≤ 0
  · have HE : Hid (dstV v dec delay = 0) := by show _ = _; rw [dstV, if_pos hv]
    go_enter Try.func13, Try.ntmps13
    go_wp2
    go_ret
    exact ⟨ret_int HE.out.symm, rfl⟩
  by_cases hd : dec < 1
  · have HE : Hid (dstV v dec delay = 1073741824) := by show _ = _; rw [dstV, if_neg hv, if_pos hd]
    go_enter Try.func13, Try.ntmps13
    go_wp2
    go_ret
    exact ⟨ret_int HE.out.symm, rfl⟩
  have HE := Lib.hid (dstV_pos (delay := delay) (show 0 < v by omega) (show 1 ≤ dec by omega))
  obtain ⟨s1, s2⟩ := @stV_bd v (by omega)
  obtain ⟨w1, w2⟩ := wtV_bd delay
  obtain ⟨p1, p2⟩ := @wt_part v delay (by omega)
  obtain ⟨n1, n2⟩ := @nV_bd v dec (by omega) (by omega)
  go_enter Try.func13, Try.ntmps13
  go_wp2_with (first
    | (go_at_call 23; refine (wait_any _ _).mono ?_; rintro e w' ⟨rfl, rfl⟩)
    | (go_at_call 24; refine (start_any _ _).mono ?_; rintro e w' ⟨rfl, rfl⟩))
  go_loopg [7, 8] 20000 (fun g sum u wr => ∃ (k : Nat) (q x : Int), wr = w ∧ g = 20000 - k ∧ k ≤ nV v dec ∧ sum = .int .i64 q ∧ u = .int .i64 x ∧ Hid (q = partV v dec delay k ∧ x = stV v - (k + 1) * dec) ∧ 0 ≤ q ∧ q ≤ 200000 + 20000 * k)
  case atStart => exact ⟨0, _, _, rfl, rfl, by omega, rfl, rfl, ⟨(partV_zero ..).symm, by simp⟩, by omega, by omega⟩
  case round =>
    obtain ⟨k, q, x, rfl, hg, hk, rfl, rfl, hq, hq1, hq2⟩ := hrel
    have HG := Lib.hid hg
    clear hg
    obtain ⟨e1, e2⟩ := hq.out
    have hl := @nV_lt v dec (k + 1) (by omega)
    have hkd : 0 ≤ k * dec := Int.mul_nonneg (by omega) (by omega)
    have hkm : (k : Int) * dec ≤ nV v dec * dec := Int.mul_le_mul_of_nonneg_right hk (by omega)
    have hnm := (@nV_mul v dec (by omega)).1
    have hx1 : x ≤ 20000 := by rw [e2, Int.add_mul]; omega
    have hx2 : -9223372036854775807 ≤ x := by rw [e2, Int.add_mul]; omega
    clear hkd hkm hnm
    by_cases hx : 0 < x
    · have hk2 : (k : Int) + 1 ≤ nV v dec := by omega
      clear e1 e2 hl
      go_wp2
      go_roundg (20000 - (k + 1))
      case measure => have := HG.out; omega
      case rel =>
        obtain ⟨e1, e2⟩ := hq.out
        refine ⟨k + 1, _, _, rfl, rfl, by omega, rfl, rfl, ⟨?_, ?_⟩, by omega, by omega⟩
        · have : ((k + 1 : Nat) : Int) = k + 1 := by omega
          rw [this, partV_succ, e1, e2]
        · have : ((k + 1 : Nat) : Int) = k + 1 := by omega
          rw [this, e2]; grind
    · have hk2 : (k : Int) = nV v dec := by omega
      have HK := Lib.hid hk2
      clear e1 e2 hl hk2
      go_wp2
      go_ret
      exact ⟨ret_int (by have h1 := HK.out; have h2 := hq.out.1; have h3 := HE.out; rw [h2, h3, h1, partV]; omega), rfl⟩
theorem time_any (v dec delay : Int) (hd2 : dec ≤ 9223372036854775807) (w : World) : Calls Try.prog 14 #[.int .i64 v, .int .i64 dec, .int .i64 delay] w fun e w' => e = .returned (.int .i64 (timV v dec delay)) ∧ w = w' := by
  by_cases hv : v ≤ 0
  · have HE : Hid (timV v dec delay = 0) := by show _ = _; rw [timV, if_pos hv]
    go_enter Try.func14, Try.ntmps14
    go_wp2
    go_step3
    go_wp2
    try rw [Exit.noGoto_ret]
    go_ret
    exact ⟨ret_int HE.out.symm, rfl⟩
  by_cases hd : dec < 1
  · have HE : Hid (timV v dec delay = 1073741824) := by show _ = _; rw [timV, if_neg hv, if_pos hd]
    go_enter Try.func14, Try.ntmps14
    go_wp2
    go_step3
    go_wp2
    try rw [Exit.noGoto_ret]
    go_ret
    exact ⟨ret_int HE.out.symm, rfl⟩
  have HE := Lib.hid (timV_pos (delay := delay) (show 0 < v by omega) (show 1 ≤ dec by omega))
  obtain ⟨s1, s2⟩ := @stV_bd v (by omega)
  obtain ⟨w1, w2⟩ := wtV_bd delay
  obtain ⟨n1, n2⟩ := @nV_bd v dec (by omega) (by omega)
  have step : ∀ k : Nat, (k : Int) ≤ nV v dec → stV v - (k + 1) * dec ≤ 20000 ∧ -9223372036854775807 ≤ stV v - (k + 1) * dec ∧ 0 ≤ k * dec ∧ k * dec ≤ 20000 ∧ (stV v - (k + 1) * dec ≤ 0 ↔ nV v dec = k) := fun k hk => by
    have hl := @nV_lt v dec (k + 1) (by omega)
    have hkd : 0 ≤ k * dec := Int.mul_nonneg (by omega) (by omega)
    have hkm : (k : Int) * dec ≤ nV v dec * dec := Int.mul_le_mul_of_nonneg_right hk (by omega)
    have hnm := (@nV_mul v dec (by omega)).1
    rw [Int.add_mul] at *
    omega
  have ST := Lib.hid step
  clear step
  go_enter Try.func14, Try.ntmps14
  go_wp2
  refine wp_scope_jumps 0 (fun a' w' => w' = w ∧ ∃ (k : Nat) (x c : Int) (u2 u3 u4 u5 u6 u8 u9 u10 u11 u12 u13 u14 u15 u16 u17 u18 u19 u20 u21 u22 u23 u24 u25 : Value), a' = { tmps := #[.int .i64 x, .int .i64 dec, u2, u3, u4, u5, u6, .int .i64 c, u8, u9, u10, u11, u12, u13, u14, u15, u16, u17, u18, u19, u20, u21, u22, u23, u24, u25], defers := [] } ∧ (k : Int) ≤ nV v dec ∧ Hid (x = stV v - k * dec) ∧ c = wtV delay + k) (fun a' _ => (30000 - intOf (a'.tmps.getD 7 undef)).toNat) rfl ?_ ?_
  · by_cases h0 : stV v - dec ≤ 0
    · have HN : Hid (nV v dec = 0) := by
        have := ST.out 0 (by omega)
        exact this.2.2.2.2.1 (by simp; omega)
      go_wp2_with (go_at_call 22; refine (bounds_any _ _ _).mono ?_; rintro e w' ⟨rfl, rfl⟩)
      go_step3
      go_wp2
      simp only [Exit.jump]
      go_ret
      exact ⟨ret_int (by rw [HE.out, HN.out]; omega), rfl⟩
    · have HN : Hid (1 ≤ nV v dec) := by
        have := ST.out 0 (by omega)
        have h2 := this.2.2.2.2.2
        show 1 ≤ nV v dec
        simp at h2
        omega
      go_wp2_with (go_at_call 22; refine (bounds_any _ _ _).mono ?_; rintro e w' ⟨rfl, rfl⟩)
      go_step3
      go_wp2
      go_step3
      exact ⟨rfl, rfl, 1, _, _, _, _, _, _, _, _, _, _, _, _, _, _, _, _, _, _, _, _, _, _, _, _, _, rfl, HN.out, (by show _ = _; omega), rfl⟩
  · rintro a' w' ⟨rfl, k, x, c, u2, u3, u4, u5, u6, u8, u9, u10, u11, u12, u13, u14, u15, u16, u17, u18, u19, u20, u21, u22, u23, u24, u25, rfl, hk, hx, hc⟩
    obtain ⟨t1, t2, t3, t4, t5⟩ := ST.out k hk
    have ex : x - dec = stV v - (k + 1) * dec := by rw [hx.out, Int.add_mul]; omega
    have EX := Lib.hid ex
    have hx1 : x - dec ≤ 20000 := by omega
    have hx2 : -9223372036854775807 ≤ x - dec := by omega
    have HC := Lib.hid hc
    have hc1 : 0 ≤ c := by omega
    have hc2 : c ≤ 20010 := by omega
    by_cases h0 : x - dec ≤ 0
    · have HN : Hid (nV v dec = k) := t5.1 (by omega)
      clear t1 t2 t3 t4 t5 ex hc
      go_wp2
      simp only [Exit.jump]
      go_ret
      exact ⟨ret_int (by rw [HE.out, HN.out, HC.out]), rfl⟩
    · have HN : Hid ((k : Int) + 1 ≤ nV v dec) := by show _ ≤ _; omega
      clear t1 t2 t3 t4 t5 ex hc
      go_wp2
      go_step3
      refine ⟨rfl, ⟨rfl, k + 1, x - dec, c + 1, _, _, _, _, _, _, _, _, _, _, _, _, _, _, _, _, _, _, _, _, _, _, _, rfl, HN.out, ?_, ?_⟩, ?_⟩
      · show _ = _
        rw [EX.out]; rfl
      · have := HC.out; omega
      · have := HC.out
        have := HN.out
        simp [intOf]
        omega
theorem rtime_any (v dec delay : Int) (hd2 : dec ≤ 9223372036854775807) (w : World) : Calls Try.prog 15 #[.int .i64 v, .int .i64 dec, .int .i64 delay] w fun e w' => e = .returned (.int .i64 (timV v dec delay)) ∧ w = w' := by
  by_cases hv : v ≤ 0
  · have HE : Hid (timV v dec delay = 0) := by show _ = _; rw [timV, if_pos hv]
    go_enter Try.func15, Try.ntmps15
    go_wp2
    go_ret
    exact ⟨ret_int HE.out.symm, rfl⟩
  by_cases hd : dec < 1
  · have HE : Hid (timV v dec delay = 1073741824) := by show _ = _; rw [timV, if_neg hv, if_pos hd]
    go_enter Try.func15, Try.ntmps15
    go_wp2
    go_ret
    exact ⟨ret_int HE.out.symm, rfl⟩
  have HE := Lib.hid (timV_pos (delay := delay) (show 0 < v by omega) (show 1 ≤ dec by omega))
  obtain ⟨s1, s2⟩ := @stV_bd v (by omega)
  obtain ⟨w1, w2⟩ := wtV_bd delay
  obtain ⟨n1, n2⟩ := @nV_bd v dec (by omega) (by omega)
  go_enter Try.func15, Try.ntmps15
  go_wp2_with (first
    | (go_at_call 23; refine (wait_any _ _).mono ?_; rintro e w' ⟨rfl, rfl⟩)
    | (go_at_call 24; refine (start_any _ _).mono ?_; rintro e w' ⟨rfl, rfl⟩))
  go_loopg [7, 8] 20010 (fun g n u wr => ∃ (k : Nat) (c x : Int), wr = w ∧ g = 20010 - k ∧ k ≤ nV v dec + 1 ∧ n = .int .i64 c ∧ u = .int .i64 x ∧ Hid (c = wtV delay + k ∧ x = stV v - k * dec) ∧ 0 ≤ c ∧ c ≤ 10 + k)
  case atStart => exact ⟨0, _, _, rfl, rfl, by omega, rfl, rfl, ⟨by simp, by simp⟩, by omega, by omega⟩
  case round =>
    obtain ⟨k, c, x, rfl, hg, hk, rfl, rfl, hq, hq1, hq2⟩ := hrel
    have HG := Lib.hid hg
    clear hg
    obtain ⟨e1, e2⟩ := hq.out
    have hl := @nV_lt v dec k (by omega)
    have hkd : 0 ≤ k * dec := Int.mul_nonneg (by omega) (by omega)
    have hx1 : x ≤ 20000 := by omega
    by_cases hx : 0 < x
    · have hk2 : (k : Int) ≤ nV v dec := by omega
      have hx2 : -9223372036854775807 ≤ x - dec := by omega
      clear e1 e2 hl
      go_wp2
      go_roundg (20010 - (k + 1))
      case measure => have := HG.out; omega
      case rel =>
        obtain ⟨e1, e2⟩ := hq.out
        refine ⟨k + 1, _, _, rfl, rfl, by omega, rfl, rfl, ⟨by omega, ?_⟩, by omega, by omega⟩
        have : ((k + 1 : Nat) : Int) = k + 1 := by omega
        rw [this, e2]; grind
    · have hk2 : (k : Int) = nV v dec + 1 := by omega
      have HK := Lib.hid hk2
      clear e1 e2 hl hk2
      go_wp2
      go_ret
      exact ⟨ret_int (by have h1 := HK.out; have h2 := hq.out.1; have h3 := HE.out; omega), rfl⟩
theorem after_any (v dec delay cycles : Int) (hd2 : dec ≤ 9223372036854775807) (hc : cycles ≤ 9223372036854775807) (w : World) : Calls Try.prog 16 #[.int .i64 v, .int .i64 dec, .int .i64 delay, .int .i64 cycles] w fun e w' => e = .returned (.int .i64 (aftV v dec delay cycles)) ∧ w = w' := by
  have HE : Hid (aftV v dec delay cycles = if v ≤ 0 then 0 else if cycles ≤ wtV delay ∨ dec < 1 then stV v else if cycles - wtV delay > nV v dec then 0 else stV v - (cycles - wtV delay) * dec) := rfl
  by_cases hv : v ≤ 0
  · go_enter Try.func16, Try.ntmps16
    go_wp2
    go_ret
    exact ⟨ret_int (by rw [HE.out, if_pos hv]), rfl⟩
  obtain ⟨s1, s2⟩ := @stV_bd v (by omega)
  obtain ⟨w1, w2⟩ := wtV_bd delay
  by_cases hw : cycles ≤ wtV delay ∨ dec < 1
  · have hw' : decide (cycles ≤ wtV delay) = true ∨ (decide (cycles ≤ wtV delay) = false ∧ decide (dec < 1) = true) := by simp; omega
    have HW := Lib.hid hw
    clear hw
    rcases hw' with h1 | ⟨h1, h2⟩
    all_goals go_enter Try.func16, Try.ntmps16
    all_goals go_wp2_with (go_at_call 22; refine (bounds_any _ _ _).mono ?_; rintro e w' ⟨rfl, rfl⟩)
    all_goals go_ret
    all_goals exact ⟨ret_int (by rw [HE.out, if_neg (by omega), if_pos HW.out]), rfl⟩
  have hw1 : wtV delay < cycles := by omega
  have hw2 : 1 ≤ dec := by omega
  clear hw
  obtain ⟨n1, n2⟩ := @nV_bd v dec (by omega) (by omega)
  have hn : (stV v - 1) / dec = nV v dec := rfl
  have hl := @nV_lt v dec (cycles - wtV delay) (by omega)
  have hm : 0 ≤ (cycles - wtV delay) * dec := Int.mul_nonneg (by omega) (by omega)
  by_cases hz : nV v dec < cycles - wtV delay
  · have HZ : Hid ((if cycles - wtV delay > nV v dec then 0 else stV v - (cycles - wtV delay) * dec) = 0) := by show _ = _; rw [if_pos hz]
    clear hl hm
    go_enter Try.func16, Try.ntmps16
    go_wp2_with (go_at_call 22; refine (bounds_any _ _ _).mono ?_; rintro e w' ⟨rfl, rfl⟩)
    go_ret
    exact ⟨ret_int (by rw [HE.out, if_neg (by omega), if_neg (by omega), HZ.out]), rfl⟩
  · have HZ : Hid ((if cycles - wtV delay > nV v dec then 0 else stV v - (cycles - wtV delay) * dec) = stV v - (cycles - wtV delay) * dec) := by show _ = _; rw [if_neg hz]
    have hm2 : (cycles - wtV delay) * dec < stV v := by omega
    clear hl
    go_enter Try.func16, Try.ntmps16
    go_wp2_with (go_at_call 22; refine (bounds_any _ _ _).mono ?_; rintro e w' ⟨rfl, rfl⟩)
    go_ret
    exact ⟨ret_int (by rw [HE.out, if_neg (by omega), if_neg (by omega), HZ.out]), rfl⟩
theorem rafter_any (v dec delay cycles : Int) (hd2 : dec ≤ 9223372036854775807) (hc : cycles ≤ 9223372036854775807) (w : World) : Calls Try.prog 17 #[.int .i64 v, .int .i64 dec, .int .i64 delay, .int .i64 cycles] w fun e w' => e = .returned (.int .i64 (aftV v dec delay cycles)) ∧ w = w' := by
  have HE : Hid (aftV v dec delay cycles = if v ≤ 0 then 0 else if cycles ≤ wtV delay ∨ dec < 1 then stV v else if cycles - wtV delay > nV v dec then 0 else stV v - (cycles - wtV delay) * dec) := rfl
  by_cases hv : v ≤ 0
  · go_enter Try.func17, Try.ntmps17
    go_wp2
    go_ret
    exact ⟨ret_int (by rw [HE.out, if_pos hv]), rfl⟩
  obtain ⟨s1, s2⟩ := @stV_bd v (by omega)
  obtain ⟨w1, w2⟩ := wtV_bd delay
  by_cases hw : cycles ≤ wtV delay ∨ dec < 1
  · have hw' : decide (cycles ≤ wtV delay) = true ∨ (decide (cycles ≤ wtV delay) = false ∧ decide (dec < 1) = true) := by simp; omega
    have HW := Lib.hid hw
    clear hw
    rcases hw' with h1 | ⟨h1, h2⟩
    all_goals go_enter Try.func17, Try.ntmps17
    all_goals go_wp2_with (first
        | (go_at_call 23; refine (wait_any _ _).mono ?_; rintro e w' ⟨rfl, rfl⟩)
        | (go_at_call 24; refine (start_any _ _).mono ?_; rintro e w' ⟨rfl, rfl⟩))
    all_goals go_ret
    all_goals exact ⟨ret_int (by rw [HE.out, if_neg (by omega), if_pos HW.out]), rfl⟩
  have hw1 : wtV delay < cycles := by omega
  have hw2 : 1 ≤ dec := by omega
  clear hw
  have HE2 : Hid (aftV v dec delay cycles = if cycles - wtV delay > nV v dec then 0 else stV v - (cycles - wtV delay) * dec) := by
    show _ = _; rw [HE.out, if_neg (by omega), if_neg (by omega)]
  have hl := @nV_lt v dec (cycles - wtV delay) (by omega)
  have hm0 : 1 ≤ cycles - wtV delay := by omega
  by_cases hq : stV v ≤ dec ∨ stV v ≤ cycles - wtV delay
  · have hz : stV v ≤ (cycles - wtV delay) * dec := by
      rcases hq with h | h
      · have := Int.mul_le_mul hm0 h (by omega) (by omega); omega
      · have := Int.mul_le_mul h hw2 (by omega) (by omega); omega
    have HZ : Hid (aftV v dec delay cycles = 0) := by show _ = _; rw [HE2.out, if_pos (by omega)]
    have hq' : decide (stV v ≤ dec) = true ∨ (decide (stV v ≤ dec) = false ∧ decide (stV v ≤ cycles - wtV delay) = true) := by simp; omega
    clear hl hq hz
    rcases hq' with h1 | ⟨h1, h2⟩
    all_goals go_enter Try.func17, Try.ntmps17
    all_goals go_wp2_with (first
        | (go_at_call 23; refine (wait_any _ _).mono ?_; rintro e w' ⟨rfl, rfl⟩)
        | (go_at_call 24; refine (start_any _ _).mono ?_; rintro e w' ⟨rfl, rfl⟩))
    all_goals go_ret
    all_goals exact ⟨ret_int HZ.out.symm, rfl⟩
  · have h1 : dec < stV v := by omega
    have h2 : cycles - wtV delay < stV v := by omega
    have hm1 : 0 ≤ (cycles - wtV delay) * dec := Int.mul_nonneg (by omega) (by omega)
    have hm2 : (cycles - wtV delay) * dec ≤ 20000 * 20000 := Int.mul_le_mul (by omega) (by omega) (by omega) (by omega)
    have HZ : Hid (aftV v dec delay cycles = max 0 (stV v - (cycles - wtV delay) * dec)) := by
      show _ = _; rw [HE2.out]; split <;> omega
    clear hl hq
    go_enter Try.func17, Try.ntmps17
    go_wp2_with (first
        | (go_at_call 23; refine (wait_any _ _).mono ?_; rintro e w' ⟨rfl, rfl⟩)
        | (go_at_call 24; refine (start_any _ _).mono ?_; rintro e w' ⟨rfl, rfl⟩))
    all_goals go_ret
    all_goals exact ⟨ret_int (by rw [HZ.out]; omega), rfl⟩
theorem speed_any (d dec delay : Int) (hd2 : dec ≤ 9223372036854775807) (w : World) : Calls Try.prog 18 #[.int .i64 d, .int .i64 dec, .int .i64 delay] w fun e w' => e = .returned (.int .i64 (spdV d dec delay)) ∧ w = w' := by
  by_cases hd : d < 0
  · have HE := Lib.hid ((spdV_is d dec delay).1 hd)
    go_enter Try.func18, Try.ntmps18
    go_wp2
    go_ret
    exact ⟨ret_int HE.out.symm, rfl⟩
  · have h0 : dstV 0 dec delay = 0 := by rw [dstV, if_pos (by omega)]
    go_enter Try.func18, Try.ntmps18
    go_wp2
    go_loopg [7, 8] 10000 (fun g lo hi wr => ∃ (l h : Int), wr = w ∧ g = (h - l).toNat ∧ lo = .int .i64 l ∧ hi = .int .i64 h ∧ 0 ≤ l ∧ l ≤ h ∧ h ≤ 10000 ∧ Hid (dstV l dec delay ≤ d ∧ (h = 10000 ∨ d < dstV (h + 1) dec delay)))
    case atStart => exact ⟨0, 10000, rfl, rfl, rfl, rfl, by omega, by omega, by omega, by omega, .inl rfl⟩
    case round =>
      obtain ⟨l, h, rfl, hg, rfl, rfl, h1, h2, h3, H⟩ := hrel
      have HG := Lib.hid hg
      clear hg
      by_cases hlt : l < h
      · obtain ⟨b1, b2⟩ := dstV_bd ((l + h + 1) / 2) dec delay
        by_cases hm : dstV ((l + h + 1) / 2) dec delay ≤ d
        · have HM := Lib.hid hm
          go_wp2_with (go_at_call 12; refine (dist_any _ _ _ hd2 _).mono ?_; rintro e w' ⟨rfl, rfl⟩)
          go_roundg (h - (l + h + 1) / 2).toNat
          case measure => have := HG.out; omega
          case rel => exact ⟨_, _, rfl, rfl, rfl, rfl, by omega, by omega, by omega, HM.out, H.out.2⟩
        · have hm' : d < dstV ((l + h + 1) / 2) dec delay := by omega
          have HM := Lib.hid hm'
          clear hm
          go_wp2_with (go_at_call 12; refine (dist_any _ _ _ hd2 _).mono ?_; rintro e w' ⟨rfl, rfl⟩)
          go_roundg ((l + h + 1) / 2 - 1 - l).toNat
          case measure => have := HG.out; omega
          case rel => exact ⟨_, _, rfl, rfl, rfl, rfl, by omega, by omega, by omega, H.out.1, .inr (by have := HM.out; rwa [Int.sub_add_cancel])⟩
      · have hle : h = l := by omega
        have HR : Hid (l = spdV d dec delay) := by
          refine IsSpeed.spd ⟨fun h => by omega, fun _ => ⟨h1, by omega, H.out.1, ?_⟩⟩
          have := H.out.2
          rwa [hle] at this
        clear hle
        go_wp2
        go_ret
        exact ⟨ret_int HR.out, rfl⟩
end Go.Proofs.Ytjafpambbmohlaa
