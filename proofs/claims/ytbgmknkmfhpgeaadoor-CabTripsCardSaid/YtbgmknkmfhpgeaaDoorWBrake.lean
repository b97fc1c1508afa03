/- Walks of package brake (and of its reference): what each function returns. -/
import Derived.Test.YtbgmknkmfhpgeaaDoorWNum
import Derived.Test.YtbgmknkmfhpgeaaDoorPAll
import Derived.WalkMore
import Derived.ScopeJumps
set_option linter.unusedVariables false
set_option linter.unusedSimpArgs false
namespace Go.Proofs.YtbgmknkmfhpgeaaDoor
open Go.ChangeShapes Go.WideShapes Go.ChangeAt Go.RowKit
open Sg
def intOf : Value → Int | .int _ q => q | _ => 0

theorem limited29_any (n lo hi : Int) (w : World) (h : lo ≤ hi) : Calls Tryd.prog 127 #[.int .i64 n, .int .i64 lo, .int .i64 hi] w fun e w' => e = .returned (.int .i64 (clampV n lo hi)) ∧ w = w' := by
  go_enter Tryd.func127, Tryd.ntmps127
  go_wp2
  all_goals go_ret
  all_goals refine ⟨ret_int ?_, rfl⟩
  all_goals unfold clampV
  all_goals omega
theorem eff_any (dec grade : Int) (w : World) : Calls Tryd.prog 104 #[.int .i64 dec, .int .i64 grade] w fun e w' => e = .returned (.int .i64 (effV dec grade)) ∧ w = w' := by
  obtain ⟨h1, h2⟩ := @clampV_le dec 0 200 (by omega)
  obtain ⟨h3, h4⟩ := @clampV_le grade (-1000) 1000 (by omega)
  have hf : -981 ≤ floV (981 * clampV grade (-1000) 1000) 1000 ∧ floV (981 * clampV grade (-1000) 1000) 1000 ≤ 981 := by rw [floV_pos (by omega)]; omega
  obtain ⟨h5, h6⟩ := hf
  have HE := Lib.hid (effV_flo dec grade)
  go_enter Tryd.func104, Tryd.ntmps104
  go_wp2_with (first
    | (go_at_call 84; refine (clamp_any _ _ _ _).mono ?_; rintro e w' ⟨rfl, rfl⟩)
    | (go_at_call 117; refine (floor_any _ _ _ (by omega) (by omega)).mono ?_; rintro e w' ⟨rfl, rfl⟩))
  all_goals go_ret
  all_goals exact ⟨ret_int (by rw [HE.out]; omega), rfl⟩
theorem reff_any (dec grade : Int) (w : World) : Calls Tryd.prog 110 #[.int .i64 dec, .int .i64 grade] w fun e w' => e = .returned (.int .i64 (effV dec grade)) ∧ w = w' := by
  obtain ⟨h1, h2⟩ := @clampV_le dec 0 200 (by omega)
  obtain ⟨h3, h4⟩ := @clampV_le grade (-1000) 1000 (by omega)
  obtain ⟨q, hq⟩ : ∃ q, q = (981 * clampV grade (-1000) 1000).tdiv 1000 := ⟨_, rfl⟩
  obtain ⟨r, hr⟩ : ∃ r, r = (981 * clampV grade (-1000) 1000).tmod 1000 := ⟨_, rfl⟩
  have hqr : 1000 * q + r = 981 * clampV grade (-1000) 1000 := by rw [hq, hr]; exact Int.mul_tdiv_add_tmod _ _
  have hr1 : 0 ≤ 981 * clampV grade (-1000) 1000 → 0 ≤ r ∧ r < 1000 := fun h => by rw [hr]; exact ⟨Int.tmod_nonneg _ h, Int.tmod_lt_of_pos _ (by omega)⟩
  have hr2 : 981 * clampV grade (-1000) 1000 < 0 → r ≤ 0 ∧ -1000 < r := fun h => by
    have e : r = - (-(981 * clampV grade (-1000) 1000)).tmod 1000 := by rw [hr, Int.neg_tmod]; omega
    have := Int.tmod_nonneg 1000 (show 0 ≤ -(981 * clampV grade (-1000) 1000) by omega)
    have := Int.tmod_lt_of_pos (-(981 * clampV grade (-1000) 1000)) (show (0:Int) < 1000 by omega)
    omega
  have HE : Hid (effV dec grade = max (clampV dec 0 200 + (981 * clampV grade (-1000) 1000) / 1000) 0) := rfl
  have hb1 : -982 ≤ (981 * clampV grade (-1000) 1000).tdiv 1000 := by rw [← hq]; omega
  have hb2 : (981 * clampV grade (-1000) 1000).tdiv 1000 ≤ 982 := by rw [← hq]; omega
  by_cases hz : r = 0
  · have hz' : ((981 * clampV grade (-1000) 1000).tmod 1000 != 0) = false := by rw [← hr, hz]; rfl
    have HQ : Hid (q = 981 * clampV grade (-1000) 1000 / 1000 ∧ q = (981 * clampV grade (-1000) 1000).tdiv 1000) := ⟨by omega, hq⟩
    clear hq hr hz
    go_enter Tryd.func110, Tryd.ntmps110
    go_wp2_with (first
      | (go_at_call 127; refine (limited29_any _ _ _ _ (by omega)).mono ?_; rintro e w' ⟨rfl, rfl⟩))
    all_goals go_ret
    all_goals exact ⟨ret_int (by have := HQ.out; rw [HE.out]; omega), rfl⟩
  · have hz' : ((981 * clampV grade (-1000) 1000).tmod 1000 != 0) = true := by rw [← hr]; simpa using hz
    have HQ : Hid (q = (981 * clampV grade (-1000) 1000).tdiv 1000 ∧ (981 * clampV grade (-1000) 1000 < 0 → q - 1 = 981 * clampV grade (-1000) 1000 / 1000) ∧ (0 ≤ 981 * clampV grade (-1000) 1000 → q = 981 * clampV grade (-1000) 1000 / 1000)) := ⟨hq, by omega, by omega⟩
    clear hq hr hz
    go_enter Tryd.func110, Tryd.ntmps110
    go_wp2_with (first
      | (go_at_call 127; refine (limited29_any _ _ _ _ (by omega)).mono ?_; rintro e w' ⟨rfl, rfl⟩))
    all_goals go_ret
    all_goals exact ⟨ret_int (by have := HQ.out; rw [HE.out]; omega), rfl⟩
theorem bounds_any (v delay : Int) (w : World) : Calls Tryd.prog 132 #[.int .i64 v, .int .i64 delay] w fun e w' => e = .returned (.tuple #[.int .i64 (stV v), .int .i64 (wtV delay)]) ∧ w = w' := by
  go_enter Tryd.func132, Tryd.ntmps132
  go_wp2_with (go_at_call 84; refine (clamp_any _ _ _ _).mono ?_; rintro e w' ⟨rfl, rfl⟩)
  all_goals go_ret2
  all_goals exact ⟨ret_int2 (by unfold stV; omega) rfl, rfl⟩
theorem start_any (v : Int) (w : World) : Calls Tryd.prog 116 #[.int .i64 v] w fun e w' => e = .returned (.int .i64 (stV v)) ∧ w = w' := by
  go_enter Tryd.func116, Tryd.ntmps116
  go_wp2
  all_goals go_ret
  all_goals exact ⟨ret_int (by unfold stV; omega), rfl⟩
theorem wait_any (v : Int) (w : World) : Calls Tryd.prog 115 #[.int .i64 v] w fun e w' => e = .returned (.int .i64 (wtV v)) ∧ w = w' := by
  go_enter Tryd.func115, Tryd.ntmps115
  go_wp2_with (go_at_call 127; refine (limited29_any _ _ _ _ (by omega)).mono ?_; rintro e w' ⟨rfl, rfl⟩)
  all_goals go_ret
  all_goals exact ⟨rfl, rfl⟩
theorem dist_any (v dec delay : Int) (hd2 : dec ≤ 9223372036854775807) (w : World) : Calls Tryd.prog 124 #[.int .i64 v, .int .i64 dec, .int .i64 delay] w fun e w' => e = .returned (.int .i64 (dstV v dec delay)) ∧ w = w' := by
  by_cases hv : v ≤ 0
  · have HE : Hid (dstV v dec delay = 0) := by show _ = _; rw [dstV, if_pos hv]
    go_enter Tryd.func124, Tryd.ntmps124
    go_wp2
    go_ret
    exact ⟨ret_int HE.out.symm, rfl⟩
  by_cases hd : dec < 1
  · have HE : Hid (dstV v dec delay = 1073741824) := by show _ = _; rw [dstV, if_neg hv, if_pos hd]
    go_enter Tryd.func124, Tryd.ntmps124
    go_wp2
    go_ret
    exact ⟨ret_int HE.out.symm, rfl⟩
  have HE := Lib.hid (dstV_pos (delay := delay) (show 0 < v by omega) (show 1 ≤ dec by omega))
  obtain ⟨s1, s2⟩ := @stV_bd v (by omega)
  obtain ⟨w1, w2⟩ := wtV_bd delay
  obtain ⟨p1, p2⟩ := @wt_part v delay (by omega)
  obtain ⟨p3, p4⟩ := @dst_part v dec (by omega) (by omega)
  obtain ⟨n1, n2⟩ := @nV_bd v dec (by omega) (by omega)
  have m1 : 0 ≤ nV v dec * stV v := Int.mul_nonneg (by omega) (by omega)
  have m2 : nV v dec * stV v ≤ 20000 * 20000 := Int.mul_le_mul (by omega) (by omega) (by omega) (by omega)
  have m3 : 0 ≤ nV v dec * (nV v dec + 1) := Int.mul_nonneg (by omega) (by omega)
  have m4 : nV v dec * (nV v dec + 1) ≤ 20000 * 20000 := Int.mul_le_mul (by omega) (by omega) (by omega) (by omega)
  have m5 : 0 ≤ dec * triV (nV v dec) := Int.mul_nonneg (by omega) (triV_nonneg n1)
  have hn : (stV v - 1) / dec = nV v dec := rfl
  have ht : nV v dec * (nV v dec + 1) / 2 = triV (nV v dec) := rfl
  go_enter Tryd.func124, Tryd.ntmps124
  go_wp2_with (go_at_call 132; refine (bounds_any _ _ _).mono ?_; rintro e w' ⟨rfl, rfl⟩)
  go_ret
  exact ⟨ret_int HE.out.symm, rfl⟩
def partV (v dec delay k : Int) : Int := wtV delay * stV v + (k * stV v - dec * triV k)
theorem partV_zero (v dec delay : Int) : partV v dec delay 0 = wtV delay * stV v := by
  have : triV 0 = 0 := rfl
  rw [partV, this]; omega
theorem partV_succ (v dec delay k : Int) : partV v dec delay (k + 1) = partV v dec delay k + (stV v - (k + 1) * dec) := by
  rw [partV, partV, triV_succ]; grind
theorem rdist_any (v dec delay : Int) (hd2 : dec ≤ 9223372036854775807) (w : World) : Calls Tryd.prog 79 #[.int .i64 v, .int .i64 dec, .int .i64 delay] w fun e w' => e = .returned (.int .i64 (dstV v dec delay)) ∧ w = w' := by
  by_cases hv : v ≤ 0
  · have HE : Hid (dstV v dec delay = 0) := by show _ = _; rw [dstV, if_pos hv]
    go_enter Tryd.func79, Tryd.ntmps79
    go_wp2
    go_ret
    exact ⟨ret_int HE.out.symm, rfl⟩
  by_cases hd : dec < 1
  · have HE : Hid (dstV v dec delay = 1073741824) := by show _ = _; rw [dstV, if_neg hv, if_pos hd]
    go_enter Tryd.func79, Tryd.ntmps79
    go_wp2
    go_ret
    exact ⟨ret_int HE.out.symm, rfl⟩
  have HE := Lib.hid (dstV_pos (delay := delay) (show 0 < v by omega) (show 1 ≤ dec by omega))
  obtain ⟨s1, s2⟩ := @stV_bd v (by omega)
  obtain ⟨w1, w2⟩ := wtV_bd delay
  obtain ⟨p1, p2⟩ := @wt_part v delay (by omega)
  obtain ⟨n1, n2⟩ := @nV_bd v dec (by omega) (by omega)
  go_enter Tryd.func79, Tryd.ntmps79
  go_wp2_with (first
    | (go_at_call 115; refine (wait_any _ _).mono ?_; rintro e w' ⟨rfl, rfl⟩)
    | (go_at_call 116; refine (start_any _ _).mono ?_; rintro e w' ⟨rfl, rfl⟩))
  go_loopg [7, 8] 20000 (fun g sum u wr => ∃ (k : Nat) (q x : Int), wr = w ∧ g = 20000 - k ∧ k ≤ nV v dec ∧ sum = .int .i64 q ∧ u = .int .i64 x ∧ Hid (q = partV v dec delay k ∧ x = stV v - (k + 1) * dec) ∧ 0 ≤ q ∧ q ≤ 200000 + 20000 * k)
  case atStart => exact ⟨0, _, _, rfl, rfl, by omega, rfl, rfl, ⟨(partV_zero ..).symm, by simp⟩, by omega, by omega⟩
  case round =>
    obtain ⟨k, q, x, rfl, hg, hk, rfl, rfl, hq, hq1, hq2⟩ := hrel
    have HG := Lib.hid hg
    clear hg
    obtain ⟨e1, e2⟩ := hq.out
    have hl := @nV_lt v dec (k + 1) (by omega)
    have hkd : 0 ≤ k * dec := Int.mul_nonneg (by omega) (by omega)
    have hkm : (k : Int) * dec ≤ nV v dec * dec := Int.mul_le_mul_of_nonneg_right hk (by omega)
    have hnm := (@nV_mul v dec (by omega)).1
    have hx1 : x ≤ 20000 := by rw [e2, Int.add_mul]; omega
    have hx2 : -9223372036854775807 ≤ x := by rw [e2, Int.add_mul]; omega
    clear hkd hkm hnm
    by_cases hx : 0 < x
    · have hk2 : (k : Int) + 1 ≤ nV v dec := by omega
      clear e1 e2 hl
      go_wp2
      go_roundg (20000 - (k + 1))
      case measure => have := HG.out; omega
      case rel =>
        obtain ⟨e1, e2⟩ := hq.out
        refine ⟨k + 1, _, _, rfl, rfl, by omega, rfl, rfl, ⟨?_, ?_⟩, by omega, by omega⟩
        · have : ((k + 1 : Nat) : Int) = k + 1 := by omega
          rw [this, partV_succ, e1, e2]
        · have : ((k + 1 : Nat) : Int) = k + 1 := by omega
          rw [this, e2]; grind
    · have hk2 : (k : Int) = nV v dec := by omega
      have HK := Lib.hid hk2
      clear e1 e2 hl hk2
      go_wp2
      go_ret
      exact ⟨ret_int (by have h1 := HK.out; have h2 := hq.out.1; have h3 := HE.out; rw [h2, h3, h1, partV]; omega), rfl⟩
theorem speed_any (d dec delay : Int) (hd2 : dec ≤ 9223372036854775807) (w : World) : Calls Tryd.prog 107 #[.int .i64 d, .int .i64 dec, .int .i64 delay] w fun e w' => e = .returned (.int .i64 (spdV d dec delay)) ∧ w = w' := by
  by_cases hd : d < 0
  · have HE := Lib.hid ((spdV_is d dec delay).1 hd)
    go_enter Tryd.func107, Tryd.ntmps107
    go_wp2
    go_ret
    exact ⟨ret_int HE.out.symm, rfl⟩
  · have h0 : dstV 0 dec delay = 0 := by rw [dstV, if_pos (by omega)]
    go_enter Tryd.func107, Tryd.ntmps107
    go_wp2
    go_loopg [7, 8] 10000 (fun g lo hi wr => ∃ (l h : Int), wr = w ∧ g = (h - l).toNat ∧ lo = .int .i64 l ∧ hi = .int .i64 h ∧ 0 ≤ l ∧ l ≤ h ∧ h ≤ 10000 ∧ Hid (dstV l dec delay ≤ d ∧ (h = 10000 ∨ d < dstV (h + 1) dec delay)))
    case atStart => exact ⟨0, 10000, rfl, rfl, rfl, rfl, by omega, by omega, by omega, by omega, .inl rfl⟩
    case round =>
      obtain ⟨l, h, rfl, hg, rfl, rfl, h1, h2, h3, H⟩ := hrel
      have HG := Lib.hid hg
      clear hg
      by_cases hlt : l < h
      · obtain ⟨b1, b2⟩ := dstV_bd ((l + h + 1) / 2) dec delay
        by_cases hm : dstV ((l + h + 1) / 2) dec delay ≤ d
        · have HM := Lib.hid hm
          go_wp2_with (go_at_call 124; refine (dist_any _ _ _ hd2 _).mono ?_; rintro e w' ⟨rfl, rfl⟩)
          go_roundg (h - (l + h + 1) / 2).toNat
          case measure => have := HG.out; omega
          case rel => exact ⟨_, _, rfl, rfl, rfl, rfl, by omega, by omega, by omega, HM.out, H.out.2⟩
        · have hm' : d < dstV ((l + h + 1) / 2) dec delay := by omega
          have HM := Lib.hid hm'
          clear hm
          go_wp2_with (go_at_call 124; refine (dist_any _ _ _ hd2 _).mono ?_; rintro e w' ⟨rfl, rfl⟩)
          go_roundg ((l + h + 1) / 2 - 1 - l).toNat
          case measure => have := HG.out; omega
          case rel => exact ⟨_, _, rfl, rfl, rfl, rfl, by omega, by omega, by omega, H.out.1, .inr (by have := HM.out; rwa [Int.sub_add_cancel])⟩
      · have hle : h = l := by omega
        have HR : Hid (l = spdV d dec delay) := by
          refine IsSpeed.spd ⟨fun h => by omega, fun _ => ⟨h1, by omega, H.out.1, ?_⟩⟩
          have := H.out.2
          rwa [hle] at this
        clear hle
        go_wp2
        go_ret
        exact ⟨ret_int HR.out, rfl⟩
end Go.Proofs.YtbgmknkmfhpgeaaDoor
