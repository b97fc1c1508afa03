/- Chapter 33's laws: Reach, Ceiling. -/
import Derived.Test.YtajoiajhkbljkaaWLawG2
set_option linter.unusedVariables false
set_option linter.unusedSimpArgs false
namespace Go.Proofs.Ytajoiajhkbljkaa
open Go.ChangeShapes Go.WideShapes Go.ChangeAt Go.RowKit
open Sg

/-- What holds of the speed v and the way x behind i cycles of braking from the speed u: the way and what is left of braking make the braking distance. -/
def RunOk (u dec delay v x : Int) (i : Int) : Prop := 1 ≤ i ∧ 0 ≤ v ∧ v ≤ u ∧ 0 ≤ x ∧ ((i ≤ delay + 1 ∧ v = u ∧ x = (i - 1) * u) ∨ (delay + 1 ≤ i ∧ x + dstV v dec 0 = dstV u dec delay))
theorem run_start {u dec delay : Int} (hu : 0 ≤ u) (hd : 0 ≤ delay) : RunOk u dec delay u 0 1 := ⟨by omega, hu, by omega, by omega, .inl ⟨by omega, rfl, by omega⟩⟩
/-- Behind all waiting, the sum is right. -/
theorem run_turn {u dec delay v x i : Int} (hu : 0 < u) (hu2 : u ≤ 10000) (h1 : 1 ≤ dec) (hd : 0 ≤ delay) (hd2 : delay ≤ 10) (h : RunOk u dec delay v x i) (hi : delay < i) : x + dstV v dec 0 = dstV u dec delay := by
  obtain ⟨_, _, _, _, h | h⟩ := h
  · obtain ⟨h2, rfl, rfl⟩ := h
    have : i - 1 = delay := by omega
    rw [this, dst_wait delay hu h1]
    have e1 : stV v = v := by unfold stV; omega
    have e2 : wtV delay = delay := by unfold wtV clampV; omega
    rw [e1, e2]
  · exact h.2
theorem run_wait {u dec delay v x i : Int} (hu : 0 < u) (h : RunOk u dec delay v x i) (hi : i ≤ delay) : RunOk u dec delay v (x + v) (i + 1) := by
  obtain ⟨h1, h2, h3, h4, h | h⟩ := h
  · obtain ⟨h5, rfl, rfl⟩ := h
    refine ⟨by omega, h2, h3, by omega, .inl ⟨by omega, rfl, ?_⟩⟩
    have : i + 1 - 1 = (i - 1) + 1 := by omega
    rw [this, Int.add_mul, Int.one_mul]
  · omega
theorem run_brake {u dec delay v x i : Int} (hu : 0 < u) (hu2 : u ≤ 10000) (h1 : 1 ≤ dec) (hd : 0 ≤ delay) (hd2 : delay ≤ 10) (hv : 0 < v) (h : RunOk u dec delay v x i) (hi : delay < i) : RunOk u dec delay (max 0 (v - dec)) (x + max 0 (v - dec)) (i + 1) := by
  have e := run_turn hu hu2 h1 hd hd2 h hi
  obtain ⟨h2, h3, h4, h5, _⟩ := h
  have d := dst_one hv (by omega) h1
  exact ⟨by omega, by omega, by omega, by omega, .inr ⟨by omega, by omega⟩⟩
/-- Where it is still faster than the target, it has not moved further than the distance. -/
theorem run_far {u dec delay v x i d t : Int} (hu2 : u ≤ 10000) (h1 : 1 ≤ dec) (hd : 0 ≤ delay) (hd2 : delay ≤ 10) (ht : 0 ≤ t) (h : RunOk u dec delay v x i) (hb : dstV u dec delay ≤ d + dstV t dec 0) (hv : t < v) : x ≤ d := by
  have hu : 0 < u := by obtain ⟨_, _, _, _⟩ := h; omega
  have m := dstV_mono (dec := dec) (delay := 0) (show t ≤ v by omega)
  by_cases c : delay < i
  · have := run_turn hu hu2 h1 hd hd2 h c
    omega
  · obtain ⟨k1, k2, k3, k4, h | h⟩ := h
    · obtain ⟨k5, rfl, rfl⟩ := h
      rw [dst_wait delay hu h1] at hb
      have e1 : stV v = v := by unfold stV; omega
      have e2 : wtV delay = delay := by unfold wtV clampV; omega
      rw [e1, e2] at hb
      have : (i - 1) * v ≤ delay * v := Int.mul_le_mul_of_nonneg_right (by omega) (by omega)
      omega
    · omega
theorem tow_reach {d t dec delay : Int} (hd : 0 ≤ d) (hd2 : d ≤ 1073741824) (ht : 0 ≤ t) (h : t < towV d t dec delay) : towV d t dec delay ≤ 10000 ∧ dstV (towV d t dec delay) dec delay ≤ d + dstV t dec 0 := by
  have k := towV_is d t dec delay
  by_cases c : noTow d t dec delay
  · have := k.1 c; omega
  · obtain ⟨h1, h2, h3, h4⟩ := k.2 c
    refine ⟨h2, ?_⟩
    have e : roomV d t dec = d + dstV t dec 0 := by unfold roomV; rw [Int.min_eq_left hd2]
    omega
set_option maxHeartbeats 8000000 in
theorem reach_walk (d t dec delay : Int) (w : World) (hd2 : dec ≤ 9223372036854775807) :
    Calls Try.prog 5 #[.int .i64 d, .int .i64 t, .int .i64 dec, .int .i64 delay] w fun e w' => e = .returned (.bool true) ∧ Below w.heap.size w w' := by
  by_cases h0 : d < 0
  · go_enter Try.func5, Try.ntmps5
    go_wp2_with (go_at_call 11; refine (to_after (alive_any _)).mono ?_; rintro e w' ⟨z, rfl, rfl⟩)
    go_ret
    exact ⟨rfl, z.is⟩
  by_cases h1 : 1073741824 < d
  · go_enter Try.func5, Try.ntmps5
    go_wp2_with (go_at_call 11; refine (to_after (alive_any _)).mono ?_; rintro e w' ⟨z, rfl, rfl⟩)
    go_ret
    exact ⟨rfl, z.is⟩
  by_cases h2 : t < 0
  · go_enter Try.func5, Try.ntmps5
    go_wp2_with (go_at_call 11; refine (to_after (alive_any _)).mono ?_; rintro e w' ⟨z, rfl, rfl⟩)
    go_ret
    exact ⟨rfl, z.is⟩
  by_cases h3 : 10000 < t
  · go_enter Try.func5, Try.ntmps5
    go_wp2_with (go_at_call 11; refine (to_after (alive_any _)).mono ?_; rintro e w' ⟨z, rfl, rfl⟩)
    go_ret
    exact ⟨rfl, z.is⟩
  by_cases h4 : dec < 1
  · go_enter Try.func5, Try.ntmps5
    go_wp2_with (go_at_call 11; refine (to_after (alive_any _)).mono ?_; rintro e w' ⟨z, rfl, rfl⟩)
    go_ret
    exact ⟨rfl, z.is⟩
  by_cases h5 : delay < 0
  · go_enter Try.func5, Try.ntmps5
    go_wp2_with (go_at_call 11; refine (to_after (alive_any _)).mono ?_; rintro e w' ⟨z, rfl, rfl⟩)
    go_ret
    exact ⟨rfl, z.is⟩
  by_cases h6 : 10 < delay
  · go_enter Try.func5, Try.ntmps5
    go_wp2_with (go_at_call 11; refine (to_after (alive_any _)).mono ?_; rintro e w' ⟨z, rfl, rfl⟩)
    go_ret
    exact ⟨rfl, z.is⟩
  have k1 := towV_ge d t dec delay
  have k2 : towV d t dec delay ≤ 10000 := by have := towV_le d t dec delay; omega
  have HK : Hid (t < towV d t dec delay → dstV (towV d t dec delay) dec delay ≤ d + dstV t dec 0) := fun h => (tow_reach (by omega) (by omega) (by omega) h).2
  go_enter Try.func5, Try.ntmps5
  go_wp2_with fail
  refine (to_after (toward_any _ _ _ _ hd2 _)).mono ?_
  rintro e w' ⟨y1, rfl, rfl⟩
  have HX1 := Lib.hid y1.is
  obtain ⟨w1, hw1⟩ : ∃ w1, w1 = y1.val := ⟨_, rfl⟩
  rw [← hw1] at HX1 ⊢
  clear hw1
  obtain ⟨u, hu⟩ : ∃ u, u = towV d t dec delay := ⟨_, rfl⟩
  rw [← hu] at HK k1 k2 ⊢
  clear hu
  go_wp2
  go_loopg [9, 10, 11] ((delay + 1 - 1).toNat + u.toNat) (fun g a b c wr => ∃ v x i : Int, a = .int .i64 v ∧ b = .int .i64 x ∧ c = .int .i64 i ∧ 0 ≤ v ∧ v ≤ u ∧ 1 ≤ i ∧ i + v ≤ delay + 1 + u ∧ Hid (wr = w1 ∧ g = (delay + 1 - i).toNat + v.toNat ∧ RunOk u dec delay v x i))
  case atStart => exact ⟨u, 0, 1, rfl, rfl, rfl, by omega, by omega, by omega, by omega, rfl, rfl, run_start (by omega) (by omega)⟩
  case round =>
    obtain ⟨v, x, i, rfl, rfl, rfl, hv, hvu, hi, hiv, H⟩ := hrel
    obtain ⟨rfl, hg, hr⟩ := H.out
    have HG := Lib.hid hg
    have HR := Lib.hid hr
    clear hg hr H
    by_cases hlt : t < v
    · have hb := HK.out (by omega)
      have hx := run_far k2 (by omega) (by omega) (by omega) (by omega) HR.out hb hlt
      have hx0 : 0 ≤ x := HR.out.2.2.2.1
      by_cases hde : delay < i
      · have HN := Lib.hid (run_brake (by omega) k2 (by omega) (by omega) (by omega) (by omega) HR.out hde)
        have hfar : t < max 0 (v - dec) → x + max 0 (v - dec) ≤ d := fun h => run_far k2 (by omega) (by omega) (by omega) (by omega) HN.out hb h
        clear hb
        have kk : (v - dec ≤ 0 ∧ max 0 (v - dec) = 0) ∨ (0 < v - dec ∧ v - dec ≤ t ∧ d < x + (v - dec) ∧ max 0 (v - dec) = v - dec) ∨ (0 < v - dec ∧ x + (v - dec) ≤ d ∧ max 0 (v - dec) = v - dec) := by omega
        clear hfar
        rcases kk with ⟨q1, q3⟩ | ⟨q1, q2, q4, q3⟩ | ⟨q1, q2, q3⟩
        · rw [q3] at HN
          clear q3
          go_wp2
          go_roundg ((delay + 1 - (i + 1)).toNat + (0 : Int).toNat)
          case measure => have := HG.out; omega
          case rel => exact ⟨0, x, i + 1, by go_num, by go_num, by go_num, by omega, by omega, by omega, by omega, rfl, rfl, by have := HN.out; rwa [Int.add_zero] at this⟩
        · rw [q3] at HN
          clear q3
          go_wp2
          go_roundg ((delay + 1 - (i + 1)).toNat + (v - dec).toNat)
          case measure => have := HG.out; omega
          case rel => exact ⟨v - dec, x + (v - dec), i + 1, by go_num, by go_num, by go_num, by omega, by omega, by omega, by omega, rfl, rfl, HN.out⟩
        · rw [q3] at HN
          clear q3
          go_wp2
          go_roundg ((delay + 1 - (i + 1)).toNat + (v - dec).toNat)
          case measure => have := HG.out; omega
          case rel => exact ⟨v - dec, x + (v - dec), i + 1, by go_num, by go_num, by go_num, by omega, by omega, by omega, by omega, rfl, rfl, HN.out⟩
      · have HN := Lib.hid (run_wait (by omega) HR.out (show i ≤ delay by omega))
        have hfar := run_far k2 (by omega) (by omega) (by omega) (by omega) HN.out hb hlt
        clear hb
        go_wp2
        go_roundg ((delay + 1 - (i + 1)).toNat + v.toNat)
        case measure => have := HG.out; omega
        case rel => exact ⟨v, x + v, i + 1, by go_num, by go_num, by go_num, by omega, by omega, by omega, by omega, rfl, rfl, HN.out⟩
    · go_wp2_with (go_at_call 11; refine (to_after (alive_any _)).mono ?_; rintro e w' ⟨z, rfl, rfl⟩)
      go_ret
      exact ⟨rfl, etr HX1.out z.is⟩
end Go.Proofs.Ytajoiajhkbljkaa
