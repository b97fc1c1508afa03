/- Walks of chapter 29's laws. -/
import Derived.Test.YtjafpambbmohlaaWBrake
import Derived.Test.YtjafpambbmohlaaOpen
set_option linter.unusedVariables false
set_option linter.unusedSimpArgs false
namespace Go.Proofs.Ytjafpambbmohlaa
open Go.ChangeShapes Go.WideShapes Go.ChangeAt Go.RowKit
open Sg

theorem spd_a : spdV 4500 100 0 = 1000 := by
  have : IsSpeed 4500 100 0 1000 := ⟨fun h => by omega, fun _ => ⟨by omega, by omega, by decide, .inr (by decide)⟩⟩
  exact this.spd.symm
theorem spd_b : spdV 4499 100 0 = 999 := by
  have : IsSpeed 4499 100 0 999 := ⟨fun h => by omega, fun _ => ⟨by omega, by omega, by decide, .inr (by decide)⟩⟩
  exact this.spd.symm
theorem alive_any (w : World) : Calls Try.prog 11 #[] w fun e w' => e = .returned (.bool true) ∧ w = w' := by
  have e1 : dstV 1000 100 0 = 4500 := by decide
  have e2 : dstV 1000 100 2 = 6500 := by decide
  have e3 : timV 1000 100 2 = 12 := by decide
  have e4 : effV 100 10 = 109 := by decide
  have e5 : effV 100 (-10) = 90 := by decide
  have e6 := spd_a
  have e7 := spd_b
  have e8 : aftV 250 100 1 2 = 150 := by decide
  go_enter Try.func11, Try.ntmps11
  go_wp2_with (first
    | (go_at_call 12; refine (dist_any _ _ _ (by omega) _).mono ?_; rintro e w' ⟨rfl, rfl⟩)
    | (go_at_call 14; refine (time_any _ _ _ (by omega) _).mono ?_; rintro e w' ⟨rfl, rfl⟩)
    | (go_at_call 9; refine (eff_any _ _ _).mono ?_; rintro e w' ⟨rfl, rfl⟩)
    | (go_at_call 18; refine (speed_any _ _ _ (by omega) _).mono ?_; rintro e w' ⟨rfl, rfl⟩)
    | (go_at_call 16; refine (after_any _ _ _ _ (by omega) (by omega) _).mono ?_; rintro e w' ⟨rfl, rfl⟩))
  go_ret
  exact ⟨rfl, rfl⟩

theorem effective_walk (dec grade : Int) (w : World) :
    Calls Try.prog 3 #[.int .i64 dec, .int .i64 grade] w fun e w' => e = .returned (.bool true) ∧ Below w.heap.size w w' := by
  go_enter Try.func3, Try.ntmps3
  go_wp2_with (first
    | (go_at_call 9; refine (eff_any _ _ _).mono ?_; rintro e w' ⟨rfl, rfl⟩)
    | (go_at_call 10; refine (reff_any _ _ _).mono ?_; rintro e w' ⟨rfl, rfl⟩)
    | (go_at_call 11; refine (alive_any _).mono ?_; rintro e w' ⟨rfl, rfl⟩))
  go_ret
  exact ⟨rfl, Below.refl _ _⟩

theorem distance_walk (v dec delay : Int) (hd : dec ≤ 9223372036854775807) (w : World) :
    Calls Try.prog 4 #[.int .i64 v, .int .i64 dec, .int .i64 delay] w fun e w' => e = .returned (.bool true) ∧ Below w.heap.size w w' := by
  go_enter Try.func4, Try.ntmps4
  go_wp2_with (first
    | (go_at_call 12; refine (dist_any _ _ _ hd _).mono ?_; rintro e w' ⟨rfl, rfl⟩)
    | (go_at_call 13; refine (rdist_any _ _ _ hd _).mono ?_; rintro e w' ⟨rfl, rfl⟩)
    | (go_at_call 11; refine (alive_any _).mono ?_; rintro e w' ⟨rfl, rfl⟩))
  go_ret
  exact ⟨rfl, Below.refl _ _⟩

theorem harder_walk (v dec more delay longer : Int) (hd : dec ≤ 9223372036854775807) (hm : more ≤ 9223372036854775807) (w : World) :
    Calls Try.prog 8 #[.int .i64 v, .int .i64 dec, .int .i64 more, .int .i64 delay, .int .i64 longer] w fun e w' => e = .returned (.bool true) ∧ Below w.heap.size w w' := by
  by_cases h : dec < 1 ∨ more < dec ∨ longer < delay
  · have h' : decide (dec < 1) = true ∨ (decide (dec < 1) = false ∧ decide (more < dec) = true) ∨ (decide (dec < 1) = false ∧ decide (more < dec) = false ∧ decide (longer < delay) = true) := by simp; omega
    clear h
    rcases h' with h1 | ⟨h1, h2⟩ | ⟨h1, h2, h3⟩
    all_goals go_enter Try.func8, Try.ntmps8
    all_goals go_wp2_with (go_at_call 11; refine (alive_any _).mono ?_; rintro e w' ⟨rfl, rfl⟩)
    all_goals go_ret
    all_goals exact ⟨rfl, Below.refl _ _⟩
  · have d1 := @dstV_harder v dec more delay (by omega) (by omega)
    have d2 := @dstV_longer v dec delay longer (by omega)
    have d3 := @timV_harder v dec more delay (by omega) (by omega)
    have h1 : decide (dec < 1) = false := by simp; omega
    have h2 : decide (more < dec) = false := by simp; omega
    have h3 : decide (longer < delay) = false := by simp; omega
    clear h
    go_enter Try.func8, Try.ntmps8
    go_wp2_with (first
      | (go_at_call 12; refine (dist_any _ _ _ (by omega) _).mono ?_; rintro e w' ⟨rfl, rfl⟩)
      | (go_at_call 14; refine (time_any _ _ _ (by omega) _).mono ?_; rintro e w' ⟨rfl, rfl⟩)
      | (go_at_call 11; refine (alive_any _).mono ?_; rintro e w' ⟨rfl, rfl⟩))
    go_ret
    exact ⟨rfl, Below.refl _ _⟩

theorem speed_walk (d dec delay : Int) (hd : dec ≤ 9223372036854775807) (w : World) :
    Calls Try.prog 6 #[.int .i64 d, .int .i64 dec, .int .i64 delay] w fun e w' => e = .returned (.bool true) ∧ Below w.heap.size w w' := by
  have H := Lib.hid (spdV_is d dec delay)
  by_cases h : d < 0
  · have e1 : spdV d dec delay = -1 := H.out.1 h
    go_enter Try.func6, Try.ntmps6
    go_wp2_with (first
      | (go_at_call 18; refine (speed_any _ _ _ hd _).mono ?_; rintro e w' ⟨rfl, rfl⟩)
      | (go_at_call 11; refine (alive_any _).mono ?_; rintro e w' ⟨rfl, rfl⟩))
    go_ret
    exact ⟨rfl, Below.refl _ _⟩
  · obtain ⟨h1, h2, h3, h4⟩ := H.out.2 (by omega)
    have hb := dstV_bd (spdV d dec delay + 1) dec delay
    obtain ⟨s, hs⟩ : ∃ s, s = spdV d dec delay := ⟨_, rfl⟩
    have HS := Lib.hid hs
    rw [← hs] at h1 h2 h3 h4 hb
    have h4' : (s == 10000) = true ∨ ((s == 10000) = false ∧ decide (d < dstV (s + 1) dec delay) = true) := by simp; omega
    clear hs h4
    rcases h4' with h5 | ⟨h5, h6⟩
    all_goals go_enter Try.func6, Try.ntmps6
    all_goals go_wp2_with (first
      | (go_at_call 18; refine (speed_any _ _ _ hd _).mono ?_; rintro e w' ⟨rfl, rfl⟩; rw [← HS.out])
      | (go_at_call 12; refine (dist_any _ _ _ hd _).mono ?_; rintro e w' ⟨rfl, rfl⟩)
      | (go_at_call 11; refine (alive_any _).mono ?_; rintro e w' ⟨rfl, rfl⟩))
    all_goals go_ret
    all_goals exact ⟨rfl, Below.refl _ _⟩

theorem times_walk (v dec delay : Int) (A : Option Addr) (xs : List Int) (cap : Nat) (hd : dec ≤ 9223372036854775807) (w : World) (hm : xs.length ≤ maxLen) (hr : RdI w A xs) (hb : ∀ k, k < xs.length → I64 (xs.getD k 0)) :
    Calls Try.prog 5 #[.int .i64 v, .int .i64 dec, .int .i64 delay, .slice A xs.length cap] w fun e w' => e = .returned (.bool true) ∧ Below w.heap.size w w' := by
  unfold maxLen at hm
  have HB := Lib.hid hb
  have HR := Lib.hid hr
  clear hb hr
  obtain ⟨t1, t2⟩ := timV_any v dec delay
  by_cases hl : xs.length ≤ 50
  · have hl' : decide (50 < xs.length) = false := by simpa using hl
    go_enter Try.func5, Try.ntmps5
    go_wp2_with (first
      | (go_at_call 14; refine (time_any _ _ _ hd _).mono ?_; rintro e w' ⟨rfl, rfl⟩)
      | (go_at_call 15; refine (rtime_any _ _ _ hd _).mono ?_; rintro e w' ⟨rfl, rfl⟩))
    go_loopg [9] xs.length (fun g i wr => ∃ (k : Nat), Below w.heap.size w wr ∧ g = xs.length - k ∧ k ≤ xs.length ∧ i = .int .i64 k)
    case atStart => exact ⟨0, Below.refl _ _, rfl, by omega, rfl⟩
    case round =>
      obtain ⟨k, hm0, hg, hk, rfl⟩ := hrel
      have HG := Lib.hid hg
      clear hg
      by_cases hlt : k < xs.length
      · obtain ⟨b, off, rfl, hbs, hc⟩ := HR.out (by omega)
        obtain ⟨x, hx⟩ : ∃ x, x = xs.getD k 0 := ⟨_, rfl⟩
        have hx2 : x ≤ 9223372036854775807 := by rw [hx]; exact (HB.out k hlt).2
        have c1 : wr.cell? ⟨b, off + k, none⟩ = some (.int .i64 x) := by rw [hx, hm0.cell (p := ⟨b, off + k, none⟩) hbs]; exact hc k hlt
        clear hx hc
        have HM := Lib.hid hm0
        clear hm0
        go_wp2
        go_quiet ((first
          | (go_at_call 16; exact quiet_same (after_any _ _ _ _ hd (by omega) _))
          | (go_at_call 17; exact quiet_same (rafter_any _ _ _ _ hd (by omega) _))))
        go_wp2
        go_roundg (xs.length - (k + 1))
        case measure => have := HG.out; omega
        case rel => exact ⟨k + 1, bdrewN HM.out _, rfl, by omega, by go_num⟩
      · have HM := Lib.hid hm0
        clear hm0
        go_wp2_with (go_at_call 11; refine (alive_any _).mono ?_; rintro e w' ⟨rfl, rfl⟩)
        go_ret
        exact ⟨rfl, HM.out⟩
  · have hl' : decide (50 < xs.length) = true := by simpa using hl
    go_enter Try.func5, Try.ntmps5
    go_wp2_with (go_at_call 11; refine (alive_any _).mono ?_; rintro e w' ⟨rfl, rfl⟩)
    go_ret
    exact ⟨rfl, Below.refl _ _⟩

theorem monotone_walk (v u dec delay : Int) (hd : dec ≤ 9223372036854775807) (w : World) :
    Calls Try.prog 7 #[.int .i64 v, .int .i64 u, .int .i64 dec, .int .i64 delay] w fun e w' => e = .returned (.bool true) ∧ Below w.heap.size w w' := by
  by_cases h : u < v ∨ dec < 1
  · have h' : decide (u < v) = true ∨ (decide (u < v) = false ∧ decide (dec < 1) = true) := by simp; omega
    clear h
    rcases h' with h1 | ⟨h1, h2⟩
    all_goals go_enter Try.func7, Try.ntmps7
    all_goals go_wp2_with (go_at_call 11; refine (alive_any _).mono ?_; rintro e w' ⟨rfl, rfl⟩)
    all_goals go_ret
    all_goals exact ⟨rfl, Below.refl _ _⟩
  · have hd1 : 1 ≤ dec := by omega
    have hvu : v ≤ u := by omega
    have h1 : decide (u < v) = false := by simp; omega
    have h2 : decide (dec < 1) = false := by simp; omega
    have m1 := @dstV_mono v u dec delay hvu
    have m2 := @timV_mono v u dec delay hd1 hvu
    obtain ⟨t1, t2⟩ := @timV_bd u dec delay hd1
    have ez : aftV u dec delay (timV u dec delay) = 0 := aftV_end hd1
    clear h
    go_enter Try.func7, Try.ntmps7
    go_wp2_with (first
      | (go_at_call 12; refine (dist_any _ _ _ (by omega) _).mono ?_; rintro e w' ⟨rfl, rfl⟩)
      | (go_at_call 14; refine (time_any _ _ _ (by omega) _).mono ?_; rintro e w' ⟨rfl, rfl⟩))
    go_loopg [10, 11] 20011 (fun g sum i wr => ∃ (k : Nat) (q : Int), wr = w ∧ g = 20011 - k ∧ (k : Int) ≤ timV u dec delay ∧ i = .int .i64 (k + 1) ∧ sum = .int .i64 q ∧ Hid (q = goneV u dec delay k))
    case atStart => exact ⟨0, 0, rfl, rfl, by omega, rfl, rfl, (goneV_zero ..).symm⟩
    case round =>
      obtain ⟨k, q, rfl, hg, hk, rfl, rfl, hq⟩ := hrel
      have HG := Lib.hid hg
      clear hg
      obtain ⟨q1, q2⟩ : 0 ≤ q ∧ q ≤ 20000 * k := by rw [hq.out]; exact goneV_bd hd1 (by omega)
      by_cases hlt : (k : Int) + 1 ≤ timV u dec delay
      · obtain ⟨a1, a2⟩ := aftV_bd u dec delay (k + 1)
        have HN := Lib.hid (@goneV_succ u dec delay k hd1 (by omega))
        by_cases hz : aftV u dec delay (k + 1) = 0
        · have hlast : ¬ ((k : Int) + 1 < timV u dec delay) := aftV_zero hd1 (by omega) hlt hz
          have hlast' : decide ((k : Int) + 1 < timV u dec delay) = false := by simpa using hlast
          have hz' : (aftV u dec delay (k + 1) == 0) = true := by simpa using hz
          clear hz hlast
          go_wp2_with (go_at_call 16; refine (after_any _ _ _ _ hd (by omega) _).mono ?_; rintro e w' ⟨rfl, rfl⟩)
          go_roundg (20011 - (k + 1))
          case measure => have := HG.out; omega
          case rel => exact ⟨k + 1, _, rfl, rfl, by omega, by go_num, rfl, by show _ = _; rw [hq.out]; exact HN.out.symm⟩
        · have hz' : (aftV u dec delay (k + 1) == 0) = false := by simpa using hz
          clear hz
          go_wp2_with (go_at_call 16; refine (after_any _ _ _ _ hd (by omega) _).mono ?_; rintro e w' ⟨rfl, rfl⟩)
          go_roundg (20011 - (k + 1))
          case measure => have := HG.out; omega
          case rel => exact ⟨k + 1, _, rfl, rfl, by omega, by go_num, rfl, by show _ = _; rw [hq.out]; exact HN.out.symm⟩
      · have hqe : (q == dstV u dec delay) = true := by
          have : (k : Int) = timV u dec delay := by omega
          rw [hq.out, this, goneV_end hd1]; simp
        go_wp2_with (first
          | (go_at_call 12; refine (dist_any _ _ _ (by omega) _).mono ?_; rintro e w' ⟨rfl, rfl⟩)
          | (go_at_call 16; refine (after_any _ _ _ _ hd (by omega) _).mono ?_; rintro e w' ⟨rfl, rfl⟩)
          | (go_at_call 11; refine (alive_any _).mono ?_; rintro e w' ⟨rfl, rfl⟩))
        go_ret
        exact ⟨rfl, Below.refl _ _⟩
end Go.Proofs.Ytjafpambbmohlaa
